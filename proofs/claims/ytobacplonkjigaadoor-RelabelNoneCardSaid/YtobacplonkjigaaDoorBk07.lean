import Derived.Test.YtobacplonkjigaaDoorBk06
import Derived.Shelf.Bits.Mul64
import Derived.Deep.OwnRows
import Derived.RegionTactic
import Derived.BigRegion
import Derived.Laws.CopyRow
import Derived.Test.YtobacplonkjigaaDoorRows
import Derived.WalkKit
import Derived.WalkSpells
import Derived.WalkLawsBesides
import Derived.Lib.VarintBits
import Derived.Lib.BufferRead
import Derived.Lib.Hide
import Derived.Laws.BytesString
import Derived.LoopTactic
import Derived.Laws.RangeAny
set_option linter.unusedSimpArgs false
set_option linter.unusedVariables false
namespace Go.Proofs.YtobacplonkjigaaDoor
open Go.RowKit P
set_option maxRecDepth 100000
def fw(i0:Nat)(i1:Nat)(r:bJ):TV EE.T:=.tu [.a (.d .byte r.1),.a (.d .bool r.2.1)]
def xe(i0:Nat)(i1:Nat)(r:bJ):List (Nat × TB EE.T):=[(i0,.cs [.d .str r.2.2.1,.d (.int .i64) r.2.2.2.1,.d (.int .i64) r.2.2.2.2.1,.vec (.nam 4) i1 r.2.2.2.2.2.1]),(i1,.vec i1 (.nam 4) r.2.2.2.2.2.2)]
def q7(r:PR bJ):RL EE.T:=qS (fw 100000 200001) (xe 100000 200001) r
def P6:Lvs:=⟨[(1,⟨[(0,false)],[],[(100000,(none,[])),(200001,(none,[]))],[]⟩),(2,⟨[(0,false)],[],[(100000,(none,[])),(200001,(none,[]))],[]⟩)],[],[],[],false,[(100000,(none,[]))],[100000,200001],[],[]⟩
def Pu:List ResultVar:=[.tmp 2,.tmp 3]
def L4(N:Nat):Gam EE:=⟨[],EQT,[],[]⟩
theorem Mb(N:Nat):GOk Tryd.prog TT EE (L4 N):=GOk.nil bP
def MB(c:Code):List It2:=[.c c]
def M0(y0_0:List UInt8)(y0_1:Int)(y0_2:Int)(y0_3:Nat)(y1:List Vstep):TS EE.T:=⟨23,[(0,.a (.box 100000 0))],[(100000,.cs [.d .str y0_0,.d (.int .i64) y0_1,.d (.int .i64) y0_2,.vec (.nam 4) 200001 y0_3]),(200001,.vec 200001 (.nam 4) y1)],[]⟩
abbrev QA(N:Nat)(r:PR bJ)(k:List It2)(s:TS EE.T):Prop:=eN (Y:=TT) EE (L4 N) P6 Pu (fun u=>u=q7 r) k s
def Iy(x:PR bJ):Tree (Lf EE.T × Option (PR bJ)):=.leaf (.done (q7 x),some x)
theorem JY{N:Nat}{r:PR bJ}(y0_0:List UInt8)(y0_1:Int)(y0_2:Int)(y0_3:Nat)(y1:List Vstep)(h:be N y0_0 y0_1 y0_2 y0_3 y1=some r):QA N r (MB (aa 0 Tryd.f73)) (M0 y0_0 y0_1 y0_2 y0_3 y1):=
 am (m:=4000) (t:=
 .cond (decide (y0_1 < (y0_0.length:Int)))
 (
  .bnd (bN y0_0 y0_1) fun z1=>
  Iy (.ok (z1,true,y0_0,y0_1,y0_2,y0_3,y1)))
 (
  Iy (.ok (0,false,y0_0,y0_1,y0_2,y0_3,y1)))) (by kernel_rfl) (by kernel_rfl) h (⟨fun _=>ay (enc:=q7) rfl,ay (enc:=q7) rfl⟩)
def HP(y0_0:List UInt8)(y0_1:Int)(y0_2:Int)(y0_3:Nat)(y1:List Vstep):List (TV EE.T):=[.a (.box 100000 0)]
def Bs(y0_0:List UInt8)(y0_1:Int)(y0_2:Int)(y0_3:Nat)(y1:List Vstep):List (Nat × TB EE.T):=[(100000,.cs [.d .str y0_0,.d (.int .i64) y0_1,.d (.int .i64) y0_2,.vec (.nam 4) 200001 y0_3]),(200001,.vec 200001 (.nam 4) y1)]
theorem nY{N:Nat}(y0_0:List UInt8)(y0_1:Int)(y0_2:Int)(y0_3:Nat)(y1:List Vstep){r:PR bJ}(h:be N y0_0 y0_1 y0_2 y0_3 y1=some r)(ρ:Rn)(hi:Inj ρ (Bs y0_0 y0_1 y0_2 y0_3 y1)):ai Tryd.prog 73 ((HP y0_0 y0_1 y0_2 y0_3 y1).map (TV.to EE.toEnc ρ)) (hTo EE.toEnc ρ (Bs y0_0 y0_1 y0_2 y0_3 y1)) (bQ EE ρ fun u=>u=q7 r):=
 fA (aa 0 Tryd.f73) 23 mixed (Mb N) Tryd.func73 (by kernel_rfl) rfl rfl rfl rfl (JY y0_0 y0_1 y0_2 y0_3 y1 h) ρ hi
def dl(N:Nat)(us:List (TV EE.T))(hs:List (Nat × TB EE.T)):XR EE.T:=
 gdX (gJ us 1) <|
 bnX (aB us 0) fun i0=>
 bnX (bC hs i0) fun l0=>
 gdX (gJ l0 4) <|
 bnX (cD .str l0 0) fun y0_0=>
 bnX (cD (.int .i64) l0 1) fun y0_1=>
 bnX (cD (.int .i64) l0 2) fun y0_2=>
 bnX (cVi (.nam 4) l0 3) fun i1=>
 bnX (cVn (.nam 4) l0 3) fun y0_3=>
 bnX (bV (.nam 4) hs i1) fun y1=>
 gdX (b9 hs [i0,i1]) <|
 gdX (kZ [i0,i1]) <|
 .mv (be N y0_0 y0_1 y0_2 y0_3 y1) [i0,i1] (mvL [i0,i1] [100000,200001]) 0 (fw i0 i1) (xe i0 i1)
theorem dE(N:Nat):XOk Tryd.prog EE 73 (dl N):=fun us hs=>
 aQ fun h1=>ah fun i0 h2=>ah fun l0 h3=>aQ fun h4=>ah fun y0_0 h5=>ah fun y0_1 h6=>ah fun y0_2 h7=>ah fun i1 h8=>ah fun y0_3 h9=>ah fun y1 h10=>aQ fun h11=>aQ fun h12=>fun p hz ρ hi=>jo (ex:=[]) (ks:=[100000,200001]) (us':=HP y0_0 y0_1 y0_2 y0_3 y1) (h0:=Bs y0_0 y0_1 y0_2 y0_3 y1) (ρ':=oA ρ [i0,i1]) (uc:=fw 100000 200001) (u:=fw i0 i1) (hc:=xe 100000 200001) (h:=xe i0 i1) hi h11 (by kernel_rfl) ⟨oC h2 (by kernel_rfl),bY h1⟩ ⟨(by kernel_rfl),o7 h3 ⟨ep h5,ep h6,ep h7,lC h8 h9 (by kernel_rfl),bY h4⟩,(by kernel_rfl),ns h10 (by kernel_rfl),trivial⟩ ⟨.inr rfl,.inl rfl,trivial⟩ h12 (fun hj=>nY y0_0 y0_1 y0_2 y0_3 y1 hz _ hj) (fun z=>⟨by kernel_rfl,by kernel_rfl,by kernel_rfl,by kernel_rfl⟩)
def fi(i0:Nat)(i1:Nat)(r:bH):TV EE.T:=.tu []
def wN(i0:Nat)(i1:Nat)(r:bH):List (Nat × TB EE.T):=[(i0,.cs [.d .str r.1,.d (.int .i64) r.2.1,.d (.int .i64) r.2.2.1,.vec (.nam 4) i1 r.2.2.2.1]),(i1,.vec i1 (.nam 4) r.2.2.2.2)]
def t1(r:PR bH):RL EE.T:=qS (fi 100000 200001) (wN 100000 200001) r
def O9:Lvs:=⟨[],[],[],[],false,[],[100000,200001],[],[]⟩
def PZ:List ResultVar:=[]
def NX(N:Nat):Gam EE:=⟨[],EQT,[],[]⟩
theorem K7(N:Nat):GOk Tryd.prog TT EE (NX N):=GOk.nil bP
def MY(c:Code):List It2:=[.c c]
def Kx(x1:Int)(x2:Int)(y0_0:List UInt8)(y0_1:Int)(y0_2:Int)(y0_3:Nat)(y1:List Vstep):TS EE.T:=⟨10,[(0,.a (.box 100000 0)),(1,.a (.d (.int .i64) x1)),(2,.a (.d (.int .i64) x2))],[(100000,.cs [.d .str y0_0,.d (.int .i64) y0_1,.d (.int .i64) y0_2,.vec (.nam 4) 200001 y0_3]),(200001,.vec 200001 (.nam 4) y1)],[]⟩
abbrev Ov(N:Nat)(r:PR bH)(k:List It2)(s:TS EE.T):Prop:=eN (Y:=TT) EE (NX N) O9 PZ (fun u=>u=t1 r) k s
def Ql(x:PR bH):Tree (Lf EE.T × Option (PR bH)):=.leaf (.done (t1 x),some x)
theorem L5{N:Nat}{r:PR bH}(x1:Int)(x2:Int)(y0_0:List UInt8)(y0_1:Int)(y0_2:Int)(y0_3:Nat)(y1:List Vstep)(h:aP N x1 x2 y0_0 y0_1 y0_2 y0_3 y1=some r):Ov N r (MY (aa 0 Tryd.f36)) (Kx x1 x2 y0_0 y0_1 y0_2 y0_3 y1):=
 am (m:=4000) (t:=
 Ql (.pan (Value.iface 53 (.agg #[.int .i64 x1,.int .i64 x2])))) (by kernel_rfl) (by kernel_rfl) h (ay (enc:=t1) rfl)
def Ix(x1:Int)(x2:Int)(y0_0:List UInt8)(y0_1:Int)(y0_2:Int)(y0_3:Nat)(y1:List Vstep):List (TV EE.T):=[.a (.box 100000 0),.a (.d (.int .i64) x1),.a (.d (.int .i64) x2)]
def BF(x1:Int)(x2:Int)(y0_0:List UInt8)(y0_1:Int)(y0_2:Int)(y0_3:Nat)(y1:List Vstep):List (Nat × TB EE.T):=[(100000,.cs [.d .str y0_0,.d (.int .i64) y0_1,.d (.int .i64) y0_2,.vec (.nam 4) 200001 y0_3]),(200001,.vec 200001 (.nam 4) y1)]
theorem jz{N:Nat}(x1:Int)(x2:Int)(y0_0:List UInt8)(y0_1:Int)(y0_2:Int)(y0_3:Nat)(y1:List Vstep){r:PR bH}(h:aP N x1 x2 y0_0 y0_1 y0_2 y0_3 y1=some r)(ρ:Rn)(hi:Inj ρ (BF x1 x2 y0_0 y0_1 y0_2 y0_3 y1)):ai Tryd.prog 36 ((Ix x1 x2 y0_0 y0_1 y0_2 y0_3 y1).map (TV.to EE.toEnc ρ)) (hTo EE.toEnc ρ (BF x1 x2 y0_0 y0_1 y0_2 y0_3 y1)) (bQ EE ρ fun u=>u=t1 r):=
 fA (aa 0 Tryd.f36) 10 mixed (K7 N) Tryd.func36 (by kernel_rfl) rfl rfl rfl rfl (L5 x1 x2 y0_0 y0_1 y0_2 y0_3 y1 h) ρ hi
def ee(N:Nat)(us:List (TV EE.T))(hs:List (Nat × TB EE.T)):XR EE.T:=
 gdX (gJ us 3) <|
 bnX (aB us 0) fun i0=>
 bnX (aD (.int .i64) us 1) fun x1=>
 bnX (aD (.int .i64) us 2) fun x2=>
 bnX (bC hs i0) fun l0=>
 gdX (gJ l0 4) <|
 bnX (cD .str l0 0) fun y0_0=>
 bnX (cD (.int .i64) l0 1) fun y0_1=>
 bnX (cD (.int .i64) l0 2) fun y0_2=>
 bnX (cVi (.nam 4) l0 3) fun i1=>
 bnX (cVn (.nam 4) l0 3) fun y0_3=>
 bnX (bV (.nam 4) hs i1) fun y1=>
 gdX (b9 hs [i0,i1]) <|
 gdX (kZ [i0,i1]) <|
 .mv (aP N x1 x2 y0_0 y0_1 y0_2 y0_3 y1) [i0,i1] (mvL [i0,i1] [100000,200001]) 0 (fi i0 i1) (wN i0 i1)
theorem eD(N:Nat):XOk Tryd.prog EE 36 (ee N):=fun us hs=>
 aQ fun h1=>ah fun i0 h2=>ah fun x1 h3=>ah fun x2 h4=>ah fun l0 h5=>aQ fun h6=>ah fun y0_0 h7=>ah fun y0_1 h8=>ah fun y0_2 h9=>ah fun i1 h10=>ah fun y0_3 h11=>ah fun y1 h12=>aQ fun h13=>aQ fun h14=>fun p hz ρ hi=>jo (ex:=[]) (ks:=[100000,200001]) (us':=Ix x1 x2 y0_0 y0_1 y0_2 y0_3 y1) (h0:=BF x1 x2 y0_0 y0_1 y0_2 y0_3 y1) (ρ':=oA ρ [i0,i1]) (uc:=fi 100000 200001) (u:=fi i0 i1) (hc:=wN 100000 200001) (h:=wN i0 i1) hi h13 (by kernel_rfl) ⟨oC h2 (by kernel_rfl),la h3,la h4,bY h1⟩ ⟨(by kernel_rfl),o7 h5 ⟨ep h7,ep h8,ep h9,lC h10 h11 (by kernel_rfl),bY h6⟩,(by kernel_rfl),ns h12 (by kernel_rfl),trivial⟩ ⟨.inr rfl,.inl rfl,trivial⟩ h14 (fun hj=>jz x1 x2 y0_0 y0_1 y0_2 y0_3 y1 hz _ hj) (fun z=>⟨by kernel_rfl,by kernel_rfl,by kernel_rfl,by kernel_rfl⟩)
def cq(i0:Nat)(r:aK):TV EE.T:=.a (.d (.sl (.nam 4)) r.1)
def xi(i0:Nat)(r:aK):List (Nat × TB EE.T):=[(i0,.vec i0 (.nam 4) r.2)]
def qN(r:PR aK):RL EE.T:=qS (cq 100000) (xi 100000) r
def OQ:Lvs:=⟨[],[],[],[],false,[],[100000],[],[]⟩
def O2:List ResultVar:=[.tmp 2]
def Np(N:Nat):Gam EE:=⟨[],EQT,[],[]⟩
theorem J2(N:Nat):GOk Tryd.prog TT EE (Np N):=GOk.nil bP
def N6(c:Code):List It2:=[.c c]
def LV(x0_o:Nat)(x0_n:Nat)(y0:List Vstep):TS EE.T:=⟨8,[(0,.a (.vsl (.nam 4) 100000 x0_o x0_n))],[(100000,.vec 100000 (.nam 4) y0)],[]⟩
abbrev Qg(N:Nat)(r:PR aK)(k:List It2)(s:TS EE.T):Prop:=eN (Y:=TT) EE (Np N) OQ O2 (fun u=>u=qN r) k s
def GI(x:PR aK):Tree (Lf EE.T × Option (PR aK)):=.leaf (.done (qN x),some x)
theorem L1{N:Nat}{r:PR aK}(x0_o:Nat)(x0_n:Nat)(y0:List Vstep)(h:bO N x0_o x0_n y0=some r):Qg N r (N6 (aa 0 Tryd.f75)) (LV x0_o x0_n y0):=
 am (m:=4000) (t:=
 .nl ((List.drop x0_o y0).take x0_n)
 (
  GI (.ok (([] :List Vstep),y0)))
 (
  .bnd (JJ x0_o x0_n y0) fun z1=>
  .bnd (jf 32 ([] :List Vstep) z1) fun z2=>
  GI (.ok (z2,y0)))) (by kernel_rfl) (by kernel_rfl) h (⟨fun e _ h=>S4 e h,ay (enc:=qN) rfl,fun _=>fun _=>ay (enc:=qN) rfl⟩)
def G9(x0_o:Nat)(x0_n:Nat)(y0:List Vstep):List (TV EE.T):=[.a (.vsl (.nam 4) 100000 x0_o x0_n)]
def Ca(x0_o:Nat)(x0_n:Nat)(y0:List Vstep):List (Nat × TB EE.T):=[(100000,.vec 100000 (.nam 4) y0)]
theorem iP{N:Nat}(x0_o:Nat)(x0_n:Nat)(y0:List Vstep){r:PR aK}(h:bO N x0_o x0_n y0=some r)(ρ:Rn)(hi:Inj ρ (Ca x0_o x0_n y0)):ai Tryd.prog 75 ((G9 x0_o x0_n y0).map (TV.to EE.toEnc ρ)) (hTo EE.toEnc ρ (Ca x0_o x0_n y0)) (bQ EE ρ fun u=>u=qN r):=
 fA (aa 0 Tryd.f75) 8 mixed (J2 N) Tryd.func75 (by kernel_rfl) rfl rfl rfl rfl (L1 x0_o x0_n y0 h) ρ hi
def fd(N:Nat)(us:List (TV EE.T))(hs:List (Nat × TB EE.T)):XR EE.T:=
 gdX (gJ us 1) <|
 bnX (aUi (.nam 4) us 0) fun i0=>
 bnX (aUo (.nam 4) us 0) fun x0_o=>
 bnX (aUn (.nam 4) us 0) fun x0_n=>
 bnX (bV (.nam 4) hs i0) fun y0=>
 gdX (b9 hs [i0]) <|
 gdX (kZ [i0]) <|
 .mv (bO N x0_o x0_n y0) [i0] (mvL [i0] [100000]) 0 (cq i0) (xi i0)
theorem iG(N:Nat):XOk Tryd.prog EE 75 (fd N):=fun us hs=>
 aQ fun h1=>ah fun i0 h2=>ah fun x0_o h3=>ah fun x0_n h4=>ah fun y0 h5=>aQ fun h6=>aQ fun h7=>fun p hz ρ hi=>jo (ex:=[]) (ks:=[100000]) (us':=G9 x0_o x0_n y0) (h0:=Ca x0_o x0_n y0) (ρ':=oA ρ [i0]) (uc:=cq 100000) (u:=cq i0) (hc:=xi 100000) (h:=xi i0) hi h6 (by kernel_rfl) ⟨UX h2 h3 h4 (by kernel_rfl),bY h1⟩ ⟨(by kernel_rfl),ns h5 (by kernel_rfl),trivial⟩ ⟨.inr rfl,trivial⟩ h7 (fun hj=>iP x0_o x0_n y0 hz _ hj) (fun z=>⟨by kernel_rfl,by kernel_rfl,by kernel_rfl,by kernel_rfl⟩)
def fQ(i0:Nat)(i1:Nat)(r:bR):TV EE.T:=.a (.d (.sl (.nam 4)) r.1)
def wO(i0:Nat)(i1:Nat)(r:bR):List (Nat × TB EE.T):=[(i0,.cs [.d .str r.2.1,.d (.int .i64) r.2.2.1,.d (.int .i64) r.2.2.2.1,.vec (.nam 4) i1 r.2.2.2.2.1]),(i1,.vec i1 (.nam 4) r.2.2.2.2.2)]
def qE(r:PR bR):RL EE.T:=qS (fQ 100000 200001) (wO 100000 200001) r
def PA:Lvs:=⟨[],[],[],[],false,[(100000,(none,[]))],[100000,200001],[],[(19,200001)]⟩
def P2:List ResultVar:=[.tmp 4]
def Nr(N:Nat):Gam EE:=⟨[],EQT,[⟨75,fd N⟩],[]⟩
theorem KX(N:Nat):GOk Tryd.prog TT EE (Nr N):=GOk.consx (iG N) (GOk.nil bP)
def Ol(c:Code):List It2:=[.c c]
def MR(x1:Int)(y0_0:List UInt8)(y0_1:Int)(y0_2:Int)(y0_3:Nat)(y1:List Vstep):TS EE.T:=⟨23,[(0,.a (.box 100000 0)),(1,.a (.d (.int .i64) x1))],[(100000,.cs [.d .str y0_0,.d (.int .i64) y0_1,.d (.int .i64) y0_2,.vec (.nam 4) 200001 y0_3]),(200001,.vec 200001 (.nam 4) y1)],[]⟩
abbrev P7(N:Nat)(r:PR bR)(k:List It2)(s:TS EE.T):Prop:=eN (Y:=TT) EE (Nr N) PA P2 (fun u=>u=qE r) k s
def GC(x:PR bR):Tree (Lf EE.T × Option (PR bR)):=.leaf (.done (qE x),some x)
theorem Nb{N:Nat}{r:PR bR}(x1:Int)(y0_0:List UInt8)(y0_1:Int)(y0_2:Int)(y0_3:Nat)(y1:List Vstep)(h:dr N x1 y0_0 y0_1 y0_2 y0_3 y1=some r):P7 N r (Ol (aa 0 Tryd.f56)) (MR x1 y0_0 y0_1 y0_2 y0_3 y1):=
 am (m:=4000) (t:=
 .bnd (FE y0_3 x1 (y0_3:Int)) fun z1=>
 .bnd (bO N z1.1 (y0_3 - z1.1) y1) fun z2=>
 .sm z2 (fun z3=>
  .bnd (NL y0_3 z3.2 x1) fun z4=>
  GC (.ok (z3.1,y0_0,y0_1,y0_2,z4.length,z4))) (fun vz2=>
  GC (.pan vz2))) (by kernel_rfl) (by kernel_rfl) h (fun _=>fun _=>⟨fun _=>fun _=>ay (enc:=qE) rfl,fun _=>ay (enc:=qE) rfl⟩)
def Ic(x1:Int)(y0_0:List UInt8)(y0_1:Int)(y0_2:Int)(y0_3:Nat)(y1:List Vstep):List (TV EE.T):=[.a (.box 100000 0),.a (.d (.int .i64) x1)]
def Cn(x1:Int)(y0_0:List UInt8)(y0_1:Int)(y0_2:Int)(y0_3:Nat)(y1:List Vstep):List (Nat × TB EE.T):=[(100000,.cs [.d .str y0_0,.d (.int .i64) y0_1,.d (.int .i64) y0_2,.vec (.nam 4) 200001 y0_3]),(200001,.vec 200001 (.nam 4) y1)]
theorem oO{N:Nat}(x1:Int)(y0_0:List UInt8)(y0_1:Int)(y0_2:Int)(y0_3:Nat)(y1:List Vstep){r:PR bR}(h:dr N x1 y0_0 y0_1 y0_2 y0_3 y1=some r)(ρ:Rn)(hi:Inj ρ (Cn x1 y0_0 y0_1 y0_2 y0_3 y1)):ai Tryd.prog 56 ((Ic x1 y0_0 y0_1 y0_2 y0_3 y1).map (TV.to EE.toEnc ρ)) (hTo EE.toEnc ρ (Cn x1 y0_0 y0_1 y0_2 y0_3 y1)) (bQ EE ρ fun u=>u=qE r):=
 fA (aa 0 Tryd.f56) 23 mixed (KX N) Tryd.func56 (by kernel_rfl) rfl rfl rfl rfl (Nb x1 y0_0 y0_1 y0_2 y0_3 y1 h) ρ hi
def ii(N:Nat)(us:List (TV EE.T))(hs:List (Nat × TB EE.T)):XR EE.T:=
 gdX (gJ us 2) <|
 bnX (aB us 0) fun i0=>
 bnX (aD (.int .i64) us 1) fun x1=>
 bnX (bC hs i0) fun l0=>
 gdX (gJ l0 4) <|
 bnX (cD .str l0 0) fun y0_0=>
 bnX (cD (.int .i64) l0 1) fun y0_1=>
 bnX (cD (.int .i64) l0 2) fun y0_2=>
 bnX (cVi (.nam 4) l0 3) fun i1=>
 bnX (cVn (.nam 4) l0 3) fun y0_3=>
 bnX (bV (.nam 4) hs i1) fun y1=>
 gdX (b9 hs [i0,i1]) <|
 gdX (kZ [i0,i1]) <|
 .mv (dr N x1 y0_0 y0_1 y0_2 y0_3 y1) [i0,i1] (mvL [i0,i1] [100000,200001]) 0 (fQ i0 i1) (wO i0 i1)
theorem jt(N:Nat):XOk Tryd.prog EE 56 (ii N):=fun us hs=>
 aQ fun h1=>ah fun i0 h2=>ah fun x1 h3=>ah fun l0 h4=>aQ fun h5=>ah fun y0_0 h6=>ah fun y0_1 h7=>ah fun y0_2 h8=>ah fun i1 h9=>ah fun y0_3 h10=>ah fun y1 h11=>aQ fun h12=>aQ fun h13=>fun p hz ρ hi=>jo (ex:=[]) (ks:=[100000,200001]) (us':=Ic x1 y0_0 y0_1 y0_2 y0_3 y1) (h0:=Cn x1 y0_0 y0_1 y0_2 y0_3 y1) (ρ':=oA ρ [i0,i1]) (uc:=fQ 100000 200001) (u:=fQ i0 i1) (hc:=wO 100000 200001) (h:=wO i0 i1) hi h12 (by kernel_rfl) ⟨oC h2 (by kernel_rfl),la h3,bY h1⟩ ⟨(by kernel_rfl),o7 h4 ⟨ep h6,ep h7,ep h8,lC h9 h10 (by kernel_rfl),bY h5⟩,(by kernel_rfl),ns h11 (by kernel_rfl),trivial⟩ ⟨.inr rfl,.inl rfl,trivial⟩ h13 (fun hj=>oO x1 y0_0 y0_1 y0_2 y0_3 y1 hz _ hj) (fun z=>⟨by kernel_rfl,by kernel_rfl,by kernel_rfl,by kernel_rfl⟩)
def fN(i0:Nat)(i1:Nat)(r:bT):TV EE.T:=.a (.d (.int .i64) r.1)
def xh(i0:Nat)(i1:Nat)(r:bT):List (Nat × TB EE.T):=[(i0,.cs [.d .str r.2.1,.d (.int .i64) r.2.2.1,.d (.int .i64) r.2.2.2.1,.vec (.nam 4) i1 r.2.2.2.2.1]),(i1,.vec i1 (.nam 4) r.2.2.2.2.2)]
def ux(r:PR bT):RL EE.T:=qS (fN 100000 200001) (xh 100000 200001) r
def QE:Lvs:=⟨[(1,⟨[(0,false),(3,false)],[],[(3,(some 4,[])),(100000,(none,[])),(200001,(none,[]))],[]⟩)],[],[],[],false,[(100000,(none,[]))],[100000,200001],[],[(12,200001)]⟩
def Qz:List ResultVar:=[.tmp 4]
def Km(N:Nat):Gam EE:=⟨[],EQT,[],[]⟩
theorem Ni(N:Nat):GOk Tryd.prog TT EE (Km N):=GOk.nil bP
def Nh(c:Code):List It2:=[.c c]
def Mz(x1:Vstep)(y0_0:List UInt8)(y0_1:Int)(y0_2:Int)(y0_3:Nat)(y1:List Vstep):TS EE.T:=⟨21,[(0,.a (.box 100000 0)),(1,.ag (ga EE (.nam 4) x1))],[(100000,.cs [.d .str y0_0,.d (.int .i64) y0_1,.d (.int .i64) y0_2,.vec (.nam 4) 200001 y0_3]),(200001,.vec 200001 (.nam 4) y1)],[]⟩
abbrev O7(N:Nat)(r:PR bT)(k:List It2)(s:TS EE.T):Prop:=eN (Y:=TT) EE (Km N) QE Qz (fun u=>u=ux r) k s
def PN(x:PR bT):Tree (Lf EE.T × Option (PR bT)):=.leaf (.done (ux x),some x)
theorem J8{N:Nat}{r:PR bT}(x1:Vstep)(y0_0:List UInt8)(y0_1:Int)(y0_2:Int)(y0_3:Nat)(y1:List Vstep)(h:ak N x1 y0_0 y0_1 y0_2 y0_3 y1=some r):O7 N r (Nh (aa 0 Tryd.f37)) (Mz x1 y0_0 y0_1 y0_2 y0_3 y1):=
 am (m:=4000) (t:=
 .bnd (vg 32 y0_3 y1 ([x1] :List Vstep)) fun z1=>
 PN (.ok (w64 ((z1.length:Int) - 1),y0_0,y0_1,y0_2,z1.length,z1))) (by kernel_rfl) (by kernel_rfl) h (fun _=>ay (enc:=ux) rfl)
def H9(x1:Vstep)(y0_0:List UInt8)(y0_1:Int)(y0_2:Int)(y0_3:Nat)(y1:List Vstep):List (TV EE.T):=[.a (.box 100000 0),.ag (ga EE (.nam 4) x1)]
def Bz(x1:Vstep)(y0_0:List UInt8)(y0_1:Int)(y0_2:Int)(y0_3:Nat)(y1:List Vstep):List (Nat × TB EE.T):=[(100000,.cs [.d .str y0_0,.d (.int .i64) y0_1,.d (.int .i64) y0_2,.vec (.nam 4) 200001 y0_3]),(200001,.vec 200001 (.nam 4) y1)]
theorem jX{N:Nat}(x1:Vstep)(y0_0:List UInt8)(y0_1:Int)(y0_2:Int)(y0_3:Nat)(y1:List Vstep){r:PR bT}(h:ak N x1 y0_0 y0_1 y0_2 y0_3 y1=some r)(ρ:Rn)(hi:Inj ρ (Bz x1 y0_0 y0_1 y0_2 y0_3 y1)):ai Tryd.prog 37 ((H9 x1 y0_0 y0_1 y0_2 y0_3 y1).map (TV.to EE.toEnc ρ)) (hTo EE.toEnc ρ (Bz x1 y0_0 y0_1 y0_2 y0_3 y1)) (bQ EE ρ fun u=>u=ux r):=
 fA (aa 0 Tryd.f37) 21 mixed (Ni N) Tryd.func37 (by kernel_rfl) rfl rfl rfl rfl (J8 x1 y0_0 y0_1 y0_2 y0_3 y1 h) ρ hi
def eq(N:Nat)(us:List (TV EE.T))(hs:List (Nat × TB EE.T)):XR EE.T:=
 gdX (gJ us 2) <|
 bnX (aB us 0) fun i0=>
 bnX (aS EE 4 us 1) fun x1=>
 bnX (bC hs i0) fun l0=>
 gdX (gJ l0 4) <|
 bnX (cD .str l0 0) fun y0_0=>
 bnX (cD (.int .i64) l0 1) fun y0_1=>
 bnX (cD (.int .i64) l0 2) fun y0_2=>
 bnX (cVi (.nam 4) l0 3) fun i1=>
 bnX (cVn (.nam 4) l0 3) fun y0_3=>
 bnX (bV (.nam 4) hs i1) fun y1=>
 gdX (b9 hs [i0,i1]) <|
 gdX (kZ [i0,i1]) <|
 .mv (ak N x1 y0_0 y0_1 y0_2 y0_3 y1) [i0,i1] (mvL [i0,i1] [100000,200001]) 0 (fN i0 i1) (xh i0 i1)
theorem eQ(N:Nat):XOk Tryd.prog EE 37 (eq N):=fun us hs=>
 aQ fun h1=>ah fun i0 h2=>ah fun x1 h3=>ah fun l0 h4=>aQ fun h5=>ah fun y0_0 h6=>ah fun y0_1 h7=>ah fun y0_2 h8=>ah fun i1 h9=>ah fun y0_3 h10=>ah fun y1 h11=>aQ fun h12=>aQ fun h13=>fun p hz ρ hi=>jo (ex:=[]) (ks:=[100000,200001]) (us':=H9 x1 y0_0 y0_1 y0_2 y0_3 y1) (h0:=Bz x1 y0_0 y0_1 y0_2 y0_3 y1) (ρ':=oA ρ [i0,i1]) (uc:=fN 100000 200001) (u:=fN i0 i1) (hc:=xh 100000 200001) (h:=xh i0 i1) hi h12 (by kernel_rfl) ⟨oC h2 (by kernel_rfl),LF h3,bY h1⟩ ⟨(by kernel_rfl),o7 h4 ⟨ep h6,ep h7,ep h8,lC h9 h10 (by kernel_rfl),bY h5⟩,(by kernel_rfl),ns h11 (by kernel_rfl),trivial⟩ ⟨.inr rfl,.inl rfl,trivial⟩ h13 (fun hj=>jX x1 y0_0 y0_1 y0_2 y0_3 y1 hz _ hj) (fun z=>⟨by kernel_rfl,by kernel_rfl,by kernel_rfl,by kernel_rfl⟩)
def fO(i0:Nat)(i1:Nat)(r:aC):TV EE.T:=.tu []
def wL(i0:Nat)(i1:Nat)(r:aC):List (Nat × TB EE.T):=[(i0,.cs [.d .str r.1,.d (.int .i64) r.2.1,.d (.int .i64) r.2.2.1,.vec (.nam 4) i1 r.2.2.2.1]),(i1,.vec i1 (.nam 4) r.2.2.2.2)]
def qP(r:PR aC):RL EE.T:=qS (fO 100000 200001) (wL 100000 200001) r
def PP:Lvs:=⟨[(9,⟨[(0,false),(6,false),(8,false),(16,false),(17,false),(18,false)],[],[(8,(some 4,[])),(100000,(none,[])),(200001,(none,[]))],[]⟩)],[(2,⟨[(0,false),(6,false),(16,false),(17,false),(18,false)],[],[(100000,(none,[])),(200001,(none,[]))],[]⟩)],[9],[],false,[(100000,(none,[]))],[100000,200001],[],[]⟩
def Qr:List ResultVar:=[]
def Ls(N:Nat):Gam EE:=⟨[],EQT,[⟨37,eq N⟩],[]⟩
theorem K4(N:Nat):GOk Tryd.prog TT EE (Ls N):=GOk.consx (eQ N) (GOk.nil bP)
def Ej(c:Code):List It2:=atR 9 c
def DG(x6:Int)(x16:List Vstep)(x17:Int)(x18:Int)(b8:Vstep)(WL:List UInt8)(WJ:Int)(WK:Int)(WI:Nat)(WM:List Vstep):TS EE.T:=⟨47,[(0,.a (.box 100000 0)),(6,.a (.d (.int .i64) x6)),(8,.a (.box 8 0)),(16,.a (.d (.sl (.nam 4)) x16)),(17,.a (.d (.int .i64) x17)),(18,.a (.d (.int .i64) x18))],[(8,.cs (ga EE (.nam 4) b8)),(100000,.cs [.d .str WL,.d (.int .i64) WJ,.d (.int .i64) WK,.vec (.nam 4) 200001 WI]),(200001,.vec 200001 (.nam 4) WM)],[]⟩
def xz(c:Code):List It2:=atL 2 c
def yz(x6:Int)(x16:List Vstep)(x17:Int)(x18:Int)(WL:List UInt8)(WJ:Int)(WK:Int)(WI:Nat)(WM:List Vstep):TS EE.T:=⟨47,[(0,.a (.box 100000 0)),(6,.a (.d (.int .i64) x6)),(16,.a (.d (.sl (.nam 4)) x16)),(17,.a (.d (.int .i64) x17)),(18,.a (.d (.int .i64) x18))],[(100000,.cs [.d .str WL,.d (.int .i64) WJ,.d (.int .i64) WK,.vec (.nam 4) 200001 WI]),(200001,.vec 200001 (.nam 4) WM)],[]⟩
def J3(c:Code):List It2:=[.c c]
def Lk(x1:List Vstep)(x2:Int)(y0_0:List UInt8)(y0_1:Int)(y0_2:Int)(y0_3:Nat)(y1:List Vstep):TS EE.T:=⟨47,[(0,.a (.box 100000 0)),(1,.a (.d (.sl (.nam 4)) x1)),(2,.a (.d (.int .i64) x2))],[(100000,.cs [.d .str y0_0,.d (.int .i64) y0_1,.d (.int .i64) y0_2,.vec (.nam 4) 200001 y0_3]),(200001,.vec 200001 (.nam 4) y1)],[]⟩
def yV(c:Code)(f:Int→(List Vstep)→Int→Int→Vstep→(List UInt8)→Int→Int→Nat→(List Vstep)→Option (PR aC))(x6:Int)(x16:List Vstep)(x17:Int)(x18:Int)(b8:Vstep)(WL:List UInt8)(WJ:Int)(WK:Int)(WI:Nat)(WM:List Vstep):Tree (Lf EE.T × Option (PR aC)):=.leaf (.go (Ej c) (DG x6 x16 x17 x18 b8 WL WJ WK WI WM),f x6 x16 x17 x18 b8 WL WJ WK WI WM)
def Df(c:Code)(f:Int→(List Vstep)→Int→Int→(List UInt8)→Int→Int→Nat→(List Vstep)→Option (PR aC))(x6:Int)(x16:List Vstep)(x17:Int)(x18:Int)(WL:List UInt8)(WJ:Int)(WK:Int)(WI:Nat)(WM:List Vstep):Tree (Lf EE.T × Option (PR aC)):=.leaf (.go (xz c) (yz x6 x16 x17 x18 WL WJ WK WI WM),f x6 x16 x17 x18 WL WJ WK WI WM)
abbrev xk(N:Nat)(r:PR aC)(k:List It2)(s:TS EE.T):Prop:=eN (Y:=TT) EE (Ls N) PP Qr (fun u=>u=qP r) k s
def Ii(x:PR aC):Tree (Lf EE.T × Option (PR aC)):=.leaf (.done (qP x),some x)
theorem xF{N:Nat}{r:PR aC}{k2:Int→(List Vstep)→Int→Int→(List UInt8)→Int→Int→Nat→(List Vstep)→Option (PR aC)}(hk2:∀x6 x16 x17 x18 WL WJ WK WI WM,k2 x6 x16 x17 x18 WL WJ WK WI WM=some r→xk N r (xz (aa 0 Tryd.f57)) (yz x6 x16 x17 x18 WL WJ WK WI WM))(n:Nat)(x6:Int)(x16:List Vstep)(x17:Int)(x18:Int)(b8:Vstep)(WL:List UInt8)(WJ:Int)(WK:Int)(WI:Nat)(WM:List Vstep)(h:cH N k2 n x6 x16 x17 x18 b8 WL WJ WK WI WM=some r):xk N r (Ej (aa 0 Tryd.f57)) (DG x6 x16 x17 x18 b8 WL WJ WK WI WM):=
 am (m:=4000) (t:=
 .bnd (ak N b8 WL WJ WK WI WM) fun z2=>
 .sm z2 (fun z3=>
  Df (aa 0 Tryd.f57) k2 x6 x16 x17 (w64 (x18+1)) z3.2.1 z3.2.2.1 z3.2.2.2.1 z3.2.2.2.2.1 z3.2.2.2.2.2) (fun vz2=>
  Ii (.pan vz2))) (by kernel_rfl) (by kernel_rfl) h (fun _=>⟨fun _=>fun h=>hk2 _ _ _ _ _ _ _ _ _ h,fun _=>ay (enc:=qP) rfl⟩)
theorem tD{N:Nat}{r:PR aC}:∀ (n:Nat) (x6:Int) (x16:List Vstep) (x17:Int) (x18:Int) (WL:List UInt8) (WJ:Int) (WK:Int) (WI:Nat) (WM:List Vstep),bK N n x6 x16 x17 x18 WL WJ WK WI WM=some r→xk N r (xz (aa 0 Tryd.f57)) (yz x6 x16 x17 x18 WL WJ WK WI WM)
 |0,_,_,_,_,_,_,_,_,_,h=>by cases h
 |n+1,x6,x16,x17,x18,WL,WJ,WK,WI,WM,h=>am (m:=4000) (t:=
  .cond (decide (x18 < x17))
  (
   .bnd (bN x16 x18) fun z1=>
   .cond (z1.kind==1)
   (
    yV (aa 0 Tryd.f57) (cH N (bK N n) n) x6 x16 x17 x18 ({ kind:=z1.kind,a:=w64 (z1.a+x6),b:=w64 (z1.b+x6),set_:=z1.set_ }:Vstep) WL WJ WK WI WM)
   (
    .cond (z1.kind==2)
    (
     yV (aa 0 Tryd.f57) (cH N (bK N n) n) x6 x16 x17 x18 ({ kind:=z1.kind,a:=w64 (z1.a+x6),b:=z1.b,set_:=z1.set_ }:Vstep) WL WJ WK WI WM)
    (
     yV (aa 0 Tryd.f57) (cH N (bK N n) n) x6 x16 x17 x18 z1 WL WJ WK WI WM)))
  (
   Ii (.ok (WL,WJ,WK,WI,WM)))) (by kernel_rfl) (by kernel_rfl) h (⟨fun _=>⟨fun h=>xF (tD n) n _ _ _ _ _ _ _ _ _ _ h,⟨fun h=>xF (tD n) n _ _ _ _ _ _ _ _ _ _ h,fun h=>xF (tD n) n _ _ _ _ _ _ _ _ _ _ h⟩⟩,ay (enc:=qP) rfl⟩)
theorem Na{N:Nat}{r:PR aC}(x1:List Vstep)(x2:Int)(y0_0:List UInt8)(y0_1:Int)(y0_2:Int)(y0_3:Nat)(y1:List Vstep)(h:bB N x1 x2 y0_0 y0_1 y0_2 y0_3 y1=some r):xk N r (J3 (aa 0 Tryd.f57)) (Lk x1 x2 y0_0 y0_1 y0_2 y0_3 y1):=
 am (m:=4000) (t:=
 Df (aa 0 Tryd.f57) (bK N N) (w64 ((y0_3:Int) - x2)) x1 (x1.length:Int) 0 y0_0 y0_1 y0_2 y0_3 y1) (by kernel_rfl) (by kernel_rfl) h (fun h=>tD N _ _ _ _ _ _ _ _ _ h)
def Ih(x1:List Vstep)(x2:Int)(y0_0:List UInt8)(y0_1:Int)(y0_2:Int)(y0_3:Nat)(y1:List Vstep):List (TV EE.T):=[.a (.box 100000 0),.a (.d (.sl (.nam 4)) x1),.a (.d (.int .i64) x2)]
def Cc(x1:List Vstep)(x2:Int)(y0_0:List UInt8)(y0_1:Int)(y0_2:Int)(y0_3:Nat)(y1:List Vstep):List (Nat × TB EE.T):=[(100000,.cs [.d .str y0_0,.d (.int .i64) y0_1,.d (.int .i64) y0_2,.vec (.nam 4) 200001 y0_3]),(200001,.vec 200001 (.nam 4) y1)]
theorem o4{N:Nat}(x1:List Vstep)(x2:Int)(y0_0:List UInt8)(y0_1:Int)(y0_2:Int)(y0_3:Nat)(y1:List Vstep){r:PR aC}(h:bB N x1 x2 y0_0 y0_1 y0_2 y0_3 y1=some r)(ρ:Rn)(hi:Inj ρ (Cc x1 x2 y0_0 y0_1 y0_2 y0_3 y1)):ai Tryd.prog 57 ((Ih x1 x2 y0_0 y0_1 y0_2 y0_3 y1).map (TV.to EE.toEnc ρ)) (hTo EE.toEnc ρ (Cc x1 x2 y0_0 y0_1 y0_2 y0_3 y1)) (bQ EE ρ fun u=>u=qP r):=
 fA (aa 0 Tryd.f57) 47 mixed (K4 N) Tryd.func57 (by kernel_rfl) rfl rfl rfl rfl (Na x1 x2 y0_0 y0_1 y0_2 y0_3 y1 h) ρ hi
def il(N:Nat)(us:List (TV EE.T))(hs:List (Nat × TB EE.T)):XR EE.T:=
 gdX (gJ us 3) <|
 bnX (aB us 0) fun i0=>
 bnX (aD (.sl (.nam 4)) us 1) fun x1=>
 bnX (aD (.int .i64) us 2) fun x2=>
 bnX (bC hs i0) fun l0=>
 gdX (gJ l0 4) <|
 bnX (cD .str l0 0) fun y0_0=>
 bnX (cD (.int .i64) l0 1) fun y0_1=>
 bnX (cD (.int .i64) l0 2) fun y0_2=>
 bnX (cVi (.nam 4) l0 3) fun i1=>
 bnX (cVn (.nam 4) l0 3) fun y0_3=>
 bnX (bV (.nam 4) hs i1) fun y1=>
 gdX (b9 hs [i0,i1]) <|
 gdX (kZ [i0,i1]) <|
 .mv (bB N x1 x2 y0_0 y0_1 y0_2 y0_3 y1) [i0,i1] (mvL [i0,i1] [100000,200001]) 0 (fO i0 i1) (wL i0 i1)
theorem jv(N:Nat):XOk Tryd.prog EE 57 (il N):=fun us hs=>
 aQ fun h1=>ah fun i0 h2=>ah fun x1 h3=>ah fun x2 h4=>ah fun l0 h5=>aQ fun h6=>ah fun y0_0 h7=>ah fun y0_1 h8=>ah fun y0_2 h9=>ah fun i1 h10=>ah fun y0_3 h11=>ah fun y1 h12=>aQ fun h13=>aQ fun h14=>fun p hz ρ hi=>jo (ex:=[]) (ks:=[100000,200001]) (us':=Ih x1 x2 y0_0 y0_1 y0_2 y0_3 y1) (h0:=Cc x1 x2 y0_0 y0_1 y0_2 y0_3 y1) (ρ':=oA ρ [i0,i1]) (uc:=fO 100000 200001) (u:=fO i0 i1) (hc:=wL 100000 200001) (h:=wL i0 i1) hi h13 (by kernel_rfl) ⟨oC h2 (by kernel_rfl),la h3,la h4,bY h1⟩ ⟨(by kernel_rfl),o7 h5 ⟨ep h7,ep h8,ep h9,lC h10 h11 (by kernel_rfl),bY h6⟩,(by kernel_rfl),ns h12 (by kernel_rfl),trivial⟩ ⟨.inr rfl,.inl rfl,trivial⟩ h14 (fun hj=>o4 x1 x2 y0_0 y0_1 y0_2 y0_3 y1 hz _ hj) (fun z=>⟨by kernel_rfl,by kernel_rfl,by kernel_rfl,by kernel_rfl⟩)
def sr(r:iQ):TV EE.T:=.a (.d (.ptr (.bits 256)) r)
def GB(r:iQ):RL EE.T:=.ret (sr r) []
def UC:Lvs:=⟨[],[],[],[],false,[],[],[(3,[.cl 3 (.a 256) (.s 3)])],[]⟩
def Vq:List ResultVar:=[.tmp 2]
def UY(N:Nat):Gam EE:=⟨[],EQT,[],[]⟩
theorem Sm(N:Nat):GOk Tryd.prog TT EE (UY N):=GOk.nil bP
def RX(c:Code):List It2:=[.c c]
def S9(x0:UInt8):TS EE.T:=⟨6,[(0,.a (.d .byte x0))],[],[]⟩
abbrev V6(N:Nat)(r:iQ)(k:List It2)(s:TS EE.T):Prop:=eN (Y:=TT) EE (UY N) UC Vq (fun u=>u=GB r) k s
def T8(x:iQ):Tree (Lf EE.T × Option iQ):=.leaf (.done (GB x),some x)
theorem RN{N:Nat}{r:iQ}(x0:UInt8)(h:kE N x0=some r):V6 N r (RX (aa 0 Tryd.f95)) (S9 x0):=
 am (m:=4000) (t:=
 .bnd (gN 256 (b2i x0)) fun z1=>
 .bnd (zB (List.replicate 256 false) (0+z1) true) fun z2=>
 .bnd (tP 256 z2) fun z3=>
 T8 (some z3)) (by kernel_rfl) (by kernel_rfl) h (fun _=>fun _=>fun _=>ay (enc:=GB) rfl)
theorem EI{N:Nat}(x0:UInt8){r:iQ}(h:kE N x0=some r)(ρ:Rn):ai Tryd.prog 95 (([.a (.d .byte x0)] :List (TV EE.T)).map (TV.to EE.toEnc ρ)) [] (fun out H=>out=.ret ((sr r).to EE.toEnc ρ)∧H=[]):=
 (ip (aa 0 Tryd.f95) 6 mixed (Sm N) Tryd.func95 (by kernel_rfl) rfl rfl rfl rfl (RN x0 h) ρ).mono fun out H h=>bQ.ret rfl h
def sx(N:Nat):List (TV EE.T)→PV EE.T
 | [u0] =>match eB .byte u0 with
   |some x0=>.opt (kE N x0) sr
   |_=>.bad
 |_=>.bad
theorem BJ(N:Nat)(us:List (TV EE.T)):(sx N us).ok fun u=>∀ρ,ai Tryd.prog 95 (us.map (TV.to EE.toEnc ρ)) [] (fun out H=>out=.ret (u.to EE.toEnc ρ)∧H=[]):=by
 unfold sx
 split
 ·split
  ·rename_i h0
   intro z hz ρ;refine bq ?_ (EI _ hz ρ);exact⟨bb h0 ρ,trivial⟩
  ·trivial
 ·trivial
def fR(i0:Nat)(i1:Nat)(r:bW):TV EE.T:=.a (.d .bool r.1)
def wU(i0:Nat)(i1:Nat)(r:bW):List (Nat × TB EE.T):=[(i0,.cs [.d .str r.2.1,.d (.int .i64) r.2.2.1,.d (.int .i64) r.2.2.2.1,.vec (.nam 4) i1 r.2.2.2.2.1]),(i1,.vec i1 (.nam 4) r.2.2.2.2.2)]
def na(r:PR bW):RL EE.T:=qS (fR 100000 200001) (wU 100000 200001) r
def Pb:Lvs:=⟨[],[],[],[],false,[(100000,(none,[]))],[100000,200001],[],[]⟩
def ON:List ResultVar:=[.tmp 4]
def Lo(N:Nat):Gam EE:=⟨[],EQT,[⟨73,dl N⟩],[]⟩
theorem LG(N:Nat):GOk Tryd.prog TT EE (Lo N):=GOk.consx (dE N) (GOk.nil bP)
def ML(c:Code):List It2:=[.c c]
def KD(x1:UInt8)(y0_0:List UInt8)(y0_1:Int)(y0_2:Int)(y0_3:Nat)(y1:List Vstep):TS EE.T:=⟨25,[(0,.a (.box 100000 0)),(1,.a (.d .byte x1))],[(100000,.cs [.d .str y0_0,.d (.int .i64) y0_1,.d (.int .i64) y0_2,.vec (.nam 4) 200001 y0_3]),(200001,.vec 200001 (.nam 4) y1)],[]⟩
abbrev QF(N:Nat)(r:PR bW)(k:List It2)(s:TS EE.T):Prop:=eN (Y:=TT) EE (Lo N) Pb ON (fun u=>u=na r) k s
def wW(x:PR bW):Tree (Lf EE.T × Option (PR bW)):=.leaf (.done (na x),some x)
theorem MV{N:Nat}{r:PR bW}(x1:UInt8)(y0_0:List UInt8)(y0_1:Int)(y0_2:Int)(y0_3:Nat)(y1:List Vstep)(h:bn N x1 y0_0 y0_1 y0_2 y0_3 y1=some r):QF N r (ML (aa 0 Tryd.f55)) (KD x1 y0_0 y0_1 y0_2 y0_3 y1):=
 am (m:=4000) (t:=
 .bnd (be N y0_0 y0_1 y0_2 y0_3 y1) fun z1=>
 .sm z1 (fun z2=>
  .cond (z2.2.1)
  (
   .cond ((b2i z2.1)==(b2i x1))
   (
    wW (.ok (true,z2.2.2.1,w64 (z2.2.2.2.1+1),z2.2.2.2.2.1,z2.2.2.2.2.2.1,z2.2.2.2.2.2.2)))
   (
    wW (.ok (false,z2.2.2.1,z2.2.2.2.1,z2.2.2.2.2.1,z2.2.2.2.2.2.1,z2.2.2.2.2.2.2))))
  (
   wW (.ok (false,z2.2.2.1,z2.2.2.2.1,z2.2.2.2.2.1,z2.2.2.2.2.2.1,z2.2.2.2.2.2.2)))) (fun vz1=>
  wW (.pan vz1))) (by kernel_rfl) (by kernel_rfl) h (fun _=>⟨fun _=>⟨⟨ay (enc:=na) rfl,ay (enc:=na) rfl⟩,ay (enc:=na) rfl⟩,fun _=>ay (enc:=na) rfl⟩)
def Is(x1:UInt8)(y0_0:List UInt8)(y0_1:Int)(y0_2:Int)(y0_3:Nat)(y1:List Vstep):List (TV EE.T):=[.a (.box 100000 0),.a (.d .byte x1)]
def Cp(x1:UInt8)(y0_0:List UInt8)(y0_1:Int)(y0_2:Int)(y0_3:Nat)(y1:List Vstep):List (Nat × TB EE.T):=[(100000,.cs [.d .str y0_0,.d (.int .i64) y0_1,.d (.int .i64) y0_2,.vec (.nam 4) 200001 y0_3]),(200001,.vec 200001 (.nam 4) y1)]
theorem o6{N:Nat}(x1:UInt8)(y0_0:List UInt8)(y0_1:Int)(y0_2:Int)(y0_3:Nat)(y1:List Vstep){r:PR bW}(h:bn N x1 y0_0 y0_1 y0_2 y0_3 y1=some r)(ρ:Rn)(hi:Inj ρ (Cp x1 y0_0 y0_1 y0_2 y0_3 y1)):ai Tryd.prog 55 ((Is x1 y0_0 y0_1 y0_2 y0_3 y1).map (TV.to EE.toEnc ρ)) (hTo EE.toEnc ρ (Cp x1 y0_0 y0_1 y0_2 y0_3 y1)) (bQ EE ρ fun u=>u=na r):=
 fA (aa 0 Tryd.f55) 25 mixed (LG N) Tryd.func55 (by kernel_rfl) rfl rfl rfl rfl (MV x1 y0_0 y0_1 y0_2 y0_3 y1 h) ρ hi
def fL(N:Nat)(us:List (TV EE.T))(hs:List (Nat × TB EE.T)):XR EE.T:=
 gdX (gJ us 2) <|
 bnX (aB us 0) fun i0=>
 bnX (aD .byte us 1) fun x1=>
 bnX (bC hs i0) fun l0=>
 gdX (gJ l0 4) <|
 bnX (cD .str l0 0) fun y0_0=>
 bnX (cD (.int .i64) l0 1) fun y0_1=>
 bnX (cD (.int .i64) l0 2) fun y0_2=>
 bnX (cVi (.nam 4) l0 3) fun i1=>
 bnX (cVn (.nam 4) l0 3) fun y0_3=>
 bnX (bV (.nam 4) hs i1) fun y1=>
 gdX (b9 hs [i0,i1]) <|
 gdX (kZ [i0,i1]) <|
 .mv (bn N x1 y0_0 y0_1 y0_2 y0_3 y1) [i0,i1] (mvL [i0,i1] [100000,200001]) 0 (fR i0 i1) (wU i0 i1)
theorem gK(N:Nat):XOk Tryd.prog EE 55 (fL N):=fun us hs=>
 aQ fun h1=>ah fun i0 h2=>ah fun x1 h3=>ah fun l0 h4=>aQ fun h5=>ah fun y0_0 h6=>ah fun y0_1 h7=>ah fun y0_2 h8=>ah fun i1 h9=>ah fun y0_3 h10=>ah fun y1 h11=>aQ fun h12=>aQ fun h13=>fun p hz ρ hi=>jo (ex:=[]) (ks:=[100000,200001]) (us':=Is x1 y0_0 y0_1 y0_2 y0_3 y1) (h0:=Cp x1 y0_0 y0_1 y0_2 y0_3 y1) (ρ':=oA ρ [i0,i1]) (uc:=fR 100000 200001) (u:=fR i0 i1) (hc:=wU 100000 200001) (h:=wU i0 i1) hi h12 (by kernel_rfl) ⟨oC h2 (by kernel_rfl),la h3,bY h1⟩ ⟨(by kernel_rfl),o7 h4 ⟨ep h6,ep h7,ep h8,lC h9 h10 (by kernel_rfl),bY h5⟩,(by kernel_rfl),ns h11 (by kernel_rfl),trivial⟩ ⟨.inr rfl,.inl rfl,trivial⟩ h13 (fun hj=>o6 x1 y0_0 y0_1 y0_2 y0_3 y1 hz _ hj) (fun z=>⟨by kernel_rfl,by kernel_rfl,by kernel_rfl,by kernel_rfl⟩)
def jh(r:Int):TV EE.T:=.a (.d (.int .i64) r)
def Gd(r:Int):RL EE.T:=.ret (jh r) []
def Vw:Lvs:=⟨[],[],[],[],false,[],[],[],[]⟩
def VN:List ResultVar:=[.tmp 4]
def Vj(N:Nat):Gam EE:=⟨[⟨76,mZ N⟩],EQT,[],[]⟩
theorem SE(N:Nat):GOk Tryd.prog TT EE (Vj N):=GOk.cons (vb N) (GOk.nil bP)
def Tv(c:Code):List It2:=[.c c]
def RE(x0:List UInt8)(x1:UInt8):TS EE.T:=⟨8,[(0,.a (.d .str x0)),(1,.a (.d .byte x1))],[],[]⟩
abbrev V7(N:Nat)(r:Int)(k:List It2)(s:TS EE.T):Prop:=eN (Y:=TT) EE (Vj N) Vw VN (fun u=>u=Gd r) k s
def U0(x:Int):Tree (Lf EE.T × Option Int):=.leaf (.done (Gd x),some x)
theorem Sf{N:Nat}{r:Int}(x0:List UInt8)(x1:UInt8)(h:cX N x0 x1=some r):V7 N r (Tv (aa 0 Tryd.f59)) (RE x0 x1):=
 am (m:=4000) (t:=
 .bnd (pE N x0 x1) fun z1=>
 U0 z1) (by kernel_rfl) (by kernel_rfl) h (fun _=>ay (enc:=Gd) rfl)
theorem pY{N:Nat}(x0:List UInt8)(x1:UInt8){r:Int}(h:cX N x0 x1=some r)(ρ:Rn):ai Tryd.prog 59 (([.a (.d .str x0),.a (.d .byte x1)] :List (TV EE.T)).map (TV.to EE.toEnc ρ)) [] (fun out H=>out=.ret ((jh r).to EE.toEnc ρ)∧H=[]):=
 (ip (aa 0 Tryd.f59) 8 mixed (SE N) Tryd.func59 (by kernel_rfl) rfl rfl rfl rfl (Sf x0 x1 h) ρ).mono fun out H h=>bQ.ret rfl h
def fF(N:Nat):List (TV EE.T)→PV EE.T
 | [u0,u1] =>match eB .str u0,eB .byte u1 with
   |some x0,some x1=>.opt (cX N x0 x1) jh
   |_,_=>.bad
 |_=>.bad
theorem iL(N:Nat)(us:List (TV EE.T)):(fF N us).ok fun u=>∀ρ,ai Tryd.prog 59 (us.map (TV.to EE.toEnc ρ)) [] (fun out H=>out=.ret (u.to EE.toEnc ρ)∧H=[]):=by
 unfold fF
 split
 ·split
  ·rename_i h0 h1
   intro z hz ρ;refine bq ?_ (pY _ _ hz ρ);exact⟨bb h0 ρ,bb h1 ρ,trivial⟩
  ·trivial
 ·trivial
def eR(i0:Nat)(i1:Nat)(r:aX):TV EE.T:=.a (.d .byte r.1)
def uz(i0:Nat)(i1:Nat)(r:aX):List (Nat × TB EE.T):=[(i0,.cs [.d .str r.2.1,.d (.int .i64) r.2.2.1,.d (.int .i64) r.2.2.2.1,.vec (.nam 4) i1 r.2.2.2.2.1]),(i1,.vec i1 (.nam 4) r.2.2.2.2.2)]
def ll(r:PR aX):RL EE.T:=qS (eR 100000 200001) (uz 100000 200001) r
def NA:Lvs:=⟨[(3,⟨[(0,false),(3,false)],[],[(100000,(none,[])),(200001,(none,[]))],[]⟩)],[],[3],[],false,[(100000,(none,[]))],[100000,200001],[],[]⟩
def MK:List ResultVar:=[.tmp 2]
def Ig(N:Nat):Gam EE:=⟨[⟨59,fF N⟩],EQT,[⟨36,ee N⟩,⟨73,dl N⟩],[]⟩
theorem Jm(N:Nat):GOk Tryd.prog TT EE (Ig N):=GOk.cons (iL N) (GOk.consx (eD N) (GOk.consx (dE N) (GOk.nil bP)))
def AJ(c:Code):List It2:=atR 3 c
def A6(x3:UInt8)(WL:List UInt8)(WJ:Int)(WK:Int)(WI:Nat)(WM:List Vstep):TS EE.T:=⟨31,[(0,.a (.box 100000 0)),(3,.a (.d .byte x3))],[(100000,.cs [.d .str WL,.d (.int .i64) WJ,.d (.int .i64) WK,.vec (.nam 4) 200001 WI]),(200001,.vec 200001 (.nam 4) WM)],[]⟩
def Jc(c:Code):List It2:=[.c c]
def JC(y0_0:List UInt8)(y0_1:Int)(y0_2:Int)(y0_3:Nat)(y1:List Vstep):TS EE.T:=⟨31,[(0,.a (.box 100000 0))],[(100000,.cs [.d .str y0_0,.d (.int .i64) y0_1,.d (.int .i64) y0_2,.vec (.nam 4) 200001 y0_3]),(200001,.vec 200001 (.nam 4) y1)],[]⟩
def Am(c:Code)(f:UInt8→(List UInt8)→Int→Int→Nat→(List Vstep)→Option (PR aX))(x3:UInt8)(WL:List UInt8)(WJ:Int)(WK:Int)(WI:Nat)(WM:List Vstep):Tree (Lf EE.T × Option (PR aX)):=.leaf (.go (AJ c) (A6 x3 WL WJ WK WI WM),f x3 WL WJ WK WI WM)
abbrev Du(N:Nat)(r:PR aX)(k:List It2)(s:TS EE.T):Prop:=eN (Y:=TT) EE (Ig N) NA MK (fun u=>u=ll r) k s
def tS(x:PR aX):Tree (Lf EE.T × Option (PR aX)):=.leaf (.done (ll x),some x)
theorem A5{N:Nat}{r:PR aX}(n:Nat)(x3:UInt8)(WL:List UInt8)(WJ:Int)(WK:Int)(WI:Nat)(WM:List Vstep)(h:dF N n x3 WL WJ WK WI WM=some r):Du N r (AJ (aa 0 Tryd.f100)) (A6 x3 WL WJ WK WI WM):=
 am (m:=4000) (t:=
 .bnd (aP N 1 WJ WL WJ WK WI WM) fun z4=>
 .sm z4 (fun z5=>
  tS (.ok (x3,z5.1,w64 (z5.2.1+1),z5.2.2.1,z5.2.2.2.1,z5.2.2.2.2))) (fun vz4=>
  tS (.pan vz4))) (by kernel_rfl) (by kernel_rfl) h (fun _=>⟨fun _=>ay (enc:=ll) rfl,fun _=>ay (enc:=ll) rfl⟩)
theorem I5{N:Nat}{r:PR aX}(y0_0:List UInt8)(y0_1:Int)(y0_2:Int)(y0_3:Nat)(y1:List Vstep)(h:cM N y0_0 y0_1 y0_2 y0_3 y1=some r):Du N r (Jc (aa 0 Tryd.f100)) (JC y0_0 y0_1 y0_2 y0_3 y1):=
 am (m:=4000) (t:=
 .bnd (be N y0_0 y0_1 y0_2 y0_3 y1) fun z1=>
 .sm z1 (fun z2=>
  .cond (!z2.2.1)
  (
   Am (aa 0 Tryd.f100) (dF N N) z2.1 z2.2.2.1 z2.2.2.2.1 z2.2.2.2.2.1 z2.2.2.2.2.2.1 z2.2.2.2.2.2.2)
  (
   .bnd (cX N ([91,93,92,94,45] :List UInt8) z2.1) fun z3=>
   .cond (decide (z3≥0))
   (
    Am (aa 0 Tryd.f100) (dF N N) z2.1 z2.2.2.1 z2.2.2.2.1 z2.2.2.2.2.1 z2.2.2.2.2.2.1 z2.2.2.2.2.2.2)
   (
    tS (.ok (z2.1,z2.2.2.1,w64 (z2.2.2.2.1+1),z2.2.2.2.2.1,z2.2.2.2.2.2.1,z2.2.2.2.2.2.2))))) (fun vz1=>
  tS (.pan vz1))) (by kernel_rfl) (by kernel_rfl) h (fun _=>⟨fun _=>⟨fun h=>A5 N _ _ _ _ _ _ h,fun _=>⟨fun h=>A5 N _ _ _ _ _ _ h,ay (enc:=ll) rfl⟩⟩,fun _=>ay (enc:=ll) rfl⟩)
def DV(y0_0:List UInt8)(y0_1:Int)(y0_2:Int)(y0_3:Nat)(y1:List Vstep):List (TV EE.T):=[.a (.box 100000 0)]
def ya(y0_0:List UInt8)(y0_1:Int)(y0_2:Int)(y0_3:Nat)(y1:List Vstep):List (Nat × TB EE.T):=[(100000,.cs [.d .str y0_0,.d (.int .i64) y0_1,.d (.int .i64) y0_2,.vec (.nam 4) 200001 y0_3]),(200001,.vec 200001 (.nam 4) y1)]
theorem ny{N:Nat}(y0_0:List UInt8)(y0_1:Int)(y0_2:Int)(y0_3:Nat)(y1:List Vstep){r:PR aX}(h:cM N y0_0 y0_1 y0_2 y0_3 y1=some r)(ρ:Rn)(hi:Inj ρ (ya y0_0 y0_1 y0_2 y0_3 y1)):ai Tryd.prog 100 ((DV y0_0 y0_1 y0_2 y0_3 y1).map (TV.to EE.toEnc ρ)) (hTo EE.toEnc ρ (ya y0_0 y0_1 y0_2 y0_3 y1)) (bQ EE ρ fun u=>u=ll r):=
 fA (aa 0 Tryd.f100) 31 mixed (Jm N) Tryd.func100 (by kernel_rfl) rfl rfl rfl rfl (I5 y0_0 y0_1 y0_2 y0_3 y1 h) ρ hi
def jy(N:Nat)(us:List (TV EE.T))(hs:List (Nat × TB EE.T)):XR EE.T:=
 gdX (gJ us 1) <|
 bnX (aB us 0) fun i0=>
 bnX (bC hs i0) fun l0=>
 gdX (gJ l0 4) <|
 bnX (cD .str l0 0) fun y0_0=>
 bnX (cD (.int .i64) l0 1) fun y0_1=>
 bnX (cD (.int .i64) l0 2) fun y0_2=>
 bnX (cVi (.nam 4) l0 3) fun i1=>
 bnX (cVn (.nam 4) l0 3) fun y0_3=>
 bnX (bV (.nam 4) hs i1) fun y1=>
 gdX (b9 hs [i0,i1]) <|
 gdX (kZ [i0,i1]) <|
 .mv (cM N y0_0 y0_1 y0_2 y0_3 y1) [i0,i1] (mvL [i0,i1] [100000,200001]) 0 (eR i0 i1) (uz i0 i1)
theorem m9(N:Nat):XOk Tryd.prog EE 100 (jy N):=fun us hs=>
 aQ fun h1=>ah fun i0 h2=>ah fun l0 h3=>aQ fun h4=>ah fun y0_0 h5=>ah fun y0_1 h6=>ah fun y0_2 h7=>ah fun i1 h8=>ah fun y0_3 h9=>ah fun y1 h10=>aQ fun h11=>aQ fun h12=>fun p hz ρ hi=>jo (ex:=[]) (ks:=[100000,200001]) (us':=DV y0_0 y0_1 y0_2 y0_3 y1) (h0:=ya y0_0 y0_1 y0_2 y0_3 y1) (ρ':=oA ρ [i0,i1]) (uc:=eR 100000 200001) (u:=eR i0 i1) (hc:=uz 100000 200001) (h:=uz i0 i1) hi h11 (by kernel_rfl) ⟨oC h2 (by kernel_rfl),bY h1⟩ ⟨(by kernel_rfl),o7 h3 ⟨ep h5,ep h6,ep h7,lC h8 h9 (by kernel_rfl),bY h4⟩,(by kernel_rfl),ns h10 (by kernel_rfl),trivial⟩ ⟨.inr rfl,.inl rfl,trivial⟩ h12 (fun hj=>ny y0_0 y0_1 y0_2 y0_3 y1 hz _ hj) (fun z=>⟨by kernel_rfl,by kernel_rfl,by kernel_rfl,by kernel_rfl⟩)
def fU(i0:Nat)(i1:Nat)(r:ae):TV EE.T:=.a (.d (.ptr (.bits 256)) r.1)
def xd(i0:Nat)(i1:Nat)(r:ae):List (Nat × TB EE.T):=[(i0,.cs [.d .str r.2.1,.d (.int .i64) r.2.2.1,.d (.int .i64) r.2.2.2.1,.vec (.nam 4) i1 r.2.2.2.2.1]),(i1,.vec i1 (.nam 4) r.2.2.2.2.2)]
def jC(r:PR ae):RL EE.T:=qS (fU 100000 200001) (xd 100000 200001) r
def Pg:Lvs:=⟨[(6,⟨[(0,false),(3,false),(4,false)],[],[(4,(none,[])),(100000,(none,[])),(200001,(none,[]))],[]⟩),(13,⟨[(0,false),(3,false),(4,false),(6,false),(7,false)],[],[(4,(none,[])),(100000,(none,[])),(200001,(none,[]))],[]⟩)],[(4,⟨[(0,false),(3,false),(4,false),(5,false)],[],[(4,(none,[])),(100000,(none,[])),(200001,(none,[]))],[]⟩),(14,⟨[(0,false),(3,false),(4,false),(7,false),(9,false)],[],[(4,(none,[])),(100000,(none,[])),(200001,(none,[]))],[]⟩),(18,⟨[(3,false),(4,false),(46,false)],[],[(4,(none,[])),(100000,(none,[])),(200001,(none,[]))],[]⟩)],[6,13],[],false,[(100000,(none,[]))],[100000,200001],[(22,[.cl 4 (.a 256) (.s 4)])],[]⟩
def OJ:List ResultVar:=[.tmp 2]
def NC(N:Nat):Gam EE:=⟨[],EQT,[⟨36,ee N⟩,⟨55,fL N⟩,⟨100,jy N⟩],[]⟩
theorem Nf(N:Nat):GOk Tryd.prog TT EE (NC N):=GOk.consx (eD N) (GOk.consx (gK N) (GOk.consx (m9 N) (GOk.nil bP)))
def zZ(c:Code):List It2:=atL 14 c
def Af(x3:Bool)(x7:UInt8)(x9:Int)(b4:List Bool)(WL:List UInt8)(WJ:Int)(WK:Int)(WI:Nat)(WM:List Vstep):TS EE.T:=⟨57,[(0,.a (.box 100000 0)),(3,.a (.d .bool x3)),(4,.a (.box 4 0)),(7,.a (.d .byte x7)),(9,.a (.d (.int .i64) x9))],[(4,.row .bool b4),(100000,.cs [.d .str WL,.d (.int .i64) WJ,.d (.int .i64) WK,.vec (.nam 4) 200001 WI]),(200001,.vec 200001 (.nam 4) WM)],[]⟩
def Ac(c:Code):List It2:=atR 13 c
def AU(x3:Bool)(x6:UInt8)(x7:UInt8)(b4:List Bool)(WL:List UInt8)(WJ:Int)(WK:Int)(WI:Nat)(WM:List Vstep):TS EE.T:=⟨57,[(0,.a (.box 100000 0)),(3,.a (.d .bool x3)),(4,.a (.box 4 0)),(6,.a (.d .byte x6)),(7,.a (.d .byte x7))],[(4,.row .bool b4),(100000,.cs [.d .str WL,.d (.int .i64) WJ,.d (.int .i64) WK,.vec (.nam 4) 200001 WI]),(200001,.vec 200001 (.nam 4) WM)],[]⟩
def CZ(c:Code):List It2:=atR 6 c
def D8(x3:Bool)(b4:List Bool)(WL:List UInt8)(WJ:Int)(WK:Int)(WI:Nat)(WM:List Vstep):TS EE.T:=⟨57,[(0,.a (.box 100000 0)),(3,.a (.d .bool x3)),(4,.a (.box 4 0))],[(4,.row .bool b4),(100000,.cs [.d .str WL,.d (.int .i64) WJ,.d (.int .i64) WK,.vec (.nam 4) 200001 WI]),(200001,.vec 200001 (.nam 4) WM)],[]⟩
def AW(c:Code):List It2:=atL 18 c
def Az(x3:Bool)(x46:Int)(b4:List Bool)(WL:List UInt8)(WJ:Int)(WK:Int)(WI:Nat)(WM:List Vstep):TS EE.T:=⟨57,[(3,.a (.d .bool x3)),(4,.a (.box 4 0)),(46,.a (.d (.int .i64) x46))],[(4,.row .bool b4),(100000,.cs [.d .str WL,.d (.int .i64) WJ,.d (.int .i64) WK,.vec (.nam 4) 200001 WI]),(200001,.vec 200001 (.nam 4) WM)],[]⟩
def qc(c:Code):List It2:=atL 4 c
def qR(x3:Bool)(x5:Bool)(b4:List Bool)(WL:List UInt8)(WJ:Int)(WK:Int)(WI:Nat)(WM:List Vstep):TS EE.T:=⟨57,[(0,.a (.box 100000 0)),(3,.a (.d .bool x3)),(4,.a (.box 4 0)),(5,.a (.d .bool x5))],[(4,.row .bool b4),(100000,.cs [.d .str WL,.d (.int .i64) WJ,.d (.int .i64) WK,.vec (.nam 4) 200001 WI]),(200001,.vec 200001 (.nam 4) WM)],[]⟩
def JX(c:Code):List It2:=[.c c]
def Lu(y0_0:List UInt8)(y0_1:Int)(y0_2:Int)(y0_3:Nat)(y1:List Vstep):TS EE.T:=⟨57,[(0,.a (.box 100000 0))],[(100000,.cs [.d .str y0_0,.d (.int .i64) y0_1,.d (.int .i64) y0_2,.vec (.nam 4) 200001 y0_3]),(200001,.vec 200001 (.nam 4) y1)],[]⟩
def AX(c:Code)(f:Bool→UInt8→Int→(List Bool)→(List UInt8)→Int→Int→Nat→(List Vstep)→Option (PR ae))(x3:Bool)(x7:UInt8)(x9:Int)(b4:List Bool)(WL:List UInt8)(WJ:Int)(WK:Int)(WI:Nat)(WM:List Vstep):Tree (Lf EE.T × Option (PR ae)):=.leaf (.go (zZ c) (Af x3 x7 x9 b4 WL WJ WK WI WM),f x3 x7 x9 b4 WL WJ WK WI WM)
def uN(c:Code)(f:Bool→UInt8→UInt8→(List Bool)→(List UInt8)→Int→Int→Nat→(List Vstep)→Option (PR ae))(x3:Bool)(x6:UInt8)(x7:UInt8)(b4:List Bool)(WL:List UInt8)(WJ:Int)(WK:Int)(WI:Nat)(WM:List Vstep):Tree (Lf EE.T × Option (PR ae)):=.leaf (.go (Ac c) (AU x3 x6 x7 b4 WL WJ WK WI WM),f x3 x6 x7 b4 WL WJ WK WI WM)
def Fj(c:Code)(f:Bool→(List Bool)→(List UInt8)→Int→Int→Nat→(List Vstep)→Option (PR ae))(x3:Bool)(b4:List Bool)(WL:List UInt8)(WJ:Int)(WK:Int)(WI:Nat)(WM:List Vstep):Tree (Lf EE.T × Option (PR ae)):=.leaf (.go (CZ c) (D8 x3 b4 WL WJ WK WI WM),f x3 b4 WL WJ WK WI WM)
def zX(c:Code)(f:Bool→Int→(List Bool)→(List UInt8)→Int→Int→Nat→(List Vstep)→Option (PR ae))(x3:Bool)(x46:Int)(b4:List Bool)(WL:List UInt8)(WJ:Int)(WK:Int)(WI:Nat)(WM:List Vstep):Tree (Lf EE.T × Option (PR ae)):=.leaf (.go (AW c) (Az x3 x46 b4 WL WJ WK WI WM),f x3 x46 b4 WL WJ WK WI WM)
def Fg(c:Code)(f:Bool→Bool→(List Bool)→(List UInt8)→Int→Int→Nat→(List Vstep)→Option (PR ae))(x3:Bool)(x5:Bool)(b4:List Bool)(WL:List UInt8)(WJ:Int)(WK:Int)(WI:Nat)(WM:List Vstep):Tree (Lf EE.T × Option (PR ae)):=.leaf (.go (qc c) (qR x3 x5 b4 WL WJ WK WI WM),f x3 x5 b4 WL WJ WK WI WM)
abbrev mt(N:Nat)(r:PR ae)(k:List It2)(s:TS EE.T):Prop:=eN (Y:=TT) EE (NC N) Pg OJ (fun u=>u=jC r) k s
def pz(x:PR ae):Tree (Lf EE.T × Option (PR ae)):=.leaf (.done (jC x),some x)
theorem AP{N:Nat}{r:PR ae}{k4:Bool→Bool→(List Bool)→(List UInt8)→Int→Int→Nat→(List Vstep)→Option (PR ae)}(hk4:∀x3 x5 b4 WL WJ WK WI WM,k4 x3 x5 b4 WL WJ WK WI WM=some r→mt N r (qc (aa 0 Tryd.f96)) (qR x3 x5 b4 WL WJ WK WI WM)):∀ (n:Nat) (x3:Bool) (x7:UInt8) (x9:Int) (b4:List Bool) (WL:List UInt8) (WJ:Int) (WK:Int) (WI:Nat) (WM:List Vstep),dO N k4 n x3 x7 x9 b4 WL WJ WK WI WM=some r→mt N r (zZ (aa 0 Tryd.f96)) (Af x3 x7 x9 b4 WL WJ WK WI WM)
 |0,_,_,_,_,_,_,_,_,_,h=>by cases h
 |n+1,x3,x7,x9,b4,WL,WJ,WK,WI,WM,h=>am (m:=4000) (t:=
  .cond (decide (x9≤(w64 (b2i x7))))
  (
   .bnd (gN 256 x9) fun z18=>
   .bnd (zB b4 (0+z18) true) fun z19=>
   AX (aa 0 Tryd.f96) (dO N k4 n) x3 x7 (w64 (x9+1)) z19 WL WJ WK WI WM)
  (
   Fg (aa 0 Tryd.f96) k4 x3 false b4 WL WJ WK WI WM)) (by kernel_rfl) (by kernel_rfl) h (⟨fun _=>fun _=>fun h=>(AP hk4 n) _ _ _ _ _ _ _ _ _ h,fun h=>hk4 _ _ _ _ _ _ _ _ h⟩)
theorem uI{N:Nat}{r:PR ae}{k4:Bool→Bool→(List Bool)→(List UInt8)→Int→Int→Nat→(List Vstep)→Option (PR ae)}(hk4:∀x3 x5 b4 WL WJ WK WI WM,k4 x3 x5 b4 WL WJ WK WI WM=some r→mt N r (qc (aa 0 Tryd.f96)) (qR x3 x5 b4 WL WJ WK WI WM))(n:Nat)(x3:Bool)(x6:UInt8)(x7:UInt8)(b4:List Bool)(WL:List UInt8)(WJ:Int)(WK:Int)(WI:Nat)(WM:List Vstep)(h:cv N k4 n x3 x6 x7 b4 WL WJ WK WI WM=some r):mt N r (Ac (aa 0 Tryd.f96)) (AU x3 x6 x7 b4 WL WJ WK WI WM):=
 am (m:=4000) (t:=
 AX (aa 0 Tryd.f96) (dO N k4 n) x3 x7 (w64 (b2i x6)) b4 WL WJ WK WI WM) (by kernel_rfl) (by kernel_rfl) h (fun h=>AP hk4 n _ _ _ _ _ _ _ _ _ h)
theorem EP{N:Nat}{r:PR ae}{k4:Bool→Bool→(List Bool)→(List UInt8)→Int→Int→Nat→(List Vstep)→Option (PR ae)}(hk4:∀x3 x5 b4 WL WJ WK WI WM,k4 x3 x5 b4 WL WJ WK WI WM=some r→mt N r (qc (aa 0 Tryd.f96)) (qR x3 x5 b4 WL WJ WK WI WM))(n:Nat)(x3:Bool)(b4:List Bool)(WL:List UInt8)(WJ:Int)(WK:Int)(WI:Nat)(WM:List Vstep)(h:ed N k4 n x3 b4 WL WJ WK WI WM=some r):mt N r (CZ (aa 0 Tryd.f96)) (D8 x3 b4 WL WJ WK WI WM):=
 am (m:=4000) (t:=
 .bnd (cM N WL WJ WK WI WM) fun z5=>
 .sm z5 (fun z6=>
  .bnd (bn N 45 z6.2.1 z6.2.2.1 z6.2.2.2.1 z6.2.2.2.2.1 z6.2.2.2.2.2) fun z7=>
  .sm z7 (fun z8=>
   .cond (z8.1)
   (
    .bnd (cM N z8.2.1 z8.2.2.1 z8.2.2.2.1 z8.2.2.2.2.1 z8.2.2.2.2.2) fun z9=>
    .sm z9 (fun z10=>
     .cond (decide ((b2i z10.1) < (b2i z6.1)))
     (
      .bnd (aP N 3 z8.2.2.1 z10.2.1 z10.2.2.1 z10.2.2.2.1 z10.2.2.2.2.1 z10.2.2.2.2.2) fun z11=>
      .sm z11 (fun z12=>
       uN (aa 0 Tryd.f96) (cv N k4 n) x3 z6.1 z10.1 b4 z12.1 z12.2.1 z12.2.2.1 z12.2.2.2.1 z12.2.2.2.2) (fun vz11=>
       pz (.pan vz11)))
     (
      uN (aa 0 Tryd.f96) (cv N k4 n) x3 z6.1 z10.1 b4 z10.2.1 z10.2.2.1 z10.2.2.2.1 z10.2.2.2.2.1 z10.2.2.2.2.2)) (fun vz9=>
     pz (.pan vz9)))
   (
    uN (aa 0 Tryd.f96) (cv N k4 n) x3 z6.1 z6.1 b4 z8.2.1 z8.2.2.1 z8.2.2.2.1 z8.2.2.2.2.1 z8.2.2.2.2.2)) (fun vz7=>
   pz (.pan vz7))) (fun vz5=>
  pz (.pan vz5))) (by kernel_rfl) (by kernel_rfl) h (fun _=>⟨fun _=>fun _=>⟨fun _=>⟨fun _=>⟨fun _=>⟨fun _=>⟨fun _=>fun h=>uI hk4 n _ _ _ _ _ _ _ _ _ h,fun _=>ay (enc:=jC) rfl⟩,fun h=>uI hk4 n _ _ _ _ _ _ _ _ _ h⟩,fun _=>ay (enc:=jC) rfl⟩,fun h=>uI hk4 n _ _ _ _ _ _ _ _ _ h⟩,fun _=>ay (enc:=jC) rfl⟩,fun _=>ay (enc:=jC) rfl⟩)
theorem Ad{N:Nat}{r:PR ae}:∀ (n:Nat) (x3:Bool) (x46:Int) (b4:List Bool) (WL:List UInt8) (WJ:Int) (WK:Int) (WI:Nat) (WM:List Vstep),dP N n x3 x46 b4 WL WJ WK WI WM=some r→mt N r (AW (aa 0 Tryd.f96)) (Az x3 x46 b4 WL WJ WK WI WM)
 |0,_,_,_,_,_,_,_,_,h=>by cases h
 |n+1,x3,x46,b4,WL,WJ,WK,WI,WM,h=>am (m:=4000) (t:=
  .cond (decide (x46 < 256))
  (
   .bnd (gN 256 x46) fun z13=>
   .bnd (b4[0+z13]?) fun z14=>
   .bnd (gN 256 x46) fun z15=>
   .bnd (zB b4 (0+z15) (!(z14==x3))) fun z16=>
   zX (aa 0 Tryd.f96) (dP N n) x3 (w64 (x46+1)) z16 WL WJ WK WI WM)
  (
   .bnd (tP 256 b4) fun z17=>
   pz (.ok ((some z17),WL,WJ,WK,WI,WM)))) (by kernel_rfl) (by kernel_rfl) h (⟨fun _=>fun _=>fun _=>fun _=>fun h=>(Ad n) _ _ _ _ _ _ _ _ h,fun _=>ay (enc:=jC) rfl⟩)
theorem zq{N:Nat}{r:PR ae}:∀ (n:Nat) (x3:Bool) (x5:Bool) (b4:List Bool) (WL:List UInt8) (WJ:Int) (WK:Int) (WI:Nat) (WM:List Vstep),cE N n x3 x5 b4 WL WJ WK WI WM=some r→mt N r (qc (aa 0 Tryd.f96)) (qR x3 x5 b4 WL WJ WK WI WM)
 |0,_,_,_,_,_,_,_,_,h=>by cases h
 |n+1,x3,x5,b4,WL,WJ,WK,WI,WM,h=>am (m:=4000) (t:=
  .cond (x5)
  (
   Fj (aa 0 Tryd.f96) (ed N (cE N n) n) x3 b4 WL WJ WK WI WM)
  (
   .bnd (bn N 93 WL WJ WK WI WM) fun z3=>
   .sm z3 (fun z4=>
    .cond (!z4.1)
    (
     Fj (aa 0 Tryd.f96) (ed N (cE N n) n) x3 b4 z4.2.1 z4.2.2.1 z4.2.2.2.1 z4.2.2.2.2.1 z4.2.2.2.2.2)
    (
     zX (aa 0 Tryd.f96) (dP N n) x3 0 b4 z4.2.1 z4.2.2.1 z4.2.2.2.1 z4.2.2.2.2.1 z4.2.2.2.2.2)) (fun vz3=>
    pz (.pan vz3)))) (by kernel_rfl) (by kernel_rfl) h (⟨fun h=>EP (zq n) n _ _ _ _ _ _ _ h,fun _=>⟨fun _=>⟨fun h=>EP (zq n) n _ _ _ _ _ _ _ h,fun h=>Ad n _ _ _ _ _ _ _ _ h⟩,fun _=>ay (enc:=jC) rfl⟩⟩)
theorem Mm{N:Nat}{r:PR ae}(y0_0:List UInt8)(y0_1:Int)(y0_2:Int)(y0_3:Nat)(y1:List Vstep)(h:eX N y0_0 y0_1 y0_2 y0_3 y1=some r):mt N r (JX (aa 0 Tryd.f96)) (Lu y0_0 y0_1 y0_2 y0_3 y1):=
 am (m:=4000) (t:=
 .bnd (bn N 94 y0_0 y0_1 y0_2 y0_3 y1) fun z1=>
 .sm z1 (fun z2=>
  Fg (aa 0 Tryd.f96) (cE N N) z2.1 true (List.replicate 256 false) z2.2.1 z2.2.2.1 z2.2.2.2.1 z2.2.2.2.2.1 z2.2.2.2.2.2) (fun vz1=>
  pz (.pan vz1))) (by kernel_rfl) (by kernel_rfl) h (fun _=>⟨fun _=>fun h=>zq N _ _ _ _ _ _ _ _ h,fun _=>ay (enc:=jC) rfl⟩)
def Io(y0_0:List UInt8)(y0_1:Int)(y0_2:Int)(y0_3:Nat)(y1:List Vstep):List (TV EE.T):=[.a (.box 100000 0)]
def CF(y0_0:List UInt8)(y0_1:Int)(y0_2:Int)(y0_3:Nat)(y1:List Vstep):List (Nat × TB EE.T):=[(100000,.cs [.d .str y0_0,.d (.int .i64) y0_1,.d (.int .i64) y0_2,.vec (.nam 4) 200001 y0_3]),(200001,.vec 200001 (.nam 4) y1)]
theorem pe{N:Nat}(y0_0:List UInt8)(y0_1:Int)(y0_2:Int)(y0_3:Nat)(y1:List Vstep){r:PR ae}(h:eX N y0_0 y0_1 y0_2 y0_3 y1=some r)(ρ:Rn)(hi:Inj ρ (CF y0_0 y0_1 y0_2 y0_3 y1)):ai Tryd.prog 96 ((Io y0_0 y0_1 y0_2 y0_3 y1).map (TV.to EE.toEnc ρ)) (hTo EE.toEnc ρ (CF y0_0 y0_1 y0_2 y0_3 y1)) (bQ EE ρ fun u=>u=jC r):=
 fA (aa 0 Tryd.f96) 57 mixed (Nf N) Tryd.func96 (by kernel_rfl) rfl rfl rfl rfl (Mm y0_0 y0_1 y0_2 y0_3 y1 h) ρ hi
def kA(N:Nat)(us:List (TV EE.T))(hs:List (Nat × TB EE.T)):XR EE.T:=
 gdX (gJ us 1) <|
 bnX (aB us 0) fun i0=>
 bnX (bC hs i0) fun l0=>
 gdX (gJ l0 4) <|
 bnX (cD .str l0 0) fun y0_0=>
 bnX (cD (.int .i64) l0 1) fun y0_1=>
 bnX (cD (.int .i64) l0 2) fun y0_2=>
 bnX (cVi (.nam 4) l0 3) fun i1=>
 bnX (cVn (.nam 4) l0 3) fun y0_3=>
 bnX (bV (.nam 4) hs i1) fun y1=>
 gdX (b9 hs [i0,i1]) <|
 gdX (kZ [i0,i1]) <|
 .mv (eX N y0_0 y0_1 y0_2 y0_3 y1) [i0,i1] (mvL [i0,i1] [100000,200001]) 0 (fU i0 i1) (xd i0 i1)
theorem oe(N:Nat):XOk Tryd.prog EE 96 (kA N):=fun us hs=>
 aQ fun h1=>ah fun i0 h2=>ah fun l0 h3=>aQ fun h4=>ah fun y0_0 h5=>ah fun y0_1 h6=>ah fun y0_2 h7=>ah fun i1 h8=>ah fun y0_3 h9=>ah fun y1 h10=>aQ fun h11=>aQ fun h12=>fun p hz ρ hi=>jo (ex:=[]) (ks:=[100000,200001]) (us':=Io y0_0 y0_1 y0_2 y0_3 y1) (h0:=CF y0_0 y0_1 y0_2 y0_3 y1) (ρ':=oA ρ [i0,i1]) (uc:=fU 100000 200001) (u:=fU i0 i1) (hc:=xd 100000 200001) (h:=xd i0 i1) hi h11 (by kernel_rfl) ⟨oC h2 (by kernel_rfl),bY h1⟩ ⟨(by kernel_rfl),o7 h3 ⟨ep h5,ep h6,ep h7,lC h8 h9 (by kernel_rfl),bY h4⟩,(by kernel_rfl),ns h10 (by kernel_rfl),trivial⟩ ⟨.inr rfl,.inl rfl,trivial⟩ h12 (fun hj=>pe y0_0 y0_1 y0_2 y0_3 y1 hz _ hj) (fun z=>⟨by kernel_rfl,by kernel_rfl,by kernel_rfl,by kernel_rfl⟩)
def pg(i0:Nat)(i1:Nat)(r:Bool × (List UInt8) × Int × Int × Nat × (List Vstep)):TV EE.T:=.a (.d .bool r.1)
def o8(i0:Nat)(i1:Nat)(r:Bool × (List UInt8) × Int × Int × Nat × (List Vstep)):List (Nat × TB EE.T):=[(i0,.cs [.d .str r.2.1,.d (.int .i64) r.2.2.1,.d (.int .i64) r.2.2.2.1,.vec (.nam 4) i1 r.2.2.2.2.1]),(i1,.vec i1 (.nam 4) r.2.2.2.2.2)]
def fS(N:RecC)(us:List (TV EE.T))(hs:List (Nat × TB EE.T)):XR EE.T:=
 gdX (gJ us 1) <|
 bnX (aB us 0) fun i0=>
 bnX (bC hs i0) fun l0=>
 gdX (gJ l0 4) <|
 bnX (cD .str l0 0) fun y0_0=>
 bnX (cD (.int .i64) l0 1) fun y0_1=>
 bnX (cD (.int .i64) l0 2) fun y0_2=>
 bnX (cVi (.nam 4) l0 3) fun i1=>
 bnX (cVn (.nam 4) l0 3) fun y0_3=>
 bnX (bV (.nam 4) hs i1) fun y1=>
 gdX (b9 hs [i0,i1]) <|
 gdX (kZ [i0,i1]) <|
 .mv (eW N y0_0 y0_1 y0_2 y0_3 y1) [i0,i1] (mvL [i0,i1] [100000,200001]) 0 (pg i0 i1) (o8 i0 i1)
def lc(N:RecC):Prop:=XOk Tryd.prog EE 35 (fS N)
theorem jx(N:RecC)(hN:lc N):XOk Tryd.prog EE 35 (fS N):=hN
theorem La(n:Nat):lc ⟨n,fun _ _ _ _ _=>none⟩:=fun us hs=>
 aQ fun h1=>ah fun i0 h2=>ah fun l0 h3=>aQ fun h4=>ah fun y0_0 h5=>ah fun y0_1 h6=>ah fun y0_2 h7=>ah fun i1 h8=>ah fun y0_3 h9=>ah fun y1 h10=>aQ fun h11=>aQ fun h12=>fun p hz=>by cases hz
def fm(i0:Nat)(i1:Nat)(r:bG):TV EE.T:=.a (.d .bool r.1)
def w7(i0:Nat)(i1:Nat)(r:bG):List (Nat × TB EE.T):=[(i0,.cs [.d .str r.2.1,.d (.int .i64) r.2.2.1,.d (.int .i64) r.2.2.2.1,.vec (.nam 4) i1 r.2.2.2.2.1]),(i1,.vec i1 (.nam 4) r.2.2.2.2.2)]
def qp(r:PR bG):RL EE.T:=qS (fm 100000 200001) (w7 100000 200001) r
def Ow:Lvs:=⟨[],[],[],[],false,[(100000,(none,[]))],[100000,200001],[],[]⟩
def OR:List ResultVar:=[.tmp 2]
def No(N:RecC):Gam EE:=⟨[],EQT,[⟨35,fS N⟩],[]⟩
theorem Nt(N:RecC)(hN:lc N):GOk Tryd.prog TT EE (No N):=GOk.consx (jx N hN) (GOk.nil bP)
def Oa(c:Code):List It2:=[.c c]
def Ok(y0_0:List UInt8)(y0_1:Int)(y0_2:Int)(y0_3:Nat)(y1:List Vstep):TS EE.T:=⟨5,[(0,.a (.box 100000 0))],[(100000,.cs [.d .str y0_0,.d (.int .i64) y0_1,.d (.int .i64) y0_2,.vec (.nam 4) 200001 y0_3]),(200001,.vec 200001 (.nam 4) y1)],[]⟩
abbrev P5(N:RecC)(r:PR bG)(k:List It2)(s:TS EE.T):Prop:=eN (Y:=TT) EE (No N) Ow OR (fun u=>u=qp r) k s
def GS(x:PR bG):Tree (Lf EE.T × Option (PR bG)):=.leaf (.done (qp x),some x)
theorem NI{N:RecC}{r:PR bG}(y0_0:List UInt8)(y0_1:Int)(y0_2:Int)(y0_3:Nat)(y1:List Vstep)(h:eG N y0_0 y0_1 y0_2 y0_3 y1=some r):P5 N r (Oa (aa 0 Tryd.f58)) (Ok y0_0 y0_1 y0_2 y0_3 y1):=
 am (m:=4000) (t:=
 .bnd (eW N y0_0 y0_1 y0_2 y0_3 y1) fun z1=>
 .sm z1 (fun z2=>
  GS (.ok (z2.1,z2.2.1,z2.2.2.1,z2.2.2.2.1,z2.2.2.2.2.1,z2.2.2.2.2.2))) (fun vz1=>
  GS (.pan vz1))) (by kernel_rfl) (by kernel_rfl) h (fun _=>⟨fun _=>ay (enc:=qp) rfl,fun _=>ay (enc:=qp) rfl⟩)
def GH(y0_0:List UInt8)(y0_1:Int)(y0_2:Int)(y0_3:Nat)(y1:List Vstep):List (TV EE.T):=[.a (.box 100000 0)]
def Bu(y0_0:List UInt8)(y0_1:Int)(y0_2:Int)(y0_3:Nat)(y1:List Vstep):List (Nat × TB EE.T):=[(100000,.cs [.d .str y0_0,.d (.int .i64) y0_1,.d (.int .i64) y0_2,.vec (.nam 4) 200001 y0_3]),(200001,.vec 200001 (.nam 4) y1)]
theorem n7{N:RecC}(hN:lc N)(y0_0:List UInt8)(y0_1:Int)(y0_2:Int)(y0_3:Nat)(y1:List Vstep){r:PR bG}(h:eG N y0_0 y0_1 y0_2 y0_3 y1=some r)(ρ:Rn)(hi:Inj ρ (Bu y0_0 y0_1 y0_2 y0_3 y1)):ai Tryd.prog 58 ((GH y0_0 y0_1 y0_2 y0_3 y1).map (TV.to EE.toEnc ρ)) (hTo EE.toEnc ρ (Bu y0_0 y0_1 y0_2 y0_3 y1)) (bQ EE ρ fun u=>u=qp r):=
 fA (aa 0 Tryd.f58) 5 mixed (Nt N hN) Tryd.func58 (by kernel_rfl) rfl rfl rfl rfl (NI y0_0 y0_1 y0_2 y0_3 y1 h) ρ hi
def ke(N:RecC)(us:List (TV EE.T))(hs:List (Nat × TB EE.T)):XR EE.T:=
 gdX (gJ us 1) <|
 bnX (aB us 0) fun i0=>
 bnX (bC hs i0) fun l0=>
 gdX (gJ l0 4) <|
 bnX (cD .str l0 0) fun y0_0=>
 bnX (cD (.int .i64) l0 1) fun y0_1=>
 bnX (cD (.int .i64) l0 2) fun y0_2=>
 bnX (cVi (.nam 4) l0 3) fun i1=>
 bnX (cVn (.nam 4) l0 3) fun y0_3=>
 bnX (bV (.nam 4) hs i1) fun y1=>
 gdX (b9 hs [i0,i1]) <|
 gdX (kZ [i0,i1]) <|
 .mv (eG N y0_0 y0_1 y0_2 y0_3 y1) [i0,i1] (mvL [i0,i1] [100000,200001]) 0 (fm i0 i1) (w7 i0 i1)
theorem nD(N:RecC)(hN:lc N):XOk Tryd.prog EE 58 (ke N):=fun us hs=>
 aQ fun h1=>ah fun i0 h2=>ah fun l0 h3=>aQ fun h4=>ah fun y0_0 h5=>ah fun y0_1 h6=>ah fun y0_2 h7=>ah fun i1 h8=>ah fun y0_3 h9=>ah fun y1 h10=>aQ fun h11=>aQ fun h12=>fun p hz ρ hi=>jo (ex:=[]) (ks:=[100000,200001]) (us':=GH y0_0 y0_1 y0_2 y0_3 y1) (h0:=Bu y0_0 y0_1 y0_2 y0_3 y1) (ρ':=oA ρ [i0,i1]) (uc:=fm 100000 200001) (u:=fm i0 i1) (hc:=w7 100000 200001) (h:=w7 i0 i1) hi h11 (by kernel_rfl) ⟨oC h2 (by kernel_rfl),bY h1⟩ ⟨(by kernel_rfl),o7 h3 ⟨ep h5,ep h6,ep h7,lC h8 h9 (by kernel_rfl),bY h4⟩,(by kernel_rfl),ns h10 (by kernel_rfl),trivial⟩ ⟨.inr rfl,.inl rfl,trivial⟩ h12 (fun hj=>n7 hN y0_0 y0_1 y0_2 y0_3 y1 hz _ hj) (fun z=>⟨by kernel_rfl,by kernel_rfl,by kernel_rfl,by kernel_rfl⟩)
def fj(i0:Nat)(i1:Nat)(r:aj):TV EE.T:=.a (.d .bool r.1)
def w3(i0:Nat)(i1:Nat)(r:aj):List (Nat × TB EE.T):=[(i0,.cs [.d .str r.2.1,.d (.int .i64) r.2.2.1,.d (.int .i64) r.2.2.2.1,.vec (.nam 4) i1 r.2.2.2.2.1]),(i1,.vec i1 (.nam 4) r.2.2.2.2.2)]
def cQ(r:PR aj):RL EE.T:=qS (fj 100000 200001) (w3 100000 200001) r
def OD:Lvs:=⟨[(1,⟨[(0,false)],[],[(100000,(none,[])),(200001,(none,[]))],[]⟩),(5,⟨[(0,false),(3,false)],[],[(100000,(none,[])),(200001,(none,[]))],[]⟩),(20,⟨[(0,false),(6,false),(7,false),(8,false)],[],[(100000,(none,[])),(200001,(none,[]))],[]⟩),(21,⟨[(0,false),(6,false)],[],[(100000,(none,[])),(200001,(none,[]))],[]⟩),(30,⟨[(0,false)],[],[(100000,(none,[])),(200001,(none,[]))],[]⟩)],[(11,⟨[(0,false),(4,false),(51,false)],[],[(4,(none,[])),(100000,(none,[])),(200001,(none,[]))],[]⟩)],[5,20,21,30],[],false,[(100000,(none,[]))],[100000,200001],[(15,[.cl 4 (.a 256) (.s 4)])],[]⟩
def QG:List ResultVar:=[.tmp 2]
def K5(N:RecC):Gam EE:=⟨[⟨95,sx N.n⟩,⟨59,fF N.n⟩],EQT,[⟨37,eq N.n⟩,⟨35,fS N⟩,⟨36,ee N.n⟩,⟨73,dl N.n⟩,⟨96,kA N.n⟩,⟨55,fL N.n⟩],[]⟩
theorem K6(N:RecC)(hN:lc N):GOk Tryd.prog TT EE (K5 N):=GOk.cons (BJ N.n) (GOk.cons (iL N.n) (GOk.consx (eQ N.n) (GOk.consx (jx N hN) (GOk.consx (eD N.n) (GOk.consx (dE N.n) (GOk.consx (oe N.n) (GOk.consx (gK N.n) (GOk.nil bP))))))))
def Al(c:Code):List It2:=atL 11 c
def A9(x51:Int)(b4:List Bool)(WL:List UInt8)(WJ:Int)(WK:Int)(WI:Nat)(WM:List Vstep):TS EE.T:=⟨187,[(0,.a (.box 100000 0)),(4,.a (.box 4 0)),(51,.a (.d (.int .i64) x51))],[(4,.row .bool b4),(100000,.cs [.d .str WL,.d (.int .i64) WJ,.d (.int .i64) WK,.vec (.nam 4) 200001 WI]),(200001,.vec 200001 (.nam 4) WM)],[]⟩
def Bi(c:Code):List It2:=atR 21 c
def Bf(x6:UInt8)(WL:List UInt8)(WJ:Int)(WK:Int)(WI:Nat)(WM:List Vstep):TS EE.T:=⟨187,[(0,.a (.box 100000 0)),(6,.a (.d .byte x6))],[(100000,.cs [.d .str WL,.d (.int .i64) WJ,.d (.int .i64) WK,.vec (.nam 4) 200001 WI]),(200001,.vec 200001 (.nam 4) WM)],[]⟩
def Bm(c:Code):List It2:=atR 20 c
def AT(x6:UInt8)(x7:Bool)(x8:Bool)(WL:List UInt8)(WJ:Int)(WK:Int)(WI:Nat)(WM:List Vstep):TS EE.T:=⟨187,[(0,.a (.box 100000 0)),(6,.a (.d .byte x6)),(7,.a (.d .bool x7)),(8,.a (.d .bool x8))],[(100000,.cs [.d .str WL,.d (.int .i64) WJ,.d (.int .i64) WK,.vec (.nam 4) 200001 WI]),(200001,.vec 200001 (.nam 4) WM)],[]⟩
def Ao(c:Code):List It2:=atR 30 c
def AF(WL:List UInt8)(WJ:Int)(WK:Int)(WI:Nat)(WM:List Vstep):TS EE.T:=⟨187,[(0,.a (.box 100000 0))],[(100000,.cs [.d .str WL,.d (.int .i64) WJ,.d (.int .i64) WK,.vec (.nam 4) 200001 WI]),(200001,.vec 200001 (.nam 4) WM)],[]⟩
def DT(c:Code):List It2:=atR 5 c
def DX(x3:UInt8)(WL:List UInt8)(WJ:Int)(WK:Int)(WI:Nat)(WM:List Vstep):TS EE.T:=⟨187,[(0,.a (.box 100000 0)),(3,.a (.d .byte x3))],[(100000,.cs [.d .str WL,.d (.int .i64) WJ,.d (.int .i64) WK,.vec (.nam 4) 200001 WI]),(200001,.vec 200001 (.nam 4) WM)],[]⟩
def LS(c:Code):List It2:=[.c c]
def K0(y0_0:List UInt8)(y0_1:Int)(y0_2:Int)(y0_3:Nat)(y1:List Vstep):TS EE.T:=⟨187,[(0,.a (.box 100000 0))],[(100000,.cs [.d .str y0_0,.d (.int .i64) y0_1,.d (.int .i64) y0_2,.vec (.nam 4) 200001 y0_3]),(200001,.vec 200001 (.nam 4) y1)],[]⟩
def AH(c:Code)(f:Int→(List Bool)→(List UInt8)→Int→Int→Nat→(List Vstep)→Option (PR aj))(x51:Int)(b4:List Bool)(WL:List UInt8)(WJ:Int)(WK:Int)(WI:Nat)(WM:List Vstep):Tree (Lf EE.T × Option (PR aj)):=.leaf (.go (Al c) (A9 x51 b4 WL WJ WK WI WM),f x51 b4 WL WJ WK WI WM)
def AE(c:Code)(f:UInt8→(List UInt8)→Int→Int→Nat→(List Vstep)→Option (PR aj))(x6:UInt8)(WL:List UInt8)(WJ:Int)(WK:Int)(WI:Nat)(WM:List Vstep):Tree (Lf EE.T × Option (PR aj)):=.leaf (.go (Bi c) (Bf x6 WL WJ WK WI WM),f x6 WL WJ WK WI WM)
def gT(c:Code)(f:UInt8→Bool→Bool→(List UInt8)→Int→Int→Nat→(List Vstep)→Option (PR aj))(x6:UInt8)(x7:Bool)(x8:Bool)(WL:List UInt8)(WJ:Int)(WK:Int)(WI:Nat)(WM:List Vstep):Tree (Lf EE.T × Option (PR aj)):=.leaf (.go (Bm c) (AT x6 x7 x8 WL WJ WK WI WM),f x6 x7 x8 WL WJ WK WI WM)
def AZ(c:Code)(f:(List UInt8)→Int→Int→Nat→(List Vstep)→Option (PR aj))(WL:List UInt8)(WJ:Int)(WK:Int)(WI:Nat)(WM:List Vstep):Tree (Lf EE.T × Option (PR aj)):=.leaf (.go (Ao c) (AF WL WJ WK WI WM),f WL WJ WK WI WM)
def Ec(c:Code)(f:UInt8→(List UInt8)→Int→Int→Nat→(List Vstep)→Option (PR aj))(x3:UInt8)(WL:List UInt8)(WJ:Int)(WK:Int)(WI:Nat)(WM:List Vstep):Tree (Lf EE.T × Option (PR aj)):=.leaf (.go (DT c) (DX x3 WL WJ WK WI WM),f x3 WL WJ WK WI WM)
abbrev rB(N:RecC)(r:PR aj)(k:List It2)(s:TS EE.T):Prop:=eN (Y:=TT) EE (K5 N) OD QG (fun u=>u=cQ r) k s
def eC(x:PR aj):Tree (Lf EE.T × Option (PR aj)):=.leaf (.done (cQ x),some x)
theorem AM{N:RecC}{r:PR aj}:∀ (n:Nat) (x51:Int) (b4:List Bool) (WL:List UInt8) (WJ:Int) (WK:Int) (WI:Nat) (WM:List Vstep),dG N n x51 b4 WL WJ WK WI WM=some r→rB N r (Al (aa 0 Tryd.f87)) (A9 x51 b4 WL WJ WK WI WM)
 |0,_,_,_,_,_,_,_,h=>by cases h
 |n+1,x51,b4,WL,WJ,WK,WI,WM,h=>am (m:=4000) (t:=
  .cond (decide (x51 < 256))
  (
   .bnd (gN 256 x51) fun z13=>
   .bnd (zB b4 (0+z13) true) fun z14=>
   AH (aa 0 Tryd.f87) (dG N n) (w64 (x51+1)) z14 WL WJ WK WI WM)
  (
   .bnd (tP 256 b4) fun z15=>
   .bnd (ak N.n ({ kind:=0,a:=0,b:=0,set_:=(some z15) }:Vstep) WL WJ WK WI WM) fun z16=>
   .sm z16 (fun z17=>
    eC (.ok (false,z17.2.1,z17.2.2.1,z17.2.2.2.1,z17.2.2.2.2.1,z17.2.2.2.2.2))) (fun vz16=>
    eC (.pan vz16)))) (by kernel_rfl) (by kernel_rfl) h (⟨fun _=>fun _=>fun h=>(AM n) _ _ _ _ _ _ _ h,fun _=>fun _=>⟨fun _=>ay (enc:=cQ) rfl,fun _=>ay (enc:=cQ) rfl⟩⟩)
theorem AQ{N:RecC}{r:PR aj}(n:Nat)(x6:UInt8)(WL:List UInt8)(WJ:Int)(WK:Int)(WI:Nat)(WM:List Vstep)(h:dC N n x6 WL WJ WK WI WM=some r):rB N r (Bi (aa 0 Tryd.f87)) (Bf x6 WL WJ WK WI WM):=
 am (m:=4000) (t:=
 .bnd (aP N.n 1 WJ WL WJ WK WI WM) fun z34=>
 .sm z34 (fun z35=>
  .bnd (kE N.n x6) fun z36=>
  .bnd (ak N.n ({ kind:=0,a:=0,b:=0,set_:=z36 }:Vstep) z35.1 (w64 (z35.2.1+1)) z35.2.2.1 z35.2.2.2.1 z35.2.2.2.2) fun z37=>
  .sm z37 (fun z38=>
   eC (.ok (false,z38.2.1,z38.2.2.1,z38.2.2.2.1,z38.2.2.2.2.1,z38.2.2.2.2.2))) (fun vz37=>
   eC (.pan vz37))) (fun vz34=>
  eC (.pan vz34))) (by kernel_rfl) (by kernel_rfl) h (fun _=>⟨fun _=>fun _=>fun _=>⟨fun _=>ay (enc:=cQ) rfl,fun _=>ay (enc:=cQ) rfl⟩,fun _=>ay (enc:=cQ) rfl⟩)
theorem w87i0oR20{N:RecC}{r:PR aj}(n:Nat)(x6:UInt8)(x7:Bool)(x8:Bool)(WL:List UInt8)(WJ:Int)(WK:Int)(WI:Nat)(WM:List Vstep)(h:ap N n x6 x7 x8 WL WJ WK WI WM=some r):rB N r (Bm (aa 0 Tryd.f87)) (AT x6 x7 x8 WL WJ WK WI WM):=
 am (m:=4000) (t:=
 .cond (!x7)
 (
  AE (aa 0 Tryd.f87) (dC N n) x6 WL WJ WK WI WM)
 (
  .cond (x8)
  (
   AE (aa 0 Tryd.f87) (dC N n) x6 WL WJ WK WI WM)
  (
   .bnd (kE N.n x6) fun z18=>
   .bnd (ak N.n ({ kind:=0,a:=0,b:=0,set_:=z18 }:Vstep) WL (w64 (WJ+1)) WK WI WM) fun z19=>
   .sm z19 (fun z20=>
    eC (.ok (false,z20.2.1,z20.2.2.1,z20.2.2.2.1,z20.2.2.2.2.1,z20.2.2.2.2.2))) (fun vz19=>
    eC (.pan vz19))))) (by kernel_rfl) (by kernel_rfl) h (⟨fun h=>AQ n _ _ _ _ _ _ h,⟨fun h=>AQ n _ _ _ _ _ _ h,fun _=>fun _=>⟨fun _=>ay (enc:=cQ) rfl,fun _=>ay (enc:=cQ) rfl⟩⟩⟩)
theorem A0{N:RecC}{r:PR aj}(n:Nat)(WL:List UInt8)(WJ:Int)(WK:Int)(WI:Nat)(WM:List Vstep)(h:dB N n WL WJ WK WI WM=some r):rB N r (Ao (aa 0 Tryd.f87)) (AF WL WJ WK WI WM):=
 am (m:=4000) (t:=
 .bnd (ak N.n ({ kind:=3,a:=w64 (2 * (w64 (WK+1))),b:=0,set_:=(none:Option (List Bool)) }:Vstep) WL (w64 (WJ+1)) (w64 (WK+1)) WI WM) fun z21=>
 .sm z21 (fun z22=>
  .bnd (eW N z22.2.1 z22.2.2.1 z22.2.2.2.1 z22.2.2.2.2.1 z22.2.2.2.2.2) fun z23=>
  .sm z23 (fun z24=>
   .bnd (ak N.n ({ kind:=3,a:=w64 ((w64 (2 * (w64 (WK+1))))+1),b:=0,set_:=(none:Option (List Bool)) }:Vstep) z24.2.1 z24.2.2.1 z24.2.2.2.1 z24.2.2.2.2.1 z24.2.2.2.2.2) fun z25=>
   .sm z25 (fun z26=>
    .bnd (bn N.n 41 z26.2.1 z26.2.2.1 z26.2.2.2.1 z26.2.2.2.2.1 z26.2.2.2.2.2) fun z27=>
    .sm z27 (fun z28=>
     .cond (!z28.1)
     (
      .bnd (aP N.n 1 z28.2.2.1 z28.2.1 z28.2.2.1 z28.2.2.2.1 z28.2.2.2.2.1 z28.2.2.2.2.2) fun z29=>
      .sm z29 (fun z30=>
       eC (.ok (z24.1,z30.1,z30.2.1,z30.2.2.1,z30.2.2.2.1,z30.2.2.2.2))) (fun vz29=>
       eC (.pan vz29)))
     (
      eC (.ok (z24.1,z28.2.1,z28.2.2.1,z28.2.2.2.1,z28.2.2.2.2.1,z28.2.2.2.2.2)))) (fun vz27=>
     eC (.pan vz27))) (fun vz25=>
    eC (.pan vz25))) (fun vz23=>
   eC (.pan vz23))) (fun vz21=>
  eC (.pan vz21))) (by kernel_rfl) (by kernel_rfl) h (fun _=>⟨fun _=>fun _=>⟨fun _=>fun _=>⟨fun _=>fun _=>⟨fun _=>⟨fun _=>⟨fun _=>ay (enc:=cQ) rfl,fun _=>ay (enc:=cQ) rfl⟩,ay (enc:=cQ) rfl⟩,fun _=>ay (enc:=cQ) rfl⟩,fun _=>ay (enc:=cQ) rfl⟩,fun _=>ay (enc:=cQ) rfl⟩,fun _=>ay (enc:=cQ) rfl⟩)
theorem D4{N:RecC}{r:PR aj}(n:Nat)(x3:UInt8)(WL:List UInt8)(WJ:Int)(WK:Int)(WI:Nat)(WM:List Vstep)(h:dS N n x3 WL WJ WK WI WM=some r):rB N r (DT (aa 0 Tryd.f87)) (DX x3 WL WJ WK WI WM):=
 am (m:=4000) (t:=
 .bnd (kE N.n x3) fun z31=>
 .bnd (ak N.n ({ kind:=0,a:=0,b:=0,set_:=z31 }:Vstep) WL (w64 (WJ+1)) WK WI WM) fun z32=>
 .sm z32 (fun z33=>
  eC (.ok (false,z33.2.1,z33.2.2.1,z33.2.2.2.1,z33.2.2.2.2.1,z33.2.2.2.2.2))) (fun vz32=>
  eC (.pan vz32))) (by kernel_rfl) (by kernel_rfl) h (fun _=>fun _=>⟨fun _=>ay (enc:=cQ) rfl,fun _=>ay (enc:=cQ) rfl⟩)
theorem Ns{N:RecC}{r:PR aj}(y0_0:List UInt8)(y0_1:Int)(y0_2:Int)(y0_3:Nat)(y1:List Vstep)(h:eF N y0_0 y0_1 y0_2 y0_3 y1=some r):rB N r (LS (aa 0 Tryd.f87)) (K0 y0_0 y0_1 y0_2 y0_3 y1):=
 am (m:=4000) (t:=
 .bnd (bN y0_0 y0_1) fun z1=>
 .cond ((b2i z1)==(b2i 46))
 (
  AH (aa 0 Tryd.f87) (dG N N.n) 0 (List.replicate 256 false) y0_0 (w64 (y0_1+1)) y0_2 y0_3 y1)
 (
  .cond ((b2i z1)==(b2i 92))
  (
   .bnd (be N.n y0_0 (w64 (y0_1+1)) y0_2 y0_3 y1) fun z2=>
   .sm z2 (fun z3=>
    .cond (decide ((b2i z3.1)≥(b2i 97)))
    (
     .cond (decide ((b2i z3.1)≤(b2i 122)))
     (
      gT (aa 0 Tryd.f87) (ap N N.n) z3.1 z3.2.1 true z3.2.2.1 z3.2.2.2.1 z3.2.2.2.2.1 z3.2.2.2.2.2.1 z3.2.2.2.2.2.2)
     (
      .cond (decide ((b2i z3.1)≥(b2i 65)))
      (
       .cond (decide ((b2i z3.1)≤(b2i 90)))
       (
        gT (aa 0 Tryd.f87) (ap N N.n) z3.1 z3.2.1 true z3.2.2.1 z3.2.2.2.1 z3.2.2.2.2.1 z3.2.2.2.2.2.1 z3.2.2.2.2.2.2)
       (
        .cond (decide ((b2i z3.1)≥(b2i 48)))
        (
         gT (aa 0 Tryd.f87) (ap N N.n) z3.1 z3.2.1 (decide ((b2i z3.1)≤(b2i 57))) z3.2.2.1 z3.2.2.2.1 z3.2.2.2.2.1 z3.2.2.2.2.2.1 z3.2.2.2.2.2.2)
        (
         gT (aa 0 Tryd.f87) (ap N N.n) z3.1 z3.2.1 false z3.2.2.1 z3.2.2.2.1 z3.2.2.2.2.1 z3.2.2.2.2.2.1 z3.2.2.2.2.2.2)))
      (
       .cond (decide ((b2i z3.1)≥(b2i 48)))
       (
        gT (aa 0 Tryd.f87) (ap N N.n) z3.1 z3.2.1 (decide ((b2i z3.1)≤(b2i 57))) z3.2.2.1 z3.2.2.2.1 z3.2.2.2.2.1 z3.2.2.2.2.2.1 z3.2.2.2.2.2.2)
       (
        gT (aa 0 Tryd.f87) (ap N N.n) z3.1 z3.2.1 false z3.2.2.1 z3.2.2.2.1 z3.2.2.2.2.1 z3.2.2.2.2.2.1 z3.2.2.2.2.2.2))))
    (
     .cond (decide ((b2i z3.1)≥(b2i 65)))
     (
      .cond (decide ((b2i z3.1)≤(b2i 90)))
      (
       gT (aa 0 Tryd.f87) (ap N N.n) z3.1 z3.2.1 true z3.2.2.1 z3.2.2.2.1 z3.2.2.2.2.1 z3.2.2.2.2.2.1 z3.2.2.2.2.2.2)
      (
       .cond (decide ((b2i z3.1)≥(b2i 48)))
       (
        gT (aa 0 Tryd.f87) (ap N N.n) z3.1 z3.2.1 (decide ((b2i z3.1)≤(b2i 57))) z3.2.2.1 z3.2.2.2.1 z3.2.2.2.2.1 z3.2.2.2.2.2.1 z3.2.2.2.2.2.2)
       (
        gT (aa 0 Tryd.f87) (ap N N.n) z3.1 z3.2.1 false z3.2.2.1 z3.2.2.2.1 z3.2.2.2.2.1 z3.2.2.2.2.2.1 z3.2.2.2.2.2.2)))
     (
      .cond (decide ((b2i z3.1)≥(b2i 48)))
      (
       gT (aa 0 Tryd.f87) (ap N N.n) z3.1 z3.2.1 (decide ((b2i z3.1)≤(b2i 57))) z3.2.2.1 z3.2.2.2.1 z3.2.2.2.2.1 z3.2.2.2.2.2.1 z3.2.2.2.2.2.2)
      (
       gT (aa 0 Tryd.f87) (ap N N.n) z3.1 z3.2.1 false z3.2.2.1 z3.2.2.2.1 z3.2.2.2.2.1 z3.2.2.2.2.2.1 z3.2.2.2.2.2.2)))) (fun vz2=>
    eC (.pan vz2)))
  (
   .cond ((b2i z1)==(b2i 91))
   (
    .bnd (eX N.n y0_0 (w64 (y0_1+1)) y0_2 y0_3 y1) fun z4=>
    .sm z4 (fun z5=>
     .bnd (ak N.n ({ kind:=0,a:=0,b:=0,set_:=z5.1 }:Vstep) z5.2.1 z5.2.2.1 z5.2.2.2.1 z5.2.2.2.2.1 z5.2.2.2.2.2) fun z6=>
     .sm z6 (fun z7=>
      eC (.ok (false,z7.2.1,z7.2.2.1,z7.2.2.2.1,z7.2.2.2.2.1,z7.2.2.2.2.2))) (fun vz6=>
      eC (.pan vz6))) (fun vz4=>
     eC (.pan vz4)))
   (
    .cond ((b2i z1)==(b2i 40))
    (
     .cond (y0_2==9)
     (
      .bnd (aP N.n 2 y0_1 y0_0 y0_1 y0_2 y0_3 y1) fun z8=>
      .sm z8 (fun z9=>
       AZ (aa 0 Tryd.f87) (dB N N.n) z9.1 z9.2.1 z9.2.2.1 z9.2.2.2.1 z9.2.2.2.2) (fun vz8=>
       eC (.pan vz8)))
     (
      AZ (aa 0 Tryd.f87) (dB N N.n) y0_0 y0_1 y0_2 y0_3 y1))
    (
     .bnd (cX N.n ([42,43,63,41,124,93] :List UInt8) z1) fun z10=>
     .cond (decide (z10≥0))
     (
      .bnd (aP N.n 1 y0_1 y0_0 y0_1 y0_2 y0_3 y1) fun z11=>
      .sm z11 (fun z12=>
       Ec (aa 0 Tryd.f87) (dS N N.n) z1 z12.1 z12.2.1 z12.2.2.1 z12.2.2.2.1 z12.2.2.2.2) (fun vz11=>
       eC (.pan vz11)))
     (
      Ec (aa 0 Tryd.f87) (dS N N.n) z1 y0_0 y0_1 y0_2 y0_3 y1)))))) (by kernel_rfl) (by kernel_rfl) h (fun _=>⟨fun h=>AM N.n _ _ _ _ _ _ _ h,⟨fun _=>⟨fun _=>⟨⟨fun h=>w87i0oR20 N.n _ _ _ _ _ _ _ _ h,⟨⟨fun h=>w87i0oR20 N.n _ _ _ _ _ _ _ _ h,⟨fun h=>w87i0oR20 N.n _ _ _ _ _ _ _ _ h,fun h=>w87i0oR20 N.n _ _ _ _ _ _ _ _ h⟩⟩,⟨fun h=>w87i0oR20 N.n _ _ _ _ _ _ _ _ h,fun h=>w87i0oR20 N.n _ _ _ _ _ _ _ _ h⟩⟩⟩,⟨⟨fun h=>w87i0oR20 N.n _ _ _ _ _ _ _ _ h,⟨fun h=>w87i0oR20 N.n _ _ _ _ _ _ _ _ h,fun h=>w87i0oR20 N.n _ _ _ _ _ _ _ _ h⟩⟩,⟨fun h=>w87i0oR20 N.n _ _ _ _ _ _ _ _ h,fun h=>w87i0oR20 N.n _ _ _ _ _ _ _ _ h⟩⟩⟩,fun _=>ay (enc:=cQ) rfl⟩,⟨fun _=>⟨fun _=>fun _=>⟨fun _=>ay (enc:=cQ) rfl,fun _=>ay (enc:=cQ) rfl⟩,fun _=>ay (enc:=cQ) rfl⟩,⟨⟨fun _=>⟨fun _=>fun h=>A0 N.n _ _ _ _ _ h,fun _=>ay (enc:=cQ) rfl⟩,fun h=>A0 N.n _ _ _ _ _ h⟩,fun _=>⟨fun _=>⟨fun _=>fun h=>D4 N.n _ _ _ _ _ _ h,fun _=>ay (enc:=cQ) rfl⟩,fun h=>D4 N.n _ _ _ _ _ _ h⟩⟩⟩⟩⟩)
def HQ(y0_0:List UInt8)(y0_1:Int)(y0_2:Int)(y0_3:Nat)(y1:List Vstep):List (TV EE.T):=[.a (.box 100000 0)]
def B7(y0_0:List UInt8)(y0_1:Int)(y0_2:Int)(y0_3:Nat)(y1:List Vstep):List (Nat × TB EE.T):=[(100000,.cs [.d .str y0_0,.d (.int .i64) y0_1,.d (.int .i64) y0_2,.vec (.nam 4) 200001 y0_3]),(200001,.vec 200001 (.nam 4) y1)]
theorem ou{N:RecC}(hN:lc N)(y0_0:List UInt8)(y0_1:Int)(y0_2:Int)(y0_3:Nat)(y1:List Vstep){r:PR aj}(h:eF N y0_0 y0_1 y0_2 y0_3 y1=some r)(ρ:Rn)(hi:Inj ρ (B7 y0_0 y0_1 y0_2 y0_3 y1)):ai Tryd.prog 87 ((HQ y0_0 y0_1 y0_2 y0_3 y1).map (TV.to EE.toEnc ρ)) (hTo EE.toEnc ρ (B7 y0_0 y0_1 y0_2 y0_3 y1)) (bQ EE ρ fun u=>u=cQ r):=
 fA (aa 0 Tryd.f87) 187 mixed (K6 N hN) Tryd.func87 (by kernel_rfl) rfl rfl rfl rfl (Ns y0_0 y0_1 y0_2 y0_3 y1 h) ρ hi
def kn(N:RecC)(us:List (TV EE.T))(hs:List (Nat × TB EE.T)):XR EE.T:=
 gdX (gJ us 1) <|
 bnX (aB us 0) fun i0=>
 bnX (bC hs i0) fun l0=>
 gdX (gJ l0 4) <|
 bnX (cD .str l0 0) fun y0_0=>
 bnX (cD (.int .i64) l0 1) fun y0_1=>
 bnX (cD (.int .i64) l0 2) fun y0_2=>
 bnX (cVi (.nam 4) l0 3) fun i1=>
 bnX (cVn (.nam 4) l0 3) fun y0_3=>
 bnX (bV (.nam 4) hs i1) fun y1=>
 gdX (b9 hs [i0,i1]) <|
 gdX (kZ [i0,i1]) <|
 .mv (eF N y0_0 y0_1 y0_2 y0_3 y1) [i0,i1] (mvL [i0,i1] [100000,200001]) 0 (fj i0 i1) (w3 i0 i1)
theorem nB(N:RecC)(hN:lc N):XOk Tryd.prog EE 87 (kn N):=fun us hs=>
 aQ fun h1=>ah fun i0 h2=>ah fun l0 h3=>aQ fun h4=>ah fun y0_0 h5=>ah fun y0_1 h6=>ah fun y0_2 h7=>ah fun i1 h8=>ah fun y0_3 h9=>ah fun y1 h10=>aQ fun h11=>aQ fun h12=>fun p hz ρ hi=>jo (ex:=[]) (ks:=[100000,200001]) (us':=HQ y0_0 y0_1 y0_2 y0_3 y1) (h0:=B7 y0_0 y0_1 y0_2 y0_3 y1) (ρ':=oA ρ [i0,i1]) (uc:=fj 100000 200001) (u:=fj i0 i1) (hc:=w3 100000 200001) (h:=w3 i0 i1) hi h11 (by kernel_rfl) ⟨oC h2 (by kernel_rfl),bY h1⟩ ⟨(by kernel_rfl),o7 h3 ⟨ep h5,ep h6,ep h7,lC h8 h9 (by kernel_rfl),bY h4⟩,(by kernel_rfl),ns h10 (by kernel_rfl),trivial⟩ ⟨.inr rfl,.inl rfl,trivial⟩ h12 (fun hj=>ou hN y0_0 y0_1 y0_2 y0_3 y1 hz _ hj) (fun z=>⟨by kernel_rfl,by kernel_rfl,by kernel_rfl,by kernel_rfl⟩)
def eV(i0:Nat)(i1:Nat)(r:aE):TV EE.T:=.a (.d .bool r.1)
def xc(i0:Nat)(i1:Nat)(r:aE):List (Nat × TB EE.T):=[(i0,.cs [.d .str r.2.1,.d (.int .i64) r.2.2.1,.d (.int .i64) r.2.2.2.1,.vec (.nam 4) i1 r.2.2.2.2.1]),(i1,.vec i1 (.nam 4) r.2.2.2.2.2)]
def eo(r:PR aE):RL EE.T:=qS (eV 100000 200001) (xc 100000 200001) r
def Qm:Lvs:=⟨[(2,⟨[(0,false),(3,false)],[],[(100000,(none,[])),(200001,(none,[]))],[]⟩),(7,⟨[(0,false),(3,false),(4,false),(5,false),(6,false)],[],[(100000,(none,[])),(200001,(none,[]))],[]⟩),(9,⟨[(0,false),(3,false),(6,false)],[],[(100000,(none,[])),(200001,(none,[]))],[]⟩),(14,⟨[(0,false),(3,false),(8,false),(9,false)],[],[(100000,(none,[])),(200001,(none,[]))],[]⟩),(17,⟨[(0,false),(9,false)],[],[(100000,(none,[])),(200001,(none,[]))],[]⟩),(22,⟨[(0,false),(10,false)],[],[(100000,(none,[])),(200001,(none,[]))],[]⟩),(25,⟨[(0,false),(3,false),(8,false),(11,false)],[],[(100000,(none,[])),(200001,(none,[]))],[]⟩),(27,⟨[(0,false),(11,false)],[],[(100000,(none,[])),(200001,(none,[]))],[]⟩)],[],[7,9],[],false,[(100000,(none,[]))],[100000,200001],[],[]⟩
def PC:List ResultVar:=[.tmp 2]
def Nz(N:RecC):Gam EE:=⟨[],EQT,[⟨37,eq N.n⟩,⟨36,ee N.n⟩,⟨57,il N.n⟩,⟨73,dl N.n⟩,⟨87,kn N⟩,⟨56,ii N.n⟩],[]⟩
theorem Lg(N:RecC)(hN:lc N):GOk Tryd.prog TT EE (Nz N):=GOk.consx (eQ N.n) (GOk.consx (eD N.n) (GOk.consx (jv N.n) (GOk.consx (dE N.n) (GOk.consx (nB N hN) (GOk.consx (jt N.n) (GOk.nil bP))))))
def Ey(c:Code):List It2:=atR 9 c
def DA(x3:Int)(x6:UInt8)(WL:List UInt8)(WJ:Int)(WK:Int)(WI:Nat)(WM:List Vstep):TS EE.T:=⟨164,[(0,.a (.box 100000 0)),(3,.a (.d (.int .i64) x3)),(6,.a (.d .byte x6))],[(100000,.cs [.d .str WL,.d (.int .i64) WJ,.d (.int .i64) WK,.vec (.nam 4) 200001 WI]),(200001,.vec 200001 (.nam 4) WM)],[]⟩
def C2(c:Code):List It2:=atR 7 c
def Dz(x3:Int)(x4:Bool)(x5:Bool)(x6:UInt8)(WL:List UInt8)(WJ:Int)(WK:Int)(WI:Nat)(WM:List Vstep):TS EE.T:=⟨164,[(0,.a (.box 100000 0)),(3,.a (.d (.int .i64) x3)),(4,.a (.d .bool x4)),(5,.a (.d .bool x5)),(6,.a (.d .byte x6))],[(100000,.cs [.d .str WL,.d (.int .i64) WJ,.d (.int .i64) WK,.vec (.nam 4) 200001 WI]),(200001,.vec 200001 (.nam 4) WM)],[]⟩
def K8(c:Code):List It2:=[.c c]
def NM(y0_0:List UInt8)(y0_1:Int)(y0_2:Int)(y0_3:Nat)(y1:List Vstep):TS EE.T:=⟨164,[(0,.a (.box 100000 0))],[(100000,.cs [.d .str y0_0,.d (.int .i64) y0_1,.d (.int .i64) y0_2,.vec (.nam 4) 200001 y0_3]),(200001,.vec 200001 (.nam 4) y1)],[]⟩
def tA(c:Code)(f:Int→UInt8→(List UInt8)→Int→Int→Nat→(List Vstep)→Option (PR aE))(x3:Int)(x6:UInt8)(WL:List UInt8)(WJ:Int)(WK:Int)(WI:Nat)(WM:List Vstep):Tree (Lf EE.T × Option (PR aE)):=.leaf (.go (Ey c) (DA x3 x6 WL WJ WK WI WM),f x3 x6 WL WJ WK WI WM)
def xG(c:Code)(f:Int→Bool→Bool→UInt8→(List UInt8)→Int→Int→Nat→(List Vstep)→Option (PR aE))(x3:Int)(x4:Bool)(x5:Bool)(x6:UInt8)(WL:List UInt8)(WJ:Int)(WK:Int)(WI:Nat)(WM:List Vstep):Tree (Lf EE.T × Option (PR aE)):=.leaf (.go (C2 c) (Dz x3 x4 x5 x6 WL WJ WK WI WM),f x3 x4 x5 x6 WL WJ WK WI WM)
abbrev Bo(N:RecC)(r:PR aE)(k:List It2)(s:TS EE.T):Prop:=eN (Y:=TT) EE (Nz N) Qm PC (fun u=>u=eo r) k s
def gP(x:PR aE):Tree (Lf EE.T × Option (PR aE)):=.leaf (.done (eo x),some x)
theorem ui{N:RecC}{r:PR aE}(n:Nat)(x3:Int)(x6:UInt8)(WL:List UInt8)(WJ:Int)(WK:Int)(WI:Nat)(WM:List Vstep)(h:br N n x3 x6 WL WJ WK WI WM=some r):Bo N r (Ey (aa 0 Tryd.f74)) (DA x3 x6 WL WJ WK WI WM):=
 am (m:=4000) (t:=
 .bnd (dr N.n x3 WL (w64 (WJ+1)) WK WI WM) fun z8=>
 .sm z8 (fun z9=>
  .cond ((b2i x6)==(b2i 42))
  (
   .bnd (ak N.n ({ kind:=1,a:=0,b:=0,set_:=(none:Option (List Bool)) }:Vstep) z9.2.1 z9.2.2.1 z9.2.2.2.1 z9.2.2.2.2.1 z9.2.2.2.2.2) fun z10=>
   .sm z10 (fun z11=>
    .bnd (gN z11.2.2.2.2.1 z11.1) fun z12=>
    .bnd (z11.2.2.2.2.2[z12]?) fun z13=>
    .bnd (bB N.n z9.1 x3 z11.2.1 z11.2.2.1 z11.2.2.2.1 z11.2.2.2.2.1 (List.set z11.2.2.2.2.2 z12 ({ kind:=z13.kind,a:=(z11.2.2.2.2.1:Int),b:=z13.b,set_:=z13.set_ }:Vstep))) fun z14=>
    .sm z14 (fun z15=>
     .bnd (ak N.n ({ kind:=2,a:=z11.1,b:=0,set_:=(none:Option (List Bool)) }:Vstep) z15.1 z15.2.1 z15.2.2.1 z15.2.2.2.1 z15.2.2.2.2) fun z16=>
     .sm z16 (fun z17=>
      .bnd (gN z17.2.2.2.2.1 z11.1) fun z18=>
      .bnd (z17.2.2.2.2.2[z18]?) fun z19=>
      gP (.ok (true,z17.2.1,z17.2.2.1,z17.2.2.2.1,z17.2.2.2.2.1,List.set z17.2.2.2.2.2 z18 ({ kind:=z19.kind,a:=z19.a,b:=(z17.2.2.2.2.1:Int),set_:=z19.set_ }:Vstep)))) (fun vz16=>
      gP (.pan vz16))) (fun vz14=>
     gP (.pan vz14))) (fun vz10=>
    gP (.pan vz10)))
  (
   .cond ((b2i x6)==(b2i 43))
   (
    .bnd (bB N.n z9.1 x3 z9.2.1 z9.2.2.1 z9.2.2.2.1 z9.2.2.2.2.1 z9.2.2.2.2.2) fun z20=>
    .sm z20 (fun z21=>
     .bnd (ak N.n ({ kind:=1,a:=x3,b:=0,set_:=(none:Option (List Bool)) }:Vstep) z21.1 z21.2.1 z21.2.2.1 z21.2.2.2.1 z21.2.2.2.2) fun z22=>
     .sm z22 (fun z23=>
      .bnd (gN z23.2.2.2.2.1 z23.1) fun z24=>
      .bnd (z23.2.2.2.2.2[z24]?) fun z25=>
      gP (.ok (false,z23.2.1,z23.2.2.1,z23.2.2.2.1,z23.2.2.2.2.1,List.set z23.2.2.2.2.2 z24 ({ kind:=z25.kind,a:=z25.a,b:=(z23.2.2.2.2.1:Int),set_:=z25.set_ }:Vstep)))) (fun vz22=>
      gP (.pan vz22))) (fun vz20=>
     gP (.pan vz20)))
   (
    .bnd (ak N.n ({ kind:=1,a:=0,b:=0,set_:=(none:Option (List Bool)) }:Vstep) z9.2.1 z9.2.2.1 z9.2.2.2.1 z9.2.2.2.2.1 z9.2.2.2.2.2) fun z26=>
    .sm z26 (fun z27=>
     .bnd (gN z27.2.2.2.2.1 z27.1) fun z28=>
     .bnd (z27.2.2.2.2.2[z28]?) fun z29=>
     .bnd (bB N.n z9.1 x3 z27.2.1 z27.2.2.1 z27.2.2.2.1 z27.2.2.2.2.1 (List.set z27.2.2.2.2.2 z28 ({ kind:=z29.kind,a:=(z27.2.2.2.2.1:Int),b:=z29.b,set_:=z29.set_ }:Vstep))) fun z30=>
     .sm z30 (fun z31=>
      .bnd (gN z31.2.2.2.1 z27.1) fun z32=>
      .bnd (z31.2.2.2.2[z32]?) fun z33=>
      gP (.ok (true,z31.1,z31.2.1,z31.2.2.1,z31.2.2.2.1,List.set z31.2.2.2.2 z32 ({ kind:=z33.kind,a:=z33.a,b:=(z31.2.2.2.1:Int),set_:=z33.set_ }:Vstep)))) (fun vz30=>
      gP (.pan vz30))) (fun vz26=>
     gP (.pan vz26))))) (fun vz8=>
  gP (.pan vz8))) (by kernel_rfl) (by kernel_rfl) h (fun _=>⟨fun _=>⟨fun _=>⟨fun _=>fun _=>fun _=>fun _=>⟨fun _=>fun _=>⟨fun _=>fun _=>fun _=>ay (enc:=eo) rfl,fun _=>ay (enc:=eo) rfl⟩,fun _=>ay (enc:=eo) rfl⟩,fun _=>ay (enc:=eo) rfl⟩,⟨fun _=>⟨fun _=>fun _=>⟨fun _=>fun _=>fun _=>ay (enc:=eo) rfl,fun _=>ay (enc:=eo) rfl⟩,fun _=>ay (enc:=eo) rfl⟩,fun _=>⟨fun _=>fun _=>fun _=>fun _=>⟨fun _=>fun _=>fun _=>ay (enc:=eo) rfl,fun _=>ay (enc:=eo) rfl⟩,fun _=>ay (enc:=eo) rfl⟩⟩⟩,fun _=>ay (enc:=eo) rfl⟩)
theorem zb{N:RecC}{r:PR aE}(n:Nat)(x3:Int)(x4:Bool)(x5:Bool)(x6:UInt8)(WL:List UInt8)(WJ:Int)(WK:Int)(WI:Nat)(WM:List Vstep)(h:cj N n x3 x4 x5 x6 WL WJ WK WI WM=some r):Bo N r (C2 (aa 0 Tryd.f74)) (Dz x3 x4 x5 x6 WL WJ WK WI WM):=
 am (m:=4000) (t:=
 .cond (x5)
 (
  .cond (x4)
  (
   .cond ((b2i x6) != (b2i 63))
   (
    .bnd (aP N.n 4 WJ WL WJ WK WI WM) fun z6=>
    .sm z6 (fun z7=>
     tA (aa 0 Tryd.f74) (br N n) x3 x6 z7.1 z7.2.1 z7.2.2.1 z7.2.2.2.1 z7.2.2.2.2) (fun vz6=>
     gP (.pan vz6)))
   (
    tA (aa 0 Tryd.f74) (br N n) x3 x6 WL WJ WK WI WM))
  (
   tA (aa 0 Tryd.f74) (br N n) x3 x6 WL WJ WK WI WM))
 (
  tA (aa 0 Tryd.f74) (br N n) x3 x6 WL WJ WK WI WM)) (by kernel_rfl) (by kernel_rfl) h (⟨⟨⟨fun _=>⟨fun _=>fun h=>ui n _ _ _ _ _ _ _ h,fun _=>ay (enc:=eo) rfl⟩,fun h=>ui n _ _ _ _ _ _ _ h⟩,fun h=>ui n _ _ _ _ _ _ _ h⟩,fun h=>ui n _ _ _ _ _ _ _ h⟩)
theorem MI{N:RecC}{r:PR aE}(y0_0:List UInt8)(y0_1:Int)(y0_2:Int)(y0_3:Nat)(y1:List Vstep)(h:ek N y0_0 y0_1 y0_2 y0_3 y1=some r):Bo N r (K8 (aa 0 Tryd.f74)) (NM y0_0 y0_1 y0_2 y0_3 y1):=
 am (m:=4000) (t:=
 .bnd (bN y0_0 y0_1) fun z1=>
 .bnd (eF N y0_0 y0_1 y0_2 y0_3 y1) fun z2=>
 .sm z2 (fun z3=>
  .bnd (be N.n z3.2.1 z3.2.2.1 z3.2.2.2.1 z3.2.2.2.2.1 z3.2.2.2.2.2) fun z4=>
  .sm z4 (fun z5=>
   .cond (!z5.2.1)
   (
    gP (.ok (z3.1,z5.2.2.1,z5.2.2.2.1,z5.2.2.2.2.1,z5.2.2.2.2.2.1,z5.2.2.2.2.2.2)))
   (
    .cond ((b2i z5.1) != (b2i 42))
    (
     .cond ((b2i z5.1) != (b2i 43))
     (
      .cond ((b2i z5.1) != (b2i 63))
      (
       gP (.ok (z3.1,z5.2.2.1,z5.2.2.2.1,z5.2.2.2.2.1,z5.2.2.2.2.2.1,z5.2.2.2.2.2.2)))
      (
       xG (aa 0 Tryd.f74) (cj N N.n) (y0_3:Int) ((b2i z1)==(b2i 40)) z3.1 z5.1 z5.2.2.1 z5.2.2.2.1 z5.2.2.2.2.1 z5.2.2.2.2.2.1 z5.2.2.2.2.2.2))
     (
      xG (aa 0 Tryd.f74) (cj N N.n) (y0_3:Int) ((b2i z1)==(b2i 40)) z3.1 z5.1 z5.2.2.1 z5.2.2.2.1 z5.2.2.2.2.1 z5.2.2.2.2.2.1 z5.2.2.2.2.2.2))
    (
     xG (aa 0 Tryd.f74) (cj N N.n) (y0_3:Int) ((b2i z1)==(b2i 40)) z3.1 z5.1 z5.2.2.1 z5.2.2.2.1 z5.2.2.2.2.1 z5.2.2.2.2.2.1 z5.2.2.2.2.2.2))) (fun vz4=>
   gP (.pan vz4))) (fun vz2=>
  gP (.pan vz2))) (by kernel_rfl) (by kernel_rfl) h (fun _=>fun _=>⟨fun _=>fun _=>⟨fun _=>⟨ay (enc:=eo) rfl,⟨⟨⟨ay (enc:=eo) rfl,fun h=>zb N.n _ _ _ _ _ _ _ _ _ h⟩,fun h=>zb N.n _ _ _ _ _ _ _ _ _ h⟩,fun h=>zb N.n _ _ _ _ _ _ _ _ _ h⟩⟩,fun _=>ay (enc:=eo) rfl⟩,fun _=>ay (enc:=eo) rfl⟩)
def Ib(y0_0:List UInt8)(y0_1:Int)(y0_2:Int)(y0_3:Nat)(y1:List Vstep):List (TV EE.T):=[.a (.box 100000 0)]
def BC(y0_0:List UInt8)(y0_1:Int)(y0_2:Int)(y0_3:Nat)(y1:List Vstep):List (Nat × TB EE.T):=[(100000,.cs [.d .str y0_0,.d (.int .i64) y0_1,.d (.int .i64) y0_2,.vec (.nam 4) 200001 y0_3]),(200001,.vec 200001 (.nam 4) y1)]
theorem nA{N:RecC}(hN:lc N)(y0_0:List UInt8)(y0_1:Int)(y0_2:Int)(y0_3:Nat)(y1:List Vstep){r:PR aE}(h:ek N y0_0 y0_1 y0_2 y0_3 y1=some r)(ρ:Rn)(hi:Inj ρ (BC y0_0 y0_1 y0_2 y0_3 y1)):ai Tryd.prog 74 ((Ib y0_0 y0_1 y0_2 y0_3 y1).map (TV.to EE.toEnc ρ)) (hTo EE.toEnc ρ (BC y0_0 y0_1 y0_2 y0_3 y1)) (bQ EE ρ fun u=>u=eo r):=
 fA (aa 0 Tryd.f74) 164 mixed (Lg N hN) Tryd.func74 (by kernel_rfl) rfl rfl rfl rfl (MI y0_0 y0_1 y0_2 y0_3 y1 h) ρ hi
def jA(N:RecC)(us:List (TV EE.T))(hs:List (Nat × TB EE.T)):XR EE.T:=
 gdX (gJ us 1) <|
 bnX (aB us 0) fun i0=>
 bnX (bC hs i0) fun l0=>
 gdX (gJ l0 4) <|
 bnX (cD .str l0 0) fun y0_0=>
 bnX (cD (.int .i64) l0 1) fun y0_1=>
 bnX (cD (.int .i64) l0 2) fun y0_2=>
 bnX (cVi (.nam 4) l0 3) fun i1=>
 bnX (cVn (.nam 4) l0 3) fun y0_3=>
 bnX (bV (.nam 4) hs i1) fun y1=>
 gdX (b9 hs [i0,i1]) <|
 gdX (kZ [i0,i1]) <|
 .mv (ek N y0_0 y0_1 y0_2 y0_3 y1) [i0,i1] (mvL [i0,i1] [100000,200001]) 0 (eV i0 i1) (xc i0 i1)
theorem ni(N:RecC)(hN:lc N):XOk Tryd.prog EE 74 (jA N):=fun us hs=>
 aQ fun h1=>ah fun i0 h2=>ah fun l0 h3=>aQ fun h4=>ah fun y0_0 h5=>ah fun y0_1 h6=>ah fun y0_2 h7=>ah fun i1 h8=>ah fun y0_3 h9=>ah fun y1 h10=>aQ fun h11=>aQ fun h12=>fun p hz ρ hi=>jo (ex:=[]) (ks:=[100000,200001]) (us':=Ib y0_0 y0_1 y0_2 y0_3 y1) (h0:=BC y0_0 y0_1 y0_2 y0_3 y1) (ρ':=oA ρ [i0,i1]) (uc:=eV 100000 200001) (u:=eV i0 i1) (hc:=xc 100000 200001) (h:=xc i0 i1) hi h11 (by kernel_rfl) ⟨oC h2 (by kernel_rfl),bY h1⟩ ⟨(by kernel_rfl),o7 h3 ⟨ep h5,ep h6,ep h7,lC h8 h9 (by kernel_rfl),bY h4⟩,(by kernel_rfl),ns h10 (by kernel_rfl),trivial⟩ ⟨.inr rfl,.inl rfl,trivial⟩ h12 (fun hj=>nA hN y0_0 y0_1 y0_2 y0_3 y1 hz _ hj) (fun z=>⟨by kernel_rfl,by kernel_rfl,by kernel_rfl,by kernel_rfl⟩)
def fP(i0:Nat)(i1:Nat)(r:bc):TV EE.T:=.a (.d .bool r.1)
def xg(i0:Nat)(i1:Nat)(r:bc):List (Nat × TB EE.T):=[(i0,.cs [.d .str r.2.1,.d (.int .i64) r.2.2.1,.d (.int .i64) r.2.2.2.1,.vec (.nam 4) i1 r.2.2.2.2.1]),(i1,.vec i1 (.nam 4) r.2.2.2.2.2)]
def lW(r:PR bc):RL EE.T:=qS (fP 100000 200001) (xg 100000 200001) r
def Qo:Lvs:=⟨[],[(2,⟨[(0,false),(3,false)],[],[(100000,(none,[])),(200001,(none,[]))],[]⟩)],[],[],false,[(100000,(none,[]))],[100000,200001],[],[]⟩
def PG:List ResultVar:=[.tmp 2]
def Kw(N:RecC):Gam EE:=⟨[],EQT,[⟨74,jA N⟩,⟨73,dl N.n⟩],[]⟩
theorem Ob(N:RecC)(hN:lc N):GOk Tryd.prog TT EE (Kw N):=GOk.consx (ni N hN) (GOk.consx (dE N.n) (GOk.nil bP))
def Fl(c:Code):List It2:=atL 2 c
def DS(x3:Bool)(WL:List UInt8)(WJ:Int)(WK:Int)(WI:Nat)(WM:List Vstep):TS EE.T:=⟨25,[(0,.a (.box 100000 0)),(3,.a (.d .bool x3))],[(100000,.cs [.d .str WL,.d (.int .i64) WJ,.d (.int .i64) WK,.vec (.nam 4) 200001 WI]),(200001,.vec 200001 (.nam 4) WM)],[]⟩
def KM(c:Code):List It2:=[.c c]
def KA(y0_0:List UInt8)(y0_1:Int)(y0_2:Int)(y0_3:Nat)(y1:List Vstep):TS EE.T:=⟨25,[(0,.a (.box 100000 0))],[(100000,.cs [.d .str y0_0,.d (.int .i64) y0_1,.d (.int .i64) y0_2,.vec (.nam 4) 200001 y0_3]),(200001,.vec 200001 (.nam 4) y1)],[]⟩
def xY(c:Code)(f:Bool→(List UInt8)→Int→Int→Nat→(List Vstep)→Option (PR bc))(x3:Bool)(WL:List UInt8)(WJ:Int)(WK:Int)(WI:Nat)(WM:List Vstep):Tree (Lf EE.T × Option (PR bc)):=.leaf (.go (Fl c) (DS x3 WL WJ WK WI WM),f x3 WL WJ WK WI WM)
abbrev Hf(N:RecC)(r:PR bc)(k:List It2)(s:TS EE.T):Prop:=eN (Y:=TT) EE (Kw N) Qo PG (fun u=>u=lW r) k s
def uy(x:PR bc):Tree (Lf EE.T × Option (PR bc)):=.leaf (.done (lW x),some x)
theorem yM{N:RecC}{r:PR bc}:∀ (n:Nat) (x3:Bool) (WL:List UInt8) (WJ:Int) (WK:Int) (WI:Nat) (WM:List Vstep),cG N n x3 WL WJ WK WI WM=some r→Hf N r (Fl (aa 0 Tryd.f54)) (DS x3 WL WJ WK WI WM)
 |0,_,_,_,_,_,_,h=>by cases h
 |n+1,x3,WL,WJ,WK,WI,WM,h=>am (m:=4000) (t:=
  .bnd (be N.n WL WJ WK WI WM) fun z1=>
  .sm z1 (fun z2=>
   .cond (!z2.2.1)
   (
    uy (.ok (x3,z2.2.2.1,z2.2.2.2.1,z2.2.2.2.2.1,z2.2.2.2.2.2.1,z2.2.2.2.2.2.2)))
   (
    .cond ((b2i z2.1)==(b2i 124))
    (
     uy (.ok (x3,z2.2.2.1,z2.2.2.2.1,z2.2.2.2.2.1,z2.2.2.2.2.2.1,z2.2.2.2.2.2.2)))
    (
     .cond ((b2i z2.1)==(b2i 41))
     (
      uy (.ok (x3,z2.2.2.1,z2.2.2.2.1,z2.2.2.2.2.1,z2.2.2.2.2.2.1,z2.2.2.2.2.2.2)))
     (
      .bnd (ek N z2.2.2.1 z2.2.2.2.1 z2.2.2.2.2.1 z2.2.2.2.2.2.1 z2.2.2.2.2.2.2) fun z3=>
      .sm z3 (fun z4=>
       .cond (!z4.1)
       (
        xY (aa 0 Tryd.f54) (cG N n) false z4.2.1 z4.2.2.1 z4.2.2.2.1 z4.2.2.2.2.1 z4.2.2.2.2.2)
       (
        xY (aa 0 Tryd.f54) (cG N n) x3 z4.2.1 z4.2.2.1 z4.2.2.2.1 z4.2.2.2.2.1 z4.2.2.2.2.2)) (fun vz3=>
       uy (.pan vz3)))))) (fun vz1=>
   uy (.pan vz1))) (by kernel_rfl) (by kernel_rfl) h (fun _=>⟨fun _=>⟨ay (enc:=lW) rfl,⟨ay (enc:=lW) rfl,⟨ay (enc:=lW) rfl,fun _=>⟨fun _=>⟨fun h=>(yM n) _ _ _ _ _ _ h,fun h=>(yM n) _ _ _ _ _ _ h⟩,fun _=>ay (enc:=lW) rfl⟩⟩⟩⟩,fun _=>ay (enc:=lW) rfl⟩)
theorem N9{N:RecC}{r:PR bc}(y0_0:List UInt8)(y0_1:Int)(y0_2:Int)(y0_3:Nat)(y1:List Vstep)(h:fe N y0_0 y0_1 y0_2 y0_3 y1=some r):Hf N r (KM (aa 0 Tryd.f54)) (KA y0_0 y0_1 y0_2 y0_3 y1):=
 am (m:=4000) (t:=
 xY (aa 0 Tryd.f54) (cG N N.n) true y0_0 y0_1 y0_2 y0_3 y1) (by kernel_rfl) (by kernel_rfl) h (fun h=>yM N.n _ _ _ _ _ _ h)
def Il(y0_0:List UInt8)(y0_1:Int)(y0_2:Int)(y0_3:Nat)(y1:List Vstep):List (TV EE.T):=[.a (.box 100000 0)]
def Co(y0_0:List UInt8)(y0_1:Int)(y0_2:Int)(y0_3:Nat)(y1:List Vstep):List (Nat × TB EE.T):=[(100000,.cs [.d .str y0_0,.d (.int .i64) y0_1,.d (.int .i64) y0_2,.vec (.nam 4) 200001 y0_3]),(200001,.vec 200001 (.nam 4) y1)]
theorem oX{N:RecC}(hN:lc N)(y0_0:List UInt8)(y0_1:Int)(y0_2:Int)(y0_3:Nat)(y1:List Vstep){r:PR bc}(h:fe N y0_0 y0_1 y0_2 y0_3 y1=some r)(ρ:Rn)(hi:Inj ρ (Co y0_0 y0_1 y0_2 y0_3 y1)):ai Tryd.prog 54 ((Il y0_0 y0_1 y0_2 y0_3 y1).map (TV.to EE.toEnc ρ)) (hTo EE.toEnc ρ (Co y0_0 y0_1 y0_2 y0_3 y1)) (bQ EE ρ fun u=>u=lW r):=
 fA (aa 0 Tryd.f54) 25 mixed (Ob N hN) Tryd.func54 (by kernel_rfl) rfl rfl rfl rfl (N9 y0_0 y0_1 y0_2 y0_3 y1 h) ρ hi
def kR(N:RecC)(us:List (TV EE.T))(hs:List (Nat × TB EE.T)):XR EE.T:=
 gdX (gJ us 1) <|
 bnX (aB us 0) fun i0=>
 bnX (bC hs i0) fun l0=>
 gdX (gJ l0 4) <|
 bnX (cD .str l0 0) fun y0_0=>
 bnX (cD (.int .i64) l0 1) fun y0_1=>
 bnX (cD (.int .i64) l0 2) fun y0_2=>
 bnX (cVi (.nam 4) l0 3) fun i1=>
 bnX (cVn (.nam 4) l0 3) fun y0_3=>
 bnX (bV (.nam 4) hs i1) fun y1=>
 gdX (b9 hs [i0,i1]) <|
 gdX (kZ [i0,i1]) <|
 .mv (fe N y0_0 y0_1 y0_2 y0_3 y1) [i0,i1] (mvL [i0,i1] [100000,200001]) 0 (fP i0 i1) (xg i0 i1)
theorem oB(N:RecC)(hN:lc N):XOk Tryd.prog EE 54 (kR N):=fun us hs=>
 aQ fun h1=>ah fun i0 h2=>ah fun l0 h3=>aQ fun h4=>ah fun y0_0 h5=>ah fun y0_1 h6=>ah fun y0_2 h7=>ah fun i1 h8=>ah fun y0_3 h9=>ah fun y1 h10=>aQ fun h11=>aQ fun h12=>fun p hz ρ hi=>jo (ex:=[]) (ks:=[100000,200001]) (us':=Il y0_0 y0_1 y0_2 y0_3 y1) (h0:=Co y0_0 y0_1 y0_2 y0_3 y1) (ρ':=oA ρ [i0,i1]) (uc:=fP 100000 200001) (u:=fP i0 i1) (hc:=xg 100000 200001) (h:=xg i0 i1) hi h11 (by kernel_rfl) ⟨oC h2 (by kernel_rfl),bY h1⟩ ⟨(by kernel_rfl),o7 h3 ⟨ep h5,ep h6,ep h7,lC h8 h9 (by kernel_rfl),bY h4⟩,(by kernel_rfl),ns h10 (by kernel_rfl),trivial⟩ ⟨.inr rfl,.inl rfl,trivial⟩ h12 (fun hj=>oX hN y0_0 y0_1 y0_2 y0_3 y1 hz _ hj) (fun z=>⟨by kernel_rfl,by kernel_rfl,by kernel_rfl,by kernel_rfl⟩)
def fh(i0:Nat)(i1:Nat)(r:au):TV EE.T:=.a (.d .bool r.1)
def w4(i0:Nat)(i1:Nat)(r:au):List (Nat × TB EE.T):=[(i0,.cs [.d .str r.2.1,.d (.int .i64) r.2.2.1,.d (.int .i64) r.2.2.2.1,.vec (.nam 4) i1 r.2.2.2.2.1]),(i1,.vec i1 (.nam 4) r.2.2.2.2.2)]
def im(r:PR au):RL EE.T:=qS (fh 100000 200001) (w4 100000 200001) r
def PJ:Lvs:=⟨[(6,⟨[(0,false),(3,false),(4,false),(5,false),(6,false)],[],[(100000,(none,[])),(200001,(none,[]))],[]⟩),(9,⟨[(0,false),(4,false),(6,false),(7,false)],[],[(100000,(none,[])),(200001,(none,[]))],[]⟩),(12,⟨[(0,false),(4,false),(7,false)],[],[(100000,(none,[])),(200001,(none,[]))],[]⟩)],[(3,⟨[(0,false),(3,false),(4,false)],[],[(100000,(none,[])),(200001,(none,[]))],[]⟩)],[12],[],false,[(100000,(none,[]))],[100000,200001],[],[]⟩
def Qi:List ResultVar:=[.tmp 2]
def Ks(N:RecC):Gam EE:=⟨[],EQT,[⟨37,eq N.n⟩,⟨57,il N.n⟩,⟨58,ke N⟩,⟨56,ii N.n⟩,⟨55,fL N.n⟩,⟨54,kR N⟩],[]⟩
theorem Ln(N:RecC)(hN:lc N):GOk Tryd.prog TT EE (Ks N):=GOk.consx (eQ N.n) (GOk.consx (jv N.n) (GOk.consx (nD N hN) (GOk.consx (jt N.n) (GOk.consx (gK N.n) (GOk.consx (oB N hN) (GOk.nil bP))))))
def Ae(c:Code):List It2:=atR 12 c
def Ap(x4:Bool)(x7:Int)(WL:List UInt8)(WJ:Int)(WK:Int)(WI:Nat)(WM:List Vstep):TS EE.T:=⟨70,[(0,.a (.box 100000 0)),(4,.a (.d .bool x4)),(7,.a (.d (.int .i64) x7))],[(100000,.cs [.d .str WL,.d (.int .i64) WJ,.d (.int .i64) WK,.vec (.nam 4) 200001 WI]),(200001,.vec 200001 (.nam 4) WM)],[]⟩
def yd(c:Code):List It2:=atL 3 c
def yD(x3:Int)(x4:Bool)(WL:List UInt8)(WJ:Int)(WK:Int)(WI:Nat)(WM:List Vstep):TS EE.T:=⟨70,[(0,.a (.box 100000 0)),(3,.a (.d (.int .i64) x3)),(4,.a (.d .bool x4))],[(100000,.cs [.d .str WL,.d (.int .i64) WJ,.d (.int .i64) WK,.vec (.nam 4) 200001 WI]),(200001,.vec 200001 (.nam 4) WM)],[]⟩
def KQ(c:Code):List It2:=[.c c]
def J7(y0_0:List UInt8)(y0_1:Int)(y0_2:Int)(y0_3:Nat)(y1:List Vstep):TS EE.T:=⟨70,[(0,.a (.box 100000 0))],[(100000,.cs [.d .str y0_0,.d (.int .i64) y0_1,.d (.int .i64) y0_2,.vec (.nam 4) 200001 y0_3]),(200001,.vec 200001 (.nam 4) y1)],[]⟩
def Aa(c:Code)(f:Bool→Int→(List UInt8)→Int→Int→Nat→(List Vstep)→Option (PR au))(x4:Bool)(x7:Int)(WL:List UInt8)(WJ:Int)(WK:Int)(WI:Nat)(WM:List Vstep):Tree (Lf EE.T × Option (PR au)):=.leaf (.go (Ae c) (Ap x4 x7 WL WJ WK WI WM),f x4 x7 WL WJ WK WI WM)
def Om(c:Code)(f:Int→Bool→(List UInt8)→Int→Int→Nat→(List Vstep)→Option (PR au))(x3:Int)(x4:Bool)(WL:List UInt8)(WJ:Int)(WK:Int)(WI:Nat)(WM:List Vstep):Tree (Lf EE.T × Option (PR au)):=.leaf (.go (yd c) (yD x3 x4 WL WJ WK WI WM),f x3 x4 WL WJ WK WI WM)
abbrev xa(N:RecC)(r:PR au)(k:List It2)(s:TS EE.T):Prop:=eN (Y:=TT) EE (Ks N) PJ Qi (fun u=>u=im r) k s
def my(x:PR au):Tree (Lf EE.T × Option (PR au)):=.leaf (.done (im x),some x)
theorem AR{N:RecC}{r:PR au}{k3:Int→Bool→(List UInt8)→Int→Int→Nat→(List Vstep)→Option (PR au)}(hk3:∀x3 x4 WL WJ WK WI WM,k3 x3 x4 WL WJ WK WI WM=some r→xa N r (yd (aa 0 Tryd.f35)) (yD x3 x4 WL WJ WK WI WM))(n:Nat)(x4:Bool)(x7:Int)(WL:List UInt8)(WJ:Int)(WK:Int)(WI:Nat)(WM:List Vstep)(h:dD N k3 n x4 x7 WL WJ WK WI WM=some r):xa N r (Ae (aa 0 Tryd.f35)) (Ap x4 x7 WL WJ WK WI WM):=
 am (m:=4000) (t:=
 .bnd (gN WI x7) fun z19=>
 .bnd (WM[z19]?) fun z20=>
 my (.ok (x4,WL,WJ,WK,WI,List.set WM z19 ({ kind:=z20.kind,a:=(WI:Int),b:=z20.b,set_:=z20.set_ }:Vstep)))) (by kernel_rfl) (by kernel_rfl) h (fun _=>fun _=>ay (enc:=im) rfl)
theorem xw{N:RecC}{r:PR au}:∀ (n:Nat) (x3:Int) (x4:Bool) (WL:List UInt8) (WJ:Int) (WK:Int) (WI:Nat) (WM:List Vstep),cu N n x3 x4 WL WJ WK WI WM=some r→xa N r (yd (aa 0 Tryd.f35)) (yD x3 x4 WL WJ WK WI WM)
 |0,_,_,_,_,_,_,_,h=>by cases h
 |n+1,x3,x4,WL,WJ,WK,WI,WM,h=>am (m:=4000) (t:=
  .bnd (bn N.n 124 WL WJ WK WI WM) fun z3=>
  .sm z3 (fun z4=>
   .cond (z4.1)
   (
    .bnd (dr N.n x3 z4.2.1 z4.2.2.1 z4.2.2.2.1 z4.2.2.2.2.1 z4.2.2.2.2.2) fun z5=>
    .sm z5 (fun z6=>
     .bnd (ak N.n ({ kind:=1,a:=0,b:=0,set_:=(none:Option (List Bool)) }:Vstep) z6.2.1 z6.2.2.1 z6.2.2.2.1 z6.2.2.2.2.1 z6.2.2.2.2.2) fun z7=>
     .sm z7 (fun z8=>
      .bnd (gN z8.2.2.2.2.1 z8.1) fun z9=>
      .bnd (z8.2.2.2.2.2[z9]?) fun z10=>
      .bnd (bB N.n z6.1 x3 z8.2.1 z8.2.2.1 z8.2.2.2.1 z8.2.2.2.2.1 (List.set z8.2.2.2.2.2 z9 ({ kind:=z10.kind,a:=(z8.2.2.2.2.1:Int),b:=z10.b,set_:=z10.set_ }:Vstep))) fun z11=>
      .sm z11 (fun z12=>
       .bnd (ak N.n ({ kind:=2,a:=0,b:=0,set_:=(none:Option (List Bool)) }:Vstep) z12.1 z12.2.1 z12.2.2.1 z12.2.2.2.1 z12.2.2.2.2) fun z13=>
       .sm z13 (fun z14=>
        .bnd (gN z14.2.2.2.2.1 z8.1) fun z15=>
        .bnd (z14.2.2.2.2.2[z15]?) fun z16=>
        .bnd (eG N z14.2.1 z14.2.2.1 z14.2.2.2.1 z14.2.2.2.2.1 (List.set z14.2.2.2.2.2 z15 ({ kind:=z16.kind,a:=z16.a,b:=(z14.2.2.2.2.1:Int),set_:=z16.set_ }:Vstep))) fun z17=>
        .sm z17 (fun z18=>
         .cond (z18.1)
         (
          Aa (aa 0 Tryd.f35) (dD N (cu N n) n) true z14.1 z18.2.1 z18.2.2.1 z18.2.2.2.1 z18.2.2.2.2.1 z18.2.2.2.2.2)
         (
          Aa (aa 0 Tryd.f35) (dD N (cu N n) n) x4 z14.1 z18.2.1 z18.2.2.1 z18.2.2.2.1 z18.2.2.2.2.1 z18.2.2.2.2.2)) (fun vz17=>
         my (.pan vz17))) (fun vz13=>
        my (.pan vz13))) (fun vz11=>
       my (.pan vz11))) (fun vz7=>
      my (.pan vz7))) (fun vz5=>
     my (.pan vz5)))
   (
    my (.ok (x4,z4.2.1,z4.2.2.1,z4.2.2.2.1,z4.2.2.2.2.1,z4.2.2.2.2.2)))) (fun vz3=>
   my (.pan vz3))) (by kernel_rfl) (by kernel_rfl) h (fun _=>⟨fun _=>⟨fun _=>⟨fun _=>fun _=>⟨fun _=>fun _=>fun _=>fun _=>⟨fun _=>fun _=>⟨fun _=>fun _=>fun _=>fun _=>⟨fun _=>⟨fun h=>AR (xw n) n _ _ _ _ _ _ _ h,fun h=>AR (xw n) n _ _ _ _ _ _ _ h⟩,fun _=>ay (enc:=im) rfl⟩,fun _=>ay (enc:=im) rfl⟩,fun _=>ay (enc:=im) rfl⟩,fun _=>ay (enc:=im) rfl⟩,fun _=>ay (enc:=im) rfl⟩,ay (enc:=im) rfl⟩,fun _=>ay (enc:=im) rfl⟩)
theorem J5{N:RecC}{r:PR au}(y0_0:List UInt8)(y0_1:Int)(y0_2:Int)(y0_3:Nat)(y1:List Vstep)(h:eE N y0_0 y0_1 y0_2 y0_3 y1=some r):xa N r (KQ (aa 0 Tryd.f35)) (J7 y0_0 y0_1 y0_2 y0_3 y1):=
 am (m:=4000) (t:=
 .bnd (fe N y0_0 y0_1 y0_2 y0_3 y1) fun z1=>
 .sm z1 (fun z2=>
  Om (aa 0 Tryd.f35) (cu N N.n) (y0_3:Int) z2.1 z2.2.1 z2.2.2.1 z2.2.2.2.1 z2.2.2.2.2.1 z2.2.2.2.2.2) (fun vz1=>
  my (.pan vz1))) (by kernel_rfl) (by kernel_rfl) h (fun _=>⟨fun _=>fun h=>xw N.n _ _ _ _ _ _ _ h,fun _=>ay (enc:=im) rfl⟩)
def HF(y0_0:List UInt8)(y0_1:Int)(y0_2:Int)(y0_3:Nat)(y1:List Vstep):List (TV EE.T):=[.a (.box 100000 0)]
def CU(y0_0:List UInt8)(y0_1:Int)(y0_2:Int)(y0_3:Nat)(y1:List Vstep):List (Nat × TB EE.T):=[(100000,.cs [.d .str y0_0,.d (.int .i64) y0_1,.d (.int .i64) y0_2,.vec (.nam 4) 200001 y0_3]),(200001,.vec 200001 (.nam 4) y1)]
theorem jw{N:RecC}(hN:lc N)(y0_0:List UInt8)(y0_1:Int)(y0_2:Int)(y0_3:Nat)(y1:List Vstep){r:PR au}(h:eE N y0_0 y0_1 y0_2 y0_3 y1=some r)(ρ:Rn)(hi:Inj ρ (CU y0_0 y0_1 y0_2 y0_3 y1)):ai Tryd.prog 35 ((HF y0_0 y0_1 y0_2 y0_3 y1).map (TV.to EE.toEnc ρ)) (hTo EE.toEnc ρ (CU y0_0 y0_1 y0_2 y0_3 y1)) (bQ EE ρ fun u=>u=im r):=
 fA (aa 0 Tryd.f35) 70 mixed (Ln N hN) Tryd.func35 (by kernel_rfl) rfl rfl rfl rfl (J5 y0_0 y0_1 y0_2 y0_3 y1 h) ρ hi
def oH(N:RecC)(us:List (TV EE.T))(hs:List (Nat × TB EE.T)):XR EE.T:=
 gdX (gJ us 1) <|
 bnX (aB us 0) fun i0=>
 bnX (bC hs i0) fun l0=>
 gdX (gJ l0 4) <|
 bnX (cD .str l0 0) fun y0_0=>
 bnX (cD (.int .i64) l0 1) fun y0_1=>
 bnX (cD (.int .i64) l0 2) fun y0_2=>
 bnX (cVi (.nam 4) l0 3) fun i1=>
 bnX (cVn (.nam 4) l0 3) fun y0_3=>
 bnX (bV (.nam 4) hs i1) fun y1=>
 gdX (b9 hs [i0,i1]) <|
 gdX (kZ [i0,i1]) <|
 .mv (eE N y0_0 y0_1 y0_2 y0_3 y1) [i0,i1] (mvL [i0,i1] [100000,200001]) 0 (fh i0 i1) (w4 i0 i1)
theorem nC(N:RecC)(hN:lc N):XOk Tryd.prog EE 35 (oH N):=fun us hs=>
 aQ fun h1=>ah fun i0 h2=>ah fun l0 h3=>aQ fun h4=>ah fun y0_0 h5=>ah fun y0_1 h6=>ah fun y0_2 h7=>ah fun i1 h8=>ah fun y0_3 h9=>ah fun y1 h10=>aQ fun h11=>aQ fun h12=>fun p hz ρ hi=>jo (ex:=[]) (ks:=[100000,200001]) (us':=HF y0_0 y0_1 y0_2 y0_3 y1) (h0:=CU y0_0 y0_1 y0_2 y0_3 y1) (ρ':=oA ρ [i0,i1]) (uc:=fh 100000 200001) (u:=fh i0 i1) (hc:=w4 100000 200001) (h:=w4 i0 i1) hi h11 (by kernel_rfl) ⟨oC h2 (by kernel_rfl),bY h1⟩ ⟨(by kernel_rfl),o7 h3 ⟨ep h5,ep h6,ep h7,lC h8 h9 (by kernel_rfl),bY h4⟩,(by kernel_rfl),ns h10 (by kernel_rfl),trivial⟩ ⟨.inr rfl,.inl rfl,trivial⟩ h12 (fun hj=>jw hN y0_0 y0_1 y0_2 y0_3 y1 hz _ hj) (fun z=>⟨by kernel_rfl,by kernel_rfl,by kernel_rfl,by kernel_rfl⟩)
theorem kF(n0:Nat):∀m,lc ⟨n0,gD n0 m⟩
 |0=>La n0
 |m+1=>nC ⟨n0,gD n0 m⟩ (kF n0 m)
def jS(r:aZ):TV EE.T:=.a (.d (.sl .str) r)
def Fy(r:aZ):RL EE.T:=.ret (jS r) []
def Uh:Lvs:=⟨[(6,⟨[(0,false),(1,false),(2,false),(7,false),(8,false),(9,false)],[],[],[]⟩),(7,⟨[(0,false),(1,false),(2,false),(7,false),(8,false)],[],[],[]⟩),(8,⟨[(0,false),(1,false),(2,false),(7,false),(8,false),(9,false)],[],[],[]⟩)],[(3,⟨[(0,false),(1,false),(2,false),(7,false),(8,false)],[],[],[]⟩)],[8],[],false,[],[],[],[]⟩
def VF:List ResultVar:=[.tmp 6]
def VY(N:Nat):Gam EE:=⟨[],EQT,[],[]⟩
theorem Sw(N:Nat):GOk Tryd.prog TT EE (VY N):=GOk.nil bP
def L2(c:Code):List It2:=atR 8 c
def MN(x0:Option VMask)(x1:List UInt8)(x2:List Int)(x7:List (List UInt8))(x8:Int)(x9:List UInt8):TS EE.T:=⟨56,[(0,.a (.d (.ptr (.nam 5)) x0)),(1,.a (.d .str x1)),(2,.a (.d (.sl (.int .i64)) x2)),(7,.a (.own .str x7)),(8,.a (.d (.int .i64) x8)),(9,.a (.d .str x9))],[],[]⟩
def Gy(c:Code):List It2:=atL 3 c
def F9(x0:Option VMask)(x1:List UInt8)(x2:List Int)(x7:List (List UInt8))(x8:Int):TS EE.T:=⟨56,[(0,.a (.d (.ptr (.nam 5)) x0)),(1,.a (.d .str x1)),(2,.a (.d (.sl (.int .i64)) x2)),(7,.a (.own .str x7)),(8,.a (.d (.int .i64) x8))],[],[]⟩
def RI(c:Code):List It2:=[.c c]
def So(x0:Option VMask)(x1:List UInt8)(x2:List Int):TS EE.T:=⟨56,[(0,.a (.d (.ptr (.nam 5)) x0)),(1,.a (.d .str x1)),(2,.a (.d (.sl (.int .i64)) x2))],[],[]⟩
def FD(c:Code)(f:(Option VMask)→(List UInt8)→(List Int)→(List (List UInt8))→Int→(List UInt8)→Option aZ)(x0:Option VMask)(x1:List UInt8)(x2:List Int)(x7:List (List UInt8))(x8:Int)(x9:List UInt8):Tree (Lf EE.T × Option aZ):=.leaf (.go (L2 c) (MN x0 x1 x2 x7 x8 x9),f x0 x1 x2 x7 x8 x9)
def JR(c:Code)(f:(Option VMask)→(List UInt8)→(List Int)→(List (List UInt8))→Int→Option aZ)(x0:Option VMask)(x1:List UInt8)(x2:List Int)(x7:List (List UInt8))(x8:Int):Tree (Lf EE.T × Option aZ):=.leaf (.go (Gy c) (F9 x0 x1 x2 x7 x8),f x0 x1 x2 x7 x8)
abbrev Hb(N:Nat)(r:aZ)(k:List It2)(s:TS EE.T):Prop:=eN (Y:=TT) EE (VY N) Uh VF (fun u=>u=Fy r) k s
def VZ(x:aZ):Tree (Lf EE.T × Option aZ):=.leaf (.done (Fy x),some x)
theorem GA{N:Nat}{r:aZ}{k3:(Option VMask)→(List UInt8)→(List Int)→(List (List UInt8))→Int→Option aZ}(hk3:∀x0 x1 x2 x7 x8,k3 x0 x1 x2 x7 x8=some r→Hb N r (Gy (aa 0 Tryd.f48)) (F9 x0 x1 x2 x7 x8))(n:Nat)(x0:Option VMask)(x1:List UInt8)(x2:List Int)(x7:List (List UInt8))(x8:Int)(x9:List UInt8)(h:dH N k3 n x0 x1 x2 x7 x8 x9=some r):Hb N r (L2 (aa 0 Tryd.f48)) (MN x0 x1 x2 x7 x8 x9):=
 am (m:=4000) (t:=
 .bnd (jf 16 x7 ([x9] :List (List UInt8))) fun z8=>
 JR (aa 0 Tryd.f48) k3 x0 x1 x2 z8 (w64 (x8+1))) (by kernel_rfl) (by kernel_rfl) h (fun _=>fun h=>hk3 _ _ _ _ _ h)
theorem Bw{N:Nat}{r:aZ}:∀ (n:Nat) (x0:Option VMask) (x1:List UInt8) (x2:List Int) (x7:List (List UInt8)) (x8:Int),cA N n x0 x1 x2 x7 x8=some r→Hb N r (Gy (aa 0 Tryd.f48)) (F9 x0 x1 x2 x7 x8)
 |0,_,_,_,_,_,h=>by cases h
 |n+1,x0,x1,x2,x7,x8,h=>am (m:=4000) (t:=
  .bnd (x0) fun z1=>
  .cond (decide (x8≤z1.Groups))
  (
   .bnd (bN x2 (w64 (2 * x8))) fun z2=>
   .cond (decide (z2≥0))
   (
    .bnd (bN x2 (w64 ((w64 (2 * x8))+1))) fun z3=>
    .bnd (bN x2 (w64 (2 * x8))) fun z4=>
    .cond (decide (z3≥z4))
    (
     .bnd (bN x2 (w64 (2 * x8))) fun z5=>
     .bnd (bN x2 (w64 ((w64 (2 * x8))+1))) fun z6=>
     .bnd (oG x1 z5 z6) fun z7=>
     FD (aa 0 Tryd.f48) (dH N (cA N n) n) x0 x1 x2 x7 x8 z7)
    (
     FD (aa 0 Tryd.f48) (dH N (cA N n) n) x0 x1 x2 x7 x8 ([] :List UInt8)))
   (
    FD (aa 0 Tryd.f48) (dH N (cA N n) n) x0 x1 x2 x7 x8 ([] :List UInt8)))
  (
   VZ x7)) (by kernel_rfl) (by kernel_rfl) h (fun _=>⟨fun _=>⟨fun _=>fun _=>⟨fun _=>fun _=>fun _=>fun h=>GA (Bw n) n _ _ _ _ _ _ h,fun h=>GA (Bw n) n _ _ _ _ _ _ h⟩,fun h=>GA (Bw n) n _ _ _ _ _ _ h⟩,ay (enc:=Fy) rfl⟩)
theorem Sk{N:Nat}{r:aZ}(x0:Option VMask)(x1:List UInt8)(x2:List Int)(h:gS N x0 x1 x2=some r):Hb N r (RI (aa 0 Tryd.f48)) (So x0 x1 x2):=
 am (m:=4000) (t:=
 JR (aa 0 Tryd.f48) (cA N N) x0 x1 x2 ([] :List (List UInt8)) 1) (by kernel_rfl) (by kernel_rfl) h (fun h=>Bw N _ _ _ _ _ h)
theorem rT{N:Nat}(x0:Option VMask)(x1:List UInt8)(x2:List Int){r:aZ}(h:gS N x0 x1 x2=some r)(ρ:Rn):ai Tryd.prog 48 (([.a (.d (.ptr (.nam 5)) x0),.a (.d .str x1),.a (.d (.sl (.int .i64)) x2)] :List (TV EE.T)).map (TV.to EE.toEnc ρ)) [] (fun out H=>out=.ret ((jS r).to EE.toEnc ρ)∧H=[]):=
 (ip (aa 0 Tryd.f48) 56 mixed (Sw N) Tryd.func48 (by kernel_rfl) rfl rfl rfl rfl (Sk x0 x1 x2 h) ρ).mono fun out H h=>bQ.ret rfl h
def jV(N:Nat):List (TV EE.T)→PV EE.T
 | [u0,u1,u2] =>match eB (.ptr (.nam 5)) u0,eB .str u1,eB (.sl (.int .i64)) u2 with
   |some x0,some x1,some x2=>.opt (gS N x0 x1 x2) jS
   |_,_,_=>.bad
 |_=>.bad
theorem qW(N:Nat)(us:List (TV EE.T)):(jV N us).ok fun u=>∀ρ,ai Tryd.prog 48 (us.map (TV.to EE.toEnc ρ)) [] (fun out H=>out=.ret (u.to EE.toEnc ρ)∧H=[]):=by
 unfold jV
 split
 ·split
  ·rename_i h0 h1 h2
   intro z hz ρ;refine bq ?_ (rT _ _ _ hz ρ);exact⟨bb h0 ρ,bb h1 ρ,bb h2 ρ,trivial⟩
  ·trivial
 ·trivial
def nk(r:Bool):TV EE.T:=.a (.d .bool r)
def BM(r:Bool):RL EE.T:=.ret (nk r) []
def UA:Lvs:=⟨[],[],[],[],false,[],[],[],[]⟩
def Ua:List ResultVar:=[.tmp 2]
def UZ(N:Nat):Gam EE:=⟨[],EQT,[],[]⟩
theorem S7(N:Nat):GOk Tryd.prog TT EE (UZ N):=GOk.nil bP
def Tn(c:Code):List It2:=[.c c]
def SU(x0:UInt8):TS EE.T:=⟨9,[(0,.a (.d .byte x0))],[],[]⟩
abbrev U8(N:Nat)(r:Bool)(k:List It2)(s:TS EE.T):Prop:=eN (Y:=TT) EE (UZ N) UA Ua (fun u=>u=BM r) k s
def Q5(x:Bool):Tree (Lf EE.T × Option Bool):=.leaf (.done (BM x),some x)
theorem TE{N:Nat}{r:Bool}(x0:UInt8)(h:ic N x0=some r):U8 N r (Tn (aa 0 Tryd.f60)) (SU x0):=
 am (m:=4000) (t:=
 .cond (decide ((b2i x0)≥(b2i 48)))
 (
  Q5 (decide ((b2i x0)≤(b2i 57))))
 (
  Q5 false)) (by kernel_rfl) (by kernel_rfl) h (⟨ay (enc:=BM) rfl,ay (enc:=BM) rfl⟩)
theorem wD{N:Nat}(x0:UInt8){r:Bool}(h:ic N x0=some r)(ρ:Rn):ai Tryd.prog 60 (([.a (.d .byte x0)] :List (TV EE.T)).map (TV.to EE.toEnc ρ)) [] (fun out H=>out=.ret ((nk r).to EE.toEnc ρ)∧H=[]):=
 (ip (aa 0 Tryd.f60) 9 mixed (S7 N) Tryd.func60 (by kernel_rfl) rfl rfl rfl rfl (TE x0 h) ρ).mono fun out H h=>bQ.ret rfl h
def mQ(N:Nat):List (TV EE.T)→PV EE.T
 | [u0] =>match eB .byte u0 with
   |some x0=>.opt (ic N x0) nk
   |_=>.bad
 |_=>.bad
theorem uJ(N:Nat)(us:List (TV EE.T)):(mQ N us).ok fun u=>∀ρ,ai Tryd.prog 60 (us.map (TV.to EE.toEnc ρ)) [] (fun out H=>out=.ret (u.to EE.toEnc ρ)∧H=[]):=by
 unfold mQ
 split
 ·split
  ·rename_i h0
   intro z hz ρ;refine bq ?_ (wD _ hz ρ);exact⟨bb h0 ρ,trivial⟩
  ·trivial
 ·trivial
def n5(r:dy):TV EE.T:=.tu [.a (.d (.sl (.nam 8)) r.1),.a (.d .bool r.2)]
def qX(r:dy):RL EE.T:=.ret (n5 r) []
def V4:Lvs:=⟨[],[(2,⟨[(0,false),(4,false)],[],[],[]⟩)],[],[],false,[],[],[],[]⟩
def T4:List ResultVar:=[.tmp 2,.tmp 3]
def TW(N:Nat):Gam EE:=⟨[⟨60,mQ N⟩,⟨59,fF N⟩],EQT,[],[]⟩
theorem SB(N:Nat):GOk Tryd.prog TT EE (TW N):=GOk.cons (uJ N) (GOk.cons (iL N) (GOk.nil bP))
def NZ(c:Code):List It2:=atL 2 c
def Ly(x0:List UInt8)(x4:List Vpiece):TS EE.T:=⟨83,[(0,.a (.d .str x0)),(4,.a (.own (.nam 8) x4))],[],[]⟩
def SY(c:Code):List It2:=[.c c]
def R9(x0:List UInt8):TS EE.T:=⟨83,[(0,.a (.d .str x0))],[],[]⟩
def yy(c:Code)(f:(List UInt8)→(List Vpiece)→Option dy)(x0:List UInt8)(x4:List Vpiece):Tree (Lf EE.T × Option dy):=.leaf (.go (NZ c) (Ly x0 x4),f x0 x4)
abbrev QW(N:Nat)(r:dy)(k:List It2)(s:TS EE.T):Prop:=eN (Y:=TT) EE (TW N) V4 T4 (fun u=>u=qX r) k s
def Bj(x:dy):Tree (Lf EE.T × Option dy):=.leaf (.done (qX x),some x)
theorem yg{N:Nat}{r:dy}:∀ (n:Nat) (x0:List UInt8) (x4:List Vpiece),dt N n x0 x4=some r→QW N r (NZ (aa 0 Tryd.f38)) (Ly x0 x4)
 |0,_,_,h=>by cases h
 |n+1,x0,x4,h=>am (m:=4000) (t:=
  .cond (!decide (x0=([] :List UInt8)))
  (
   .bnd (bN x0 0) fun z1=>
   .cond ((b2i z1) != (b2i 36))
   (
    .bnd (O8 x0 ([36] :List UInt8)) fun z2=>
    .bnd (cX N z2 36) fun z3=>
    .bnd (oG x0 0 z3) fun z4=>
    .bnd (jf 24 x4 ([({ text:=z4,group:=(-1) }:Vpiece)] :List Vpiece)) fun z5=>
    .bnd (oG x0 z3 (x0.length:Int)) fun z6=>
    yy (aa 0 Tryd.f38) (dt N n) z6 z5)
   (
    .bnd (oG x0 1 (x0.length:Int)) fun z7=>
    .cond (decide (z7=([] :List UInt8)))
    (
     Bj (([] :List Vpiece),false))
    (
     .bnd (bN z7 0) fun z8=>
     .cond ((b2i z8)==(b2i 36))
     (
      .bnd (jf 24 x4 ([({ text:=([36] :List UInt8),group:=(-1) }:Vpiece)] :List Vpiece)) fun z9=>
      .bnd (oG z7 1 (z7.length:Int)) fun z10=>
      yy (aa 0 Tryd.f38) (dt N n) z10 z9)
     (
      .bnd (bN z7 0) fun z11=>
      .bnd (ic N z11) fun z12=>
      .cond (z12)
      (
       .bnd (bN z7 0) fun z13=>
       .bnd (jf 24 x4 ([({ text:=([] :List UInt8),group:=w64 (b2i (toB (IntKind.wrap .u8 ((b2i z13) - (b2i 48))))) }:Vpiece)] :List Vpiece)) fun z14=>
       .bnd (oG z7 1 (z7.length:Int)) fun z15=>
       yy (aa 0 Tryd.f38) (dt N n) z15 z14)
      (
       .cond (decide ((z7.length:Int) > 2))
       (
        .bnd (bN z7 0) fun z16=>
        .cond ((b2i z16)==(b2i 123))
        (
         .bnd (bN z7 1) fun z17=>
         .bnd (ic N z17) fun z18=>
         .cond (z18)
         (
          .bnd (bN z7 2) fun z19=>
          .cond ((b2i z19)==(b2i 125))
          (
           .bnd (bN z7 1) fun z20=>
           .bnd (jf 24 x4 ([({ text:=([] :List UInt8),group:=w64 (b2i (toB (IntKind.wrap .u8 ((b2i z20) - (b2i 48))))) }:Vpiece)] :List Vpiece)) fun z21=>
           .bnd (oG z7 3 (z7.length:Int)) fun z22=>
           yy (aa 0 Tryd.f38) (dt N n) z22 z21)
          (
           Bj (([] :List Vpiece),false)))
         (
          Bj (([] :List Vpiece),false)))
        (
         Bj (([] :List Vpiece),false)))
       (
        Bj (([] :List Vpiece),false)))))))
  (
   Bj (x4,true))) (by kernel_rfl) (by kernel_rfl) h (⟨fun _=>⟨fun _=>fun _=>fun _=>fun _=>fun _=>fun h=>(yg n) _ _ h,fun _=>⟨ay (enc:=qX) rfl,fun _=>⟨fun _=>fun _=>fun h=>(yg n) _ _ h,fun _=>fun _=>⟨fun _=>fun _=>fun _=>fun h=>(yg n) _ _ h,⟨fun _=>⟨fun _=>fun _=>⟨fun _=>⟨fun _=>fun _=>fun _=>fun h=>(yg n) _ _ h,ay (enc:=qX) rfl⟩,ay (enc:=qX) rfl⟩,ay (enc:=qX) rfl⟩,ay (enc:=qX) rfl⟩⟩⟩⟩⟩,ay (enc:=qX) rfl⟩)
theorem SF{N:Nat}{r:dy}(x0:List UInt8)(h:g9 N x0=some r):QW N r (SY (aa 0 Tryd.f38)) (R9 x0):=
 am (m:=4000) (t:=
 yy (aa 0 Tryd.f38) (dt N N) x0 ([] :List Vpiece)) (by kernel_rfl) (by kernel_rfl) h (fun h=>yg N _ _ h)
theorem mM{N:Nat}(x0:List UInt8){r:dy}(h:g9 N x0=some r)(ρ:Rn):ai Tryd.prog 38 (([.a (.d .str x0)] :List (TV EE.T)).map (TV.to EE.toEnc ρ)) [] (fun out H=>out=.ret ((n5 r).to EE.toEnc ρ)∧H=[]):=
 (ip (aa 0 Tryd.f38) 83 mixed (SB N) Tryd.func38 (by kernel_rfl) rfl rfl rfl rfl (SF x0 h) ρ).mono fun out H h=>bQ.ret rfl h
def ot(N:Nat):List (TV EE.T)→PV EE.T
 | [u0] =>match eB .str u0 with
   |some x0=>.opt (g9 N x0) n5
   |_=>.bad
 |_=>.bad
theorem wG(N:Nat)(us:List (TV EE.T)):(ot N us).ok fun u=>∀ρ,ai Tryd.prog 38 (us.map (TV.to EE.toEnc ρ)) [] (fun out H=>out=.ret (u.to EE.toEnc ρ)∧H=[]):=by
 unfold ot
 split
 ·split
  ·rename_i h0
   intro z hz ρ;refine bq ?_ (mM _ hz ρ);exact⟨bb h0 ρ,trivial⟩
  ·trivial
 ·trivial
def uk(i0:Nat)(i1:Nat)(r:Nat × (List Vthread) × (List (Int × Bool))):TV EE.T:=.a (.vec (.nam 9) i0 r.1)
def th(i0:Nat)(i1:Nat)(r:Nat × (List Vthread) × (List (Int × Bool))):List (Nat × TB EE.T):=[(i0,.vec i0 (.nam 9) r.2.1),(i1,.imap .bool r.2.2)]
def iM(N:RecC2)(us:List (TV EE.T))(hs:List (Nat × TB EE.T)):XR EE.T:=
 gdX (gJ us 5) <|
 bnX (aD (.ptr (.nam 5)) us 0) fun x0=>
 bnX (aVi (.nam 9) us 1) fun i0=>
 bnX (aVn (.nam 9) us 1) fun x1_n=>
 bnX (aM us 2) fun i1=>
 bnX (aS EE 9 us 3) fun x3=>
 bnX (aD (.int .i64) us 4) fun x4=>
 bnX (bV (.nam 9) hs i0) fun y0=>
 bnX (bI .bool hs i1) fun y1=>
 gdX (b9 hs [i0,i1]) <|
 gdX (kZ [i0,i1]) <|
 .mv (dX N x0 x1_n x3 x4 y0 y1) [i0,i1] (mvL [i0,i1] [200000,100001]) 0 (uk i0 i1) (th i0 i1)
def uR(N:RecC2):Prop:=XOk Tryd.prog EE 47 (iM N)
theorem rP(N:RecC2)(hN:uR N):XOk Tryd.prog EE 47 (iM N):=hN
theorem Jx(n:Nat):uR ⟨n,fun _ _ _ _ _ _=>none⟩:=fun us hs=>
 aQ fun h1=>ah fun x0 h2=>ah fun i0 h3=>ah fun x1_n h4=>ah fun i1 h5=>ah fun x3 h6=>ah fun x4 h7=>ah fun y0 h8=>ah fun y1 h9=>aQ fun h10=>aQ fun h11=>fun p hz=>by cases hz
def hY(i0:Nat)(i1:Nat)(r:bu):TV EE.T:=.a (.vec (.nam 9) i0 r.1)
def wQ(i0:Nat)(i1:Nat)(r:bu):List (Nat × TB EE.T):=[(i0,.vec i0 (.nam 9) r.2.1),(i1,.imap .bool r.2.2)]
def gX(r:PR bu):RL EE.T:=qS (hY 200000 100001) (wQ 200000 100001) r
def Pn:Lvs:=⟨[(4,⟨[(0,false),(1,false),(2,false),(4,false),(8,false)],[],[(8,(some 9,[])),(100001,(none,[])),(200000,(none,[]))],[]⟩),(5,⟨[(0,false),(1,false),(2,false),(4,false),(8,false),(11,false)],[],[(8,(some 9,[])),(11,(some 4,[])),(100001,(none,[])),(200000,(none,[]))],[]⟩)],[],[5],[],false,[],[200000,100001],[(14,[.cl 401104 (.v (.int .i64)) (.s 12)])],[(88,200000)]⟩
def Qj:List ResultVar:=[.tmp 10]
def Ld(N:RecC2):Gam EE:=⟨[],EQT,[⟨47,iM N⟩,⟨69,qg N.n⟩],[]⟩
theorem MF(N:RecC2)(hN:uR N):GOk Tryd.prog TT EE (Ld N):=GOk.consx (rP N hN) (GOk.consx (r8 N.n) (GOk.nil bP))
def C0(c:Code):List It2:=atR 5 c
def Dn(x0:Option VMask)(x1_n:Nat)(x4:Int)(b8:Vthread)(b11:Vstep)(WP:List (Int × Bool))(WQ:List Vthread):TS EE.T:=⟨89,[(0,.a (.d (.ptr (.nam 5)) x0)),(1,.a (.vec (.nam 9) 200000 x1_n)),(2,.a (.mpr 100001)),(4,.a (.d (.int .i64) x4)),(8,.a (.box 8 0)),(11,.a (.box 11 0))],[(8,.cs (ga EE (.nam 9) b8)),(11,.cs (ga EE (.nam 4) b11)),(100001,.imap .bool WP),(200000,.vec 200000 (.nam 9) WQ)],[]⟩
def J4(c:Code):List It2:=[.c c]
def Nm(x0:Option VMask)(x1_n:Nat)(x3:Vthread)(x4:Int)(y0:List Vthread)(y1:List (Int × Bool)):TS EE.T:=⟨89,[(0,.a (.d (.ptr (.nam 5)) x0)),(1,.a (.vec (.nam 9) 200000 x1_n)),(2,.a (.mpr 100001)),(3,.ag (ga EE (.nam 9) x3)),(4,.a (.d (.int .i64) x4))],[(200000,.vec 200000 (.nam 9) y0),(100001,.imap .bool y1)],[]⟩
def NB(c:Code)(f:(Option VMask)→Nat→Int→Vthread→Vstep→(List (Int × Bool))→(List Vthread)→Option (PR bu))(x0:Option VMask)(x1_n:Nat)(x4:Int)(b8:Vthread)(b11:Vstep)(WP:List (Int × Bool))(WQ:List Vthread):Tree (Lf EE.T × Option (PR bu)):=.leaf (.go (C0 c) (Dn x0 x1_n x4 b8 b11 WP WQ),f x0 x1_n x4 b8 b11 WP WQ)
abbrev HC(N:RecC2)(r:PR bu)(k:List It2)(s:TS EE.T):Prop:=eN (Y:=TT) EE (Ld N) Pn Qj (fun u=>u=gX r) k s
def lI(x:PR bu):Tree (Lf EE.T × Option (PR bu)):=.leaf (.done (gX x),some x)
theorem K9{N:RecC2}{r:PR bu}(n:Nat)(x0:Option VMask)(x1_n:Nat)(x4:Int)(b8:Vthread)(b11:Vstep)(WP:List (Int × Bool))(WQ:List Vthread)(h:jk N n x0 x1_n x4 b8 b11 WP WQ=some r):HC N r (C0 (aa 0 Tryd.f47)) (Dn x0 x1_n x4 b8 b11 WP WQ):=
 am (m:=4000) (t:=
 .cond (b11.kind==2)
 (
  .bnd (dX N x0 x1_n ({ at_:=b11.a,slots:=b8.slots }:Vthread) x4 WQ WP) fun z3=>
  .sm z3 (fun z4=>
   lI (.ok (z4.1,z4.2.1,z4.2.2))) (fun vz3=>
   lI (.pan vz3)))
 (
  .cond (b11.kind==1)
  (
   .bnd (dX N x0 x1_n ({ at_:=b11.a,slots:=b8.slots }:Vthread) x4 WQ WP) fun z5=>
   .sm z5 (fun z6=>
    .bnd (dX N x0 z6.1 ({ at_:=b11.b,slots:=b8.slots }:Vthread) x4 z6.2.1 z6.2.2) fun z7=>
    .sm z7 (fun z8=>
     lI (.ok (z8.1,z8.2.1,z8.2.2))) (fun vz7=>
     lI (.pan vz7))) (fun vz5=>
    lI (.pan vz5)))
  (
   .cond (b11.kind==3)
   (
    .bnd (mC N.n b8.slots) fun z9=>
    .sm z9 (fun z10=>
     .bnd (gN z10.1 b11.a) fun z11=>
     .bnd (z10.2[z11]?) fun z12=>
     .bnd (tP z10.1 (List.set z10.2 z11 x4)) fun z13=>
     .bnd (dX N x0 x1_n ({ at_:=w64 (b8.at_+1),slots:=z13 }:Vthread) x4 WQ WP) fun z14=>
     .sm z14 (fun z15=>
      lI (.ok (z15.1,z15.2.1,z15.2.2))) (fun vz14=>
      lI (.pan vz14))) (fun vz9=>
     lI (.pan vz9)))
   (
    .bnd (vg 32 x1_n WQ ([b8] :List Vthread)) fun z16=>
    lI (.ok (z16.length,z16,WP)))))) (by kernel_rfl) (by kernel_rfl) h (⟨fun _=>⟨fun _=>ay (enc:=gX) rfl,fun _=>ay (enc:=gX) rfl⟩,⟨fun _=>⟨fun _=>fun _=>⟨fun _=>ay (enc:=gX) rfl,fun _=>ay (enc:=gX) rfl⟩,fun _=>ay (enc:=gX) rfl⟩,⟨fun _=>⟨fun _=>fun _=>fun _=>fun _=>fun _=>⟨fun _=>ay (enc:=gX) rfl,fun _=>ay (enc:=gX) rfl⟩,fun _=>ay (enc:=gX) rfl⟩,fun _=>ay (enc:=gX) rfl⟩⟩⟩)
theorem MS{N:RecC2}{r:PR bu}(x0:Option VMask)(x1_n:Nat)(x3:Vthread)(x4:Int)(y0:List Vthread)(y1:List (Int × Bool))(h:i9 N x0 x1_n x3 x4 y0 y1=some r):HC N r (J4 (aa 0 Tryd.f47)) (Nm x0 x1_n x3 x4 y0 y1):=
 am (m:=4000) (t:=
 .cond ((wI y1 x3.at_).getD false)
 (
  lI (.ok (x1_n,y0,y1)))
 (
  nlR 134 (
   .bnd (x0) fun z1=>
   .bnd (bN z1.steps x3.at_) fun z2=>
   NB (aa 0 Tryd.f47) (jk N N.n) x0 x1_n x4 x3 z2 (Dm y1 x3.at_ true) y0))) (by kernel_rfl) (by kernel_rfl) h (⟨ay (enc:=gX) rfl,Ce (fun _=>fun _=>fun h=>K9 N.n _ _ _ _ _ _ _ h)⟩)
def Ie(x0:Option VMask)(x1_n:Nat)(x3:Vthread)(x4:Int)(y0:List Vthread)(y1:List (Int × Bool)):List (TV EE.T):=[.a (.d (.ptr (.nam 5)) x0),.a (.vec (.nam 9) 200000 x1_n),.a (.mpr 100001),.ag (ga EE (.nam 9) x3),.a (.d (.int .i64) x4)]
def CP(x0:Option VMask)(x1_n:Nat)(x3:Vthread)(x4:Int)(y0:List Vthread)(y1:List (Int × Bool)):List (Nat × TB EE.T):=[(200000,.vec 200000 (.nam 9) y0),(100001,.imap .bool y1)]
theorem rR{N:RecC2}(hN:uR N)(x0:Option VMask)(x1_n:Nat)(x3:Vthread)(x4:Int)(y0:List Vthread)(y1:List (Int × Bool)){r:PR bu}(h:i9 N x0 x1_n x3 x4 y0 y1=some r)(ρ:Rn)(hi:Inj ρ (CP x0 x1_n x3 x4 y0 y1)):ai Tryd.prog 47 ((Ie x0 x1_n x3 x4 y0 y1).map (TV.to EE.toEnc ρ)) (hTo EE.toEnc ρ (CP x0 x1_n x3 x4 y0 y1)) (bQ EE ρ fun u=>u=gX r):=
 fA (aa 0 Tryd.f47) 89 mixed (MF N hN) Tryd.func47 (by kernel_rfl) rfl rfl rfl rfl (MS x0 x1_n x3 x4 y0 y1 h) ρ hi
def ti(N:RecC2)(us:List (TV EE.T))(hs:List (Nat × TB EE.T)):XR EE.T:=
 gdX (gJ us 5) <|
 bnX (aD (.ptr (.nam 5)) us 0) fun x0=>
 bnX (aVi (.nam 9) us 1) fun i0=>
 bnX (aVn (.nam 9) us 1) fun x1_n=>
 bnX (aM us 2) fun i1=>
 bnX (aS EE 9 us 3) fun x3=>
 bnX (aD (.int .i64) us 4) fun x4=>
 bnX (bV (.nam 9) hs i0) fun y0=>
 bnX (bI .bool hs i1) fun y1=>
 gdX (b9 hs [i0,i1]) <|
 gdX (kZ [i0,i1]) <|
 .mv (i9 N x0 x1_n x3 x4 y0 y1) [i0,i1] (mvL [i0,i1] [200000,100001]) 0 (hY i0 i1) (wQ i0 i1)
theorem qo(N:RecC2)(hN:uR N):XOk Tryd.prog EE 47 (ti N):=fun us hs=>
 aQ fun h1=>ah fun x0 h2=>ah fun i0 h3=>ah fun x1_n h4=>ah fun i1 h5=>ah fun x3 h6=>ah fun x4 h7=>ah fun y0 h8=>ah fun y1 h9=>aQ fun h10=>aQ fun h11=>fun p hz ρ hi=>jo (ex:=[]) (ks:=[200000,100001]) (us':=Ie x0 x1_n x3 x4 y0 y1) (h0:=CP x0 x1_n x3 x4 y0 y1) (ρ':=oA ρ [i0,i1]) (uc:=hY 200000 100001) (u:=hY i0 i1) (hc:=wQ 200000 100001) (h:=wQ i0 i1) hi h10 (by kernel_rfl) ⟨la h2,Tg h3 h4 (by kernel_rfl),Ro h5 (by kernel_rfl),LF h6,la h7,bY h1⟩ ⟨(by kernel_rfl),ns h8 (by kernel_rfl),(by kernel_rfl),Rf h9,trivial⟩ ⟨.inl rfl,.inr rfl,trivial⟩ h11 (fun hj=>rR hN x0 x1_n x3 x4 y0 y1 hz _ hj) (fun z=>⟨by kernel_rfl,by kernel_rfl,by kernel_rfl,by kernel_rfl⟩)
theorem nR(n0:Nat):∀m,uR ⟨n0,iv n0 m⟩
 |0=>Jx n0
 |m+1=>qo ⟨n0,iv n0 m⟩ (nR n0 m)
def kC(N:Nat):List (TV EE.T)→List (Nat × TB EE.T)→XR EE.T:=iM ⟨N,iv N N⟩
theorem mg(N:Nat):XOk Tryd.prog EE 47 (kC N):=nR N N
theorem Iz{xs:Array Value}(h:xs.size=2):∃a b,xs= #[a,b] :=by
 obtain⟨l⟩:=xs
 match l,h with
 | [a,b],_=>exact⟨a,b,rfl⟩
def exS(whole:List UInt8)(groups:List (List UInt8))(p:Vpiece):List UInt8:=
 if p.group=0 then whole else if 0 < p.group∧p.group≤(groups.length:Int) then groups.getD (p.group - 1).toNat [] else p.text
def Dj(whole:List UInt8)(groups:List (List UInt8)):List Vpiece→List UInt8→List UInt8 × Int
 | [],acc=>(acc,0)
 |p::ps,acc=>if 20000 < acc.length+ (exS whole groups p).length then([],2) else Dj whole groups ps (acc++exS whole groups p)
def Er(p:Vpiece):List AV:=[.v (.string (mkB p.text)),.v (.int .i64 p.group)]
def ND(s:List UInt8):List AV:=[.v (.string (mkB s))]
def LW(w:World)(ps:List Vpiece)(v:Value):Prop:=∃ao cap,v=.slice ao ps.length cap∧∀i p,ps[i]? =some p→∃b off,ao=some ⟨b,off,none⟩∧w.cell? ⟨b,off+i * 2,none⟩=some (.string (mkB p.text))∧w.cell? ⟨b,off+i * 2+1,none⟩=some (.int .i64 p.group)
def KH(w:World)(l:List (List UInt8))(v:Value):Prop:=∃ao cap,v=.slice ao l.length cap∧∀i s,l[i]? =some s→∃b off,ao=some ⟨b,off,none⟩∧w.cell? ⟨b,off+i,none⟩=some (.string (mkB s))
theorem Sl{X:GW}{o:Bool}{v:Value}{ps:List Vpiece}(h:Rel X (.sl o 2 (ps.map Er)) v):LW X.w ps v:=by
 generalize hL:ps.map Er=L at h
 cases h with
 |nl _ _ a0 c0=>
  have:ps=[] :=List.map_eq_nil_iff.1 hL
  subst this
  exact⟨a0,c0,rfl,fun i x hx=>by simp at hx⟩
 |sl _ _ _ b off cap n c hg hn hc hs hm hr=>
  subst hL
  refine⟨some ⟨b,off,none⟩,cap,by simp,fun i p hp=>⟨b,off,rfl,?_,?_⟩⟩
  ·have hi:(ps.map Er)[i]? =some [.v (.string (mkB p.text)),.v (.int .i64 p.group)] :=by simp[hp,Er]
   have h0:=bF (hr i 0 _ _ hi rfl)
   have h1:=hm i 0 _ _ hi rfl
   rw[h0] at h1;exact h1
  ·have hi:(ps.map Er)[i]? =some [.v (.string (mkB p.text)),.v (.int .i64 p.group)] :=by simp[hp,Er]
   have h0:=bF (hr i 1 _ _ hi rfl)
   have h1:=hm i 1 _ _ hi rfl
   rw[h0] at h1;exact h1
theorem Tp{X:GW}{o:Bool}{v:Value}{l:List (List UInt8)}(h:Rel X (.sl o 1 (l.map ND)) v):KH X.w l v:=by
 generalize hL:l.map ND=L at h
 cases h with
 |nl _ _ a0 c0=>
  have:l=[] :=List.map_eq_nil_iff.1 hL
  subst this
  exact⟨a0,c0,rfl,fun i x hx=>by simp at hx⟩
 |sl _ _ _ b off cap n c hg hn hc hs hm hr=>
  subst hL
  refine⟨some ⟨b,off,none⟩,cap,by simp,fun i p hp=>⟨b,off,rfl,?_⟩⟩
  have hi:(l.map ND)[i]? =some [.v (.string (mkB p))] :=by simp[hp,ND]
  have h0:=bF (hr i 0 _ _ hi rfl)
  have h1:=hm i 0 _ _ hi rfl
  rw[h0,Nat.mul_one] at h1;exact h1
theorem LW.below{w w':World}{ps:List Vpiece}{v:Value}{B:Nat}(h:LW w ps v)(hb:Below B w w')(hB:w.heap.size≤B):LW w' ps v:=by
 obtain⟨ao,cap,e,hp⟩:=h
 refine⟨ao,cap,e,fun i p hi=> ?_⟩
 obtain⟨b,off,e1,h1,h2⟩:=hp i p hi
 have hlt:b < B:=Nat.lt_of_lt_of_le (mi h1) hB
 exact⟨b,off,e1,jT hb hlt h1,jT hb hlt h2⟩
theorem KH.below{w w':World}{l:List (List UInt8)}{v:Value}{B:Nat}(h:KH w l v)(hb:Below B w w')(hB:w.heap.size≤B):KH w' l v:=by
 obtain⟨ao,cap,e,hp⟩:=h
 refine⟨ao,cap,e,fun i p hi=> ?_⟩
 obtain⟨b,off,e1,h1⟩:=hp i p hi
 exact⟨b,off,e1,jT hb (Nat.lt_of_lt_of_le (mi h1) hB) h1⟩
def Tu(whole:List UInt8)(groups:List (List UInt8))(ps:List Vpiece):Bool:=decide (whole.length≤10000000000000) && groups.all (fun g=>decide (g.length≤10000000000000)) && ps.all (fun p=>decide (p.text.length≤10000000000000)) && decide (ps.length≤10000000000000) && decide (groups.length≤10000000000000)
set_option maxRecDepth 100000 in
set_option maxHeartbeats 4000000 in
theorem KO{N:Nat}(t whole:List UInt8)(groups:List (List UInt8))(ps:List Vpiece)(hp:g9 N t=some (ps,true))(hsm:Tu whole groups ps=true)(X:GW)(gv:Value)(hX:∀b n,X.g b=some n→b < X.w.heap.size)(hgv:KH X.w groups gv):
  Calls Tryd.prog 43 #[.string (mkB t),.string (mkB whole),gv] X.w fun e w'=>e=.returned (.tuple #[.string (mkB (Dj whole groups ps []).1),.int .i64 (Dj whole groups ps []).2])∧Below X.w.heap.size X.w w':=by
 have hpc:Calls Tryd.prog 38 #[.string (mkB t)] X.w fun e w'=>∃v,e=.returned (.tuple #[v,.bool true])∧LW w' ps v∧Below X.w.heap.size X.w w':=by
  refine(lk (X:=X) (vs:=[.string (mkB t)]) (mM t hp Rn.zero) rfl hX ?_).mono ?_
  ·intro i u x hu hx
   match i,hu,hx with
   |0,hu,hx=>simp at hu hx;subst hu hx;exact⟨.v _,rfl⟩
  ·rintro e w' ⟨X',y,rfl,rfl,hr,hb,_⟩
   have hr':Rel X' (.tu [.sl false 2 (ps.map Er),.v (.bool true)]) y:=hr
   cases hr' with
   |tu _ xs hl hi=>
    obtain⟨v0,v1,rfl⟩:=Iz (by simpa using hl.symm:xs.size=2)
    have h1:=bF (hi 1 _ _ rfl rfl)
    subst h1
    exact⟨v0,rfl,Sl (hi 0 _ _ rfl rfl),hb⟩
 have hsize:= @jD
 obtain⟨⟨⟨⟨hw1,hw2⟩,hw3⟩,hw4⟩,hw5⟩:(((whole.length≤10000000000000∧(∀g∈groups,g.length≤10000000000000))∧∀p∈ps,p.text.length≤10000000000000)∧ps.length≤10000000000000)∧groups.length≤10000000000000:=by simpa[Tu] using hsm
 generalize hR:Dj whole groups ps [] =R
 have HR:=Lib.hid hR
 clear hR hsm
 go_enter Tryd.func43,Tryd.ntmps43
 go_wp2_with (go_at_call 38;refine hpc.mono ?_)
 rintro e W1 ⟨v,rfl,hps,b1⟩
 obtain⟨ao,cap,rfl,hcell⟩:=id hps
 obtain⟨ao2,cap2,rfl,hgc⟩:=id (hgv.below b1 (Nat.le_refl _))
 go_wp2
 have h0:IR W1.heap.size W1.heap.size [] (W1.alloc (.cells #[.pointer none,.slice none 0 0] 85)):=Lib.fresh_isBuilder 85 5 W1
 have b0:Below W1.heap.size W1 (W1.alloc (.cells #[.pointer none,.slice none 0 0] 85)):=(Below.refl _ W1).alloc (Nat.le_refl _) _
 go_loopw [23] (fun i wr=>∃ (k:Nat) (acc:List UInt8),i=.int .i64 k∧k≤ps.length∧acc.length≤20000∧Hid (Dj whole groups (ps.drop k) acc=R)∧IR W1.heap.size W1.heap.size acc wr∧Below W1.heap.size W1 wr) (fun i _=>ps.length - (intOf i).toNat)
 case atStart=>exact⟨0,[],rfl,Nat.zero_le _,by simp,HR,h0,b0⟩
 case round=>
  obtain⟨k,acc,rfl,hk,hacc,HJ,hI,hb⟩:=hrel
  by_cases hlt:k < ps.length
  ·obtain⟨b,off,rfl,c0,c1⟩:=hcell k ps[k] (List.getElem?_eq_getElem hlt)
   have d0:=jT hb (mi c0) c0
   have d1:=jT hb (mi c1) c1
   have hmem:ps[k] ∈ps:=List.getElem_mem hlt
   have hJ:=HJ.out
   rw[List.drop_eq_getElem_cons hlt] at hJ
   have hpt:=hw3 _ hmem
   generalize ps[k] =p at c0 c1 d0 d1 hmem hJ hpt
   have hcase:((p.group==0)=true∧p.group=0∧exS whole groups p=whole)∨(∃j:Nat,j < groups.length∧p.group=(j:Int)+1∧(p.group==0)=false∧exS whole groups p=groups.getD j [])∨((p.group==0)=false∧p.group < 0∧exS whole groups p=p.text)∨((p.group==0)=false∧(groups.length:Int) < p.group∧exS whole groups p=p.text):=by
    by_cases h0:p.group=0
    ·exact .inl ⟨by simp[h0],h0,by simp[exS,h0]⟩
    ·have hb0:(p.group==0)=false:=by simpa using h0
     by_cases h1:0 < p.group∧p.group≤(groups.length:Int)
     ·refine .inr (.inl ⟨(p.group - 1).toNat,by omega,by omega,hb0,by simp[exS,h0,h1]⟩)
     ·by_cases h2:p.group < 0
      ·exact .inr (.inr (.inl ⟨hb0,h2,by simp[exS,h0,h1]⟩))
      ·exact .inr (.inr (.inr ⟨hb0,by omega,by simp[exS,h0,h1]⟩))
   simp only[Dj] at hJ
   have HJ2:=Lib.hid hJ
   clear hJ HJ
   rcases hcase with ⟨hz,hg,hs⟩| ⟨j,hj,hg,hz,hs⟩| ⟨hz,hg,hs⟩| ⟨hz,hg,hs⟩
   ·have HJ3:=HJ2.out
    rw[hs] at HJ3
    have hsl:(whole).length≤10000000000000:=hw1
    rw[hg] at d1
    have al:=(Below.refl W1.heap.size wr).alloc hb.size (.cells #[.string (mkB p.text),.int .i64 0] 114)
    have hI2:=ry hI ((Below.refl _ wr).alloc (Nat.le_refl _) (.cells #[.string (mkB p.text),.int .i64 0] 114))
    by_cases hm:20000 < acc.length+ (whole).length
    ·rw[if_pos hm] at HJ3
     subst HJ3
     go_wp2_with (go_at_call 65;refine(we W1.heap.size W1.heap.size acc _ hI2).mono ?_;rintro e VL ⟨rfl,rfl⟩)
     go_ret2
     exact⟨rfl,b1.trans (q6 (hb.trans al) b1.size)⟩
    ·rw[if_neg hm] at HJ3
     have HJ4:=Lib.hid HJ3
     clear HJ3 HJ2
     go_wp2_with (go_at_call 65;refine(we W1.heap.size W1.heap.size acc _ hI2).mono ?_;rintro e VL ⟨rfl,rfl⟩)
     refine(wV W1.heap.size W1.heap.size acc (whole) _ hI2 (by omega) (hb.trans al).size).mono ?_
     rintro e V3 ⟨rfl,hI3,c3⟩
     go_wp2
     refine⟨⟨k+1,acc++whole,by simp,by omega,by simp;omega,HJ4,hI3,(hb.trans al).trans c3⟩,by simp[intOf];omega⟩
   ·have HJ3:=HJ2.out
    rw[hs] at HJ3
    have hsl:(groups.getD j []).length≤10000000000000:=by rw[List.getD_eq_getElem?_getD,List.getElem?_eq_getElem hj];exact hw2 _ (List.getElem_mem hj)
    obtain⟨b2,off2,rfl,e0⟩:=hgc j (groups.getD j []) (by rw[List.getD_eq_getElem?_getD,List.getElem?_eq_getElem hj];rfl)
    generalize groups.getD j [] =S at hsl e0 hs HJ3
    rw[hg] at d1
    have al:=(Below.refl W1.heap.size wr).alloc hb.size (.cells #[.string (mkB p.text),.int .i64 ((j:Int)+1)] 114)
    have e1:=jT (hb.trans al) (mi e0) e0
    have hI2:=ry hI ((Below.refl _ wr).alloc (Nat.le_refl _) (.cells #[.string (mkB p.text),.int .i64 ((j:Int)+1)] 114))
    by_cases hm:20000 < acc.length+ (S).length
    ·rw[if_pos hm] at HJ3
     subst HJ3
     go_wp2_with (go_at_call 65;refine(we W1.heap.size W1.heap.size acc _ hI2).mono ?_;rintro e VL ⟨rfl,rfl⟩)
     go_ret2
     exact⟨rfl,b1.trans (q6 (hb.trans al) b1.size)⟩
    ·rw[if_neg hm] at HJ3
     have HJ4:=Lib.hid HJ3
     clear HJ3 HJ2
     go_wp2_with (go_at_call 65;refine(we W1.heap.size W1.heap.size acc _ hI2).mono ?_;rintro e VL ⟨rfl,rfl⟩)
     refine(wV W1.heap.size W1.heap.size acc (S) _ hI2 (by omega) (hb.trans al).size).mono ?_
     rintro e V3 ⟨rfl,hI3,c3⟩
     go_wp2
     refine⟨⟨k+1,acc++S,by simp,by omega,by simp;omega,HJ4,hI3,(hb.trans al).trans c3⟩,by simp[intOf];omega⟩
   ·have HJ3:=HJ2.out
    rw[hs] at HJ3
    have hsl:(p.text).length≤10000000000000:=hpt
    have al:=(Below.refl W1.heap.size wr).alloc hb.size (.cells #[.string (mkB p.text),.int .i64 p.group] 114)
    have hI2:=ry hI ((Below.refl _ wr).alloc (Nat.le_refl _) (.cells #[.string (mkB p.text),.int .i64 p.group] 114))
    by_cases hm:20000 < acc.length+ (p.text).length
    ·rw[if_pos hm] at HJ3
     subst HJ3
     go_wp2_with (go_at_call 65;refine(we W1.heap.size W1.heap.size acc _ hI2).mono ?_;rintro e VL ⟨rfl,rfl⟩)
     go_ret2
     exact⟨rfl,b1.trans (q6 (hb.trans al) b1.size)⟩
    ·rw[if_neg hm] at HJ3
     have HJ4:=Lib.hid HJ3
     clear HJ3 HJ2
     go_wp2_with (go_at_call 65;refine(we W1.heap.size W1.heap.size acc _ hI2).mono ?_;rintro e VL ⟨rfl,rfl⟩)
     refine(wV W1.heap.size W1.heap.size acc (p.text) _ hI2 (by omega) (hb.trans al).size).mono ?_
     rintro e V3 ⟨rfl,hI3,c3⟩
     go_wp2
     refine⟨⟨k+1,acc++p.text,by simp,by omega,by simp;omega,HJ4,hI3,(hb.trans al).trans c3⟩,by simp[intOf];omega⟩
   ·have HJ3:=HJ2.out
    rw[hs] at HJ3
    have hsl:(p.text).length≤10000000000000:=hpt
    have al:=(Below.refl W1.heap.size wr).alloc hb.size (.cells #[.string (mkB p.text),.int .i64 p.group] 114)
    have hI2:=ry hI ((Below.refl _ wr).alloc (Nat.le_refl _) (.cells #[.string (mkB p.text),.int .i64 p.group] 114))
    by_cases hm:20000 < acc.length+ (p.text).length
    ·rw[if_pos hm] at HJ3
     subst HJ3
     go_wp2_with (go_at_call 65;refine(we W1.heap.size W1.heap.size acc _ hI2).mono ?_;rintro e VL ⟨rfl,rfl⟩)
     go_ret2
     exact⟨rfl,b1.trans (q6 (hb.trans al) b1.size)⟩
    ·rw[if_neg hm] at HJ3
     have HJ4:=Lib.hid HJ3
     clear HJ3 HJ2
     go_wp2_with (go_at_call 65;refine(we W1.heap.size W1.heap.size acc _ hI2).mono ?_;rintro e VL ⟨rfl,rfl⟩)
     refine(wV W1.heap.size W1.heap.size acc (p.text) _ hI2 (by omega) (hb.trans al).size).mono ?_
     rintro e V3 ⟨rfl,hI3,c3⟩
     go_wp2
     refine⟨⟨k+1,acc++p.text,by simp,by omega,by simp;omega,HJ4,hI3,(hb.trans al).trans c3⟩,by simp[intOf];omega⟩
  ·have hke:k=ps.length:=by omega
   subst hke
   have hJ:=HJ.out
   rw[List.drop_length] at hJ
   simp only[Dj] at hJ
   subst hJ
   go_wp2_with (go_at_call 42;refine(UR W1.heap.size W1.heap.size acc _ hI hb.size).mono ?_)
   rintro e V2 ⟨rfl,c2⟩
   go_wp2
   go_ret2
   exact⟨rfl,b1.trans (q6 (hb.trans c2) b1.size)⟩
set_option maxRecDepth 100000 in
theorem Fv{N:Nat}(t whole:List UInt8)(ps:List Vpiece)(hp:g9 N t=some (ps,false))(X:GW)(gv:Value)(hX:∀b n,X.g b=some n→b < X.w.heap.size):
  Calls Tryd.prog 43 #[.string (mkB t),.string (mkB whole),gv] X.w fun e w'=>e=.returned (.tuple #[.string (mkB []),.int .i64 1])∧Below X.w.heap.size X.w w':=by
 have hpc:Calls Tryd.prog 38 #[.string (mkB t)] X.w fun e w'=>∃v,e=.returned (.tuple #[v,.bool false])∧Below X.w.heap.size X.w w':=by
  refine(lk (X:=X) (vs:=[.string (mkB t)]) (mM t hp Rn.zero) rfl hX ?_).mono ?_
  ·intro i u x hu hx
   match i,hu,hx with
   |0,hu,hx=>simp at hu hx;subst hu hx;exact⟨.v _,rfl⟩
  ·rintro e w' ⟨X',y,rfl,rfl,hr,hb,_⟩
   have hr':Rel X' (.tu [.sl false 2 (ps.map Er),.v (.bool false)]) y:=hr
   cases hr' with
   |tu _ xs hl hi=>
    obtain⟨v0,v1,rfl⟩:=Iz (by simpa using hl.symm:xs.size=2)
    have h1:=bF (hi 1 _ _ rfl rfl)
    subst h1
    exact⟨v0,rfl,hb⟩
 go_enter Tryd.func43,Tryd.ntmps43
 go_wp2_with (go_at_call 38;refine hpc.mono ?_)
 rintro e W1 ⟨v,rfl,b1⟩
 go_wp2
 go_ret2
 exact⟨rfl,b1⟩
theorem xr{f:FuncId}{us:List AV}{r:Value}{ur:AV}{P:Program}(hf:IQ P f)(hr:∀X,Rel X ur r)(hp:cw (some ur)=none)
  (h:∀ (X:GW) (vs:Array Value),(∀b n,X.g b=some n→b < X.w.heap.size)→vs.size=us.length→(∀ (i:Nat) u,us[i]? =some u→Rel X u (vs.getD i undef))→Calls P f vs X.w fun e w'=>e=.returned r∧Below X.w.heap.size X.w w'):ai P f us [] (fun out H=>out=.ret ur∧H=[]):=by
 refine⟨hf,fun F X xs hs=> ?_⟩
 refine(h X xs hs.gb (by simpa using hs.size) (fun i u hi=>hs.slot i u ?_)).mono fun e w' ⟨he,hb⟩=> ?_
 ·have:∀ (us:List AV) (k i:Nat) u,us[i]? =some u→look (slotsOf k us) (k+i)=some u:=by
   intro us
   induction us with
   |nil=>intro k i u h;simp at h
   |cons u0 us ih=>
    intro k i u h
    simp only[slotsOf,ab]
    cases i with
    |zero=>simp at h;subst h;simp
    |succ i=>rw[if_neg (by omega),show k+ (i+1)=(k+1)+i by omega];exact ih (k+1) i u (by simpa using h)
  have:=this us 0 i u hi
  simpa using this
 have hn:New X ⟨w',X.g⟩:=⟨hb.os,hb.tape,hb.output,hb.size,fun b hlt=>⟨hb.block b hlt,rfl⟩⟩
 have hgb:∀b n,X.g b=some n→b < w'.heap.size:=fun b n hg=>Nat.lt_of_lt_of_le (hs.gb b n hg) hb.size
 refine⟨⟨w',X.g⟩,.ret ur,[],rfl,⟨rfl,rfl⟩,⟨r,he,?_⟩,hn.ext hs.gb hs.fb⟩
 refine⟨⟨rfl,hgb,fun b hF=>Nat.lt_of_lt_of_le (hs.fb b hF) hb.size,fun t u hu=> ?_,fun k cs hk=>by simp[av] at hk,fun x r hx=>by simp[av] at hx,fun r sz l ho=> ?_,fun r r' sz l sz' l' a n c a' n' c' _ ho=> ?_⟩,fun p hp=>by cases hp⟩
 ·simp only[ab,av] at hu
  split at hu
  ·rename_i e1;subst e1;cases hu;exact hr _
  ·cases hu
 ·cases r with
  |s t=>obtain⟨_,h2⟩:=jb ho;rw[hp] at h2;cases h2
  |c k o=>simp[AS.own,av] at ho
 ·cases r with
  |s t=>obtain⟨_,h2⟩:=jb ho;rw[hp] at h2;cases h2
  |c k o=>simp[AS.own,av] at ho
theorem JM{xs:Array Value}(h:xs.size=3):xs= #[xs.getD 0 undef,xs.getD 1 undef,xs.getD 2 undef] :=by
 obtain⟨l⟩:=xs
 match l,h with
 | [a,b,c],_=>rfl
def iX(N:Nat)(t whole:List UInt8)(groups:List (List UInt8)):Option (List UInt8 × Int):=
 match g9 N t with
 |none=>none
 |some (ps,true)=>if Tu whole groups ps=true then some (Dj whole groups ps []) else none
 |some (_,false)=>some ([],1)
def zG(r:List UInt8 × Int):TV EE.T:=.tu [.a (.d .str r.1),.a (.d (.int .i64) r.2)]
theorem OG(X:GW)(a b:Value):Rel X (.tu [.v a,.v b]) (.tuple #[a,b]):=by
 refine .tu _ _ rfl ?_
 intro i u x hu hx
 match i,hu,hx with
 |0,hu,hx=>simp at hu hx;subst hu hx;exact .v _
 |1,hu,hx=>simp at hu hx;subst hu hx;exact .v _
theorem NU{N:Nat}(t whole:List UInt8)(groups:List (List UInt8)){r:List UInt8 × Int}(h:iX N t whole groups=some r):ai Tryd.prog 43 [.v (.string (mkB t)),.v (.string (mkB whole)),.sl false 1 (groups.map ND)] [] (fun out H=>out=.ret (.tu [.v (.string (mkB r.1)),.v (.int .i64 r.2)])∧H=[]):=by
 refine xr ⟨_,Tryd.func43,by kernel_rfl,rfl⟩ (fun X=>OG X _ _) rfl fun X vs hX hv hr=> ?_
 have e0:=bF (hr 0 _ rfl)
 have e1:=bF (hr 1 _ rfl)
 have e2:=Tp (hr 2 _ rfl)
 rw[JM hv,e0,e1]
 unfold iX at h
 split at h
 ·cases h
 ·rename_i ps hp
  split at h
  ·rename_i hsm
   cases h
   exact KO t whole groups ps hp hsm X _ hX e2
  ·cases h
 ·rename_i ps hp
  cases h
  exact Fv t whole ps hp X _ hX
def ol(N:Nat):List (TV EE.T)→PV EE.T
 | [u0,u1,u2] =>match eB .str u0,eB .str u1,eB (.sl .str) u2 with
   |some x0,some x1,some x2=>.opt (iX N x0 x1 x2) zG
   |_,_,_=>.bad
 |_=>.bad
theorem wJ(N:Nat)(us:List (TV EE.T)):(ol N us).ok fun u=>∀ρ,ai Tryd.prog 43 (us.map (TV.to EE.toEnc ρ)) [] (fun out H=>out=.ret (u.to EE.toEnc ρ)∧H=[]):=by
 unfold ol
 split
 ·split
  ·rename_i u0 u1 u2 x0 x1 x2 h0 h1 h2
   intro z hz ρ
   refine bq (us':=([.a (.d .str x0),.a (.d .str x1),.a (.d (.sl .str) x2)] :List (TV EE.T))) ⟨bb h0 ρ,bb h1 ρ,bb h2 ρ,trivial⟩ ?_
   exact NU x0 x1 x2 hz
  ·trivial
 ·trivial
end Go.Proofs.YtobacplonkjigaaDoor
namespace Go.Proofs.YtobacplonkjigaaDoor
open Go.Shelf Go.RowKit P
def Tryd.laysR_212:Go.Shelf.Ren:=⟨fun|212=>68|263=>81|264=>82|n=>n,fun|46=>121|51=>134|53=>104|146=>135|148=>137|n=>n,fun|n=>n⟩
set_option maxRecDepth 100000 in
theorem Tryd.laysn212:Go.Proofs.Lays.n212 Tryd.prog Tryd.laysR_212:={ mixed:=by kernel_rfl,f212:=Tryd.func68.trans (congrArg some (by kernel_rfl)),f263:=Tryd.func81.trans (congrArg some (by kernel_rfl)),f264:=Tryd.func82.trans (congrArg some (by kernel_rfl)),t46:=Tryd.underlying121,a46:=Tryd.isAgg121,z46:=Tryd.sizeOf121,v46:=Tryd.zeroValue121,t51:=Tryd.underlying134,a51:=Tryd.isAgg134,z51:=Tryd.sizeOf134,v51:=Tryd.zeroValue134,t53:=Tryd.underlying104,a53:=Tryd.isAgg104,z53:=Tryd.sizeOf104,v53:=Tryd.zeroValue104,t146:=Tryd.underlying135,a146:=Tryd.isAgg135,z146:=Tryd.sizeOf135,v146:=Tryd.zeroValue135,t148:=Tryd.underlying137,a148:=Tryd.isAgg137,z148:=Tryd.sizeOf137,v148:=Tryd.zeroValue137 }
theorem Mp(x y:Nat)(hx:x < 18446744073709551616)(hy:y < 18446744073709551616)(w:World):Calls Tryd.prog 68 #[.int .u64 x,.int .u64 y] w fun e w'=>e=.returned (.tuple #[.int .u64 ((x * y / 18446744073709551616:Nat):Int),.int .u64 ((x * y % 18446744073709551616:Nat):Int)])∧w'=w:=Any.bits_Mul Tryd.laysn212 x y hx hy w
theorem Pe(c:Nat)(hc:c≤1000000)(w:World):Calls Tryd.prog 68 #[.int .u64 1,.int .u64 c] w fun e w'=>e=.returned (.tuple #[.int .u64 0,.int .u64 c])∧w'=w:=
 (Mp 1 c (by omega) (by omega) w).mono fun e w' h=>by
  rw[Nat.one_mul,Nat.div_eq_of_lt (by omega),Nat.mod_eq_of_lt (by omega)] at h
  exact h
theorem Uc:(Tryd.prog.info? 3).map (fun i=>(i.zero,i.size,i.bytes))=some (some (.int .i64 0),1,8):=by kernel_rfl
def mF(c k:Nat)(x:Int):List Value:=List.replicate k (.int .i64 x)++List.replicate (c - k) (.int .i64 0)
theorem Nw(c:Nat)(x:Int):madeCells #[Value.int .i64 0] c=(mF c 0 x).toArray:=by
 apply Array.ext
 ·simp[madeCells,mF]
 ·intro i h1 h2
  simp[madeCells,mF,Nat.mod_one]
theorem Lm{c k:Nat}(h:k≤c)(x:Int):(mF c k x).length=c:=by unfold mF;simp;omega
theorem LR{c k m:Nat}(x:Int)(h:k+m≤c):(mF c k x).take k++List.replicate m (.int .i64 x)++ (mF c k x).drop (k+m)=mF c (k+m) x:=by
 unfold mF
 rw[List.take_left' (by simp),List.drop_append]
 rw[← List.append_assoc,List.drop_of_length_le (by simp),List.append_nil,List.drop_replicate,List.length_replicate,List.replicate_append_replicate,Nat.add_sub_cancel_left,Nat.sub_sub]
theorem R1:(Tryd.prog.info? 3).map (·.size)=some 1:=by kernel_rfl
theorem DP{w:World}{g c k m:Nat}{x:Int}{sLen:Nat}{a:Addr}{sCap dCap:Nat}(hk:k≤c)(hg:w.heap[g]? =some (.cells (mF c k x).toArray 3 (0,0)))(hm:m=Nat.min sLen (c - k))(hsrc:∀j,j < m→w.cell? (a.add j)=some (.int .i64 x)):
  (Builtin.copy_ #[96,96] 3 #[.slice (some ⟨g,k,none⟩) (c - k) dCap,.slice (some a) sLen sCap]).run Tryd.prog w=.ok (goInt m) (w.setRow g (mF c (k+m) x).toArray):=by
 have hm2:m≤c - k:=by rw[hm];exact Nat.min_le_right _ _
 have h:=run_copy_row (P:=Tryd.prog) w 96 96 3 3 g k (c - k) dCap a sLen sCap (mF c k x).toArray 3 (List.replicate m (.int .i64 x)) Tryd.underlying96 R1 hg (by simpa using hm) (fun j v hj=>by
  rw[List.getElem?_replicate] at hj
  split at hj
  ·rename_i h1
   cases hj
   exact hsrc j h1
  ·cases hj) (by simp[Lm hk];omega) (fun v hv=>by rw[(List.mem_replicate.1 hv).2];rfl)
 rw[List.length_replicate,List.toList_toArray,LR x (by omega)] at h
 exact h
theorem LJ{w:World}{g c k j:Nat}{x:Int}(hk:k≤c)(hg:w.heap[g]? =some (.cells (mF c k x).toArray 3 (0,0)))(hj:j < k):w.cell? ((⟨g,0,none⟩:Addr).add j)=some (.int .i64 x):=by
 have hadd:(⟨g,0,none⟩:Addr).add j=⟨g,0+j,none⟩:=by unfold Addr.add;split<;> simp_all
 rw[hadd]
 simp[World.cell?,hg,mF,List.getElem?_append,hj]
theorem Below.setRow_new{B:Nat}{w w':World}(h:Below B w w')(hB:B≤w.heap.size)(cs:Array Value):Below B w (w'.setRow B cs):=by
 refine⟨h.os,h.tape,h.output,by simpa[World.setRow] using h.size,fun b hb=> ?_⟩
 rw[← h.block b hb]
 simp[World.setRow,Array.getElem?_modify,Nat.ne_of_gt hb]
set_option maxRecDepth 100000 in
set_option maxHeartbeats 4000000 in
theorem LU(c:Nat)(hc:0 < c)(hc2:c≤1000000)(x:Int)(w:World)(b off cap:Nat)(hx:w.cell? ⟨b,off,none⟩=some (.int .i64 x)):
  Calls Tryd.prog 46 #[.slice (some ⟨b,off,none⟩) 1 cap,.int .i64 c] w fun e w'=>∃g,w.heap.size≤g∧e=.returned (.slice (some ⟨g,0,none⟩) c c)∧w'.heap[g]? =some (.cells (List.replicate c (.int .i64 x)).toArray 3 (0,0))∧Below w.heap.size w w':=by
 have hmk:=run_make_row' (P:=Tryd.prog) 96 3 (.int .i64 0) 8 Tryd.underlying96 Uc rfl .i64 .i64 c (by omega) (by omega)
 rw[Nw c x] at hmk
 have hg0:(w.alloc (.cells (mF c 0 x).toArray 3)).heap[w.heap.size]? =some (.cells (mF c 0 x).toArray 3 (0,0)):=heap_alloc_new w _
 have b0:Below w.heap.size w (w.alloc (.cells (mF c 0 x).toArray 3)):=(Below.refl _ w).alloc (Nat.le_refl _) _
 have hcp:=DP (c:=c) (k:=0) (m:=1) (x:=x) (sLen:=1) (a:=⟨b,off,none⟩) (sCap:=cap) (dCap:=c) (Nat.zero_le _) hg0 (Nat.min_eq_left (by omega)).symm (fun j hj=>by
  have:j=0:=by omega
  subst this
  exact jT b0 (mi hx) hx)
 rw[Nat.sub_zero,Nat.zero_add] at hcp
 have hg1:=setRow_heap _ w.heap.size _ (mF c 1 x).toArray 3 (0,0) hg0
 go_enter Tryd.func46,Tryd.ntmps46
 go_wp2_with (go_at_call 68;refine(Pe c hc2 _).mono ?_;rintro e V ⟨rfl,rfl⟩)
 have bS:=Below.setRow_new b0 (Nat.le_refl _) (mF c 1 x).toArray
 go_loopw [8] (fun n wr=>∃k:Nat,n=.int .i64 k∧0 < k∧k≤c∧wr.heap[V.heap.size]? =some (.cells (mF c k x).toArray 3 (0,0))∧Below V.heap.size V wr) (fun n _=>c - (intOf n).toNat)
 case atStart=>exact⟨1,rfl,by omega,by omega,hg1,bS⟩
 case round=>
  obtain⟨k,rfl,hk0,hk,hg,hb⟩:=hrel
  by_cases hlt:k < c
  ·have hgd:wr.drew.heap[V.heap.size]? =some (.cells (mF c k x).toArray 3 (0,0)):=hg
   have hck:¬c=k:=by omega
   have hcp2:=DP (w:=wr.drew) (c:=c) (k:=k) (m:=Nat.min k (c - k)) (x:=x) (sLen:=k) (a:=⟨V.heap.size,0,none⟩) (sCap:=c) (dCap:=c - k) hk hgd rfl (fun j hj=>LJ hk hgd (Nat.lt_of_lt_of_le hj (Nat.min_le_left _ _)))
   have hg2:=setRow_heap _ V.heap.size _ (mF c (k+Nat.min k (c - k)) x).toArray 3 (0,0) hgd
   go_wp2
   go_region
   have hwr:wrap64 ((k:Int)+ ((k.min (c - k):Nat):Int))=((k+k.min (c - k):Nat):Int):=by
    have:=Nat.min_le_right k (c - k)
    have h2:k.min (c - k)≤c - k:=this
    unfold wrap64;omega
   have hm0:0 < k.min (c - k):=Nat.lt_min.2 ⟨hk0,by omega⟩
   have hmk:k.min (c - k)≤c - k:=Nat.min_le_right k (c - k)
   rw[hwr]
   go_wp2
   refine⟨⟨k+k.min (c - k),rfl,by omega,by omega,hg2,Below.setRow_new hb.drew (Nat.le_refl _) _⟩,?_⟩
   simp[intOf]
   omega
  ·have hke:k=c:=by omega
   subst hke
   go_wp2
   go_ret
   refine⟨V.heap.size,Nat.le_refl _,rfl,?_,hb⟩
   rw[hg];simp[mF]
theorem yc{f:FuncId}{us:List AV}{ur:AV}{P:Program}(hf:IQ P f)(hp:cw (some ur)=none)
  (h:∀ (X:GW) (vs:Array Value),(∀b n,X.g b=some n→b < X.w.heap.size)→vs.size=us.length→(∀ (i:Nat) u,us[i]? =some u→Rel X u (vs.getD i undef))→Calls P f vs X.w fun e w'=>∃X' r,X'.w=w'∧e=.returned r∧Rel X' ur r∧Below X.w.heap.size X.w w'∧(∀b n,X'.g b=some n→b < w'.heap.size)∧∀b,b < X.w.heap.size→X'.g b=X.g b):ai P f us [] (fun out H=>out=.ret ur∧H=[]):=by
 refine⟨hf,fun F X xs hs=> ?_⟩
 refine(h X xs hs.gb (by simpa using hs.size) (fun i u hi=>hs.slot i u ?_)).mono fun e w' ⟨X',r,hw,he,hr,hb,hgb,hgo⟩=> ?_
 ·have:∀ (us:List AV) (k i:Nat) u,us[i]? =some u→look (slotsOf k us) (k+i)=some u:=by
   intro us
   induction us with
   |nil=>intro k i u h;simp at h
   |cons u0 us ih=>
    intro k i u h
    simp only[slotsOf,ab]
    cases i with
    |zero=>simp at h;subst h;simp
    |succ i=>rw[if_neg (by omega),show k+ (i+1)=(k+1)+i by omega];exact ih (k+1) i u (by simpa using h)
  have:=this us 0 i u hi
  simpa using this
 subst hw
 have hn:New X X':=⟨hb.os,hb.tape,hb.output,hb.size,fun b hlt=>⟨hb.block b hlt,hgo b hlt⟩⟩
 refine⟨X',.ret ur,[],rfl,⟨rfl,rfl⟩,⟨r,he,?_⟩,hn.ext hs.gb hs.fb⟩
 refine⟨⟨rfl,hgb,fun b hF=>Nat.lt_of_lt_of_le (hs.fb b hF) hb.size,fun t u hu=> ?_,fun k cs hk=>by simp[av] at hk,fun x r hx=>by simp[av] at hx,fun r sz l ho=> ?_,fun r r' sz l sz' l' a n c a' n' c' _ ho=> ?_⟩,fun p hp=>by cases hp⟩
 ·simp only[ab,av] at hu
  split at hu
  ·rename_i e1;subst e1;cases hu;exact hr
  ·cases hu
 ·cases r with
  |s t=>obtain⟨_,h2⟩:=jb ho;rw[hp] at h2;cases h2
  |c k o=>simp[AS.own,av] at ho
 ·cases r with
  |s t=>obtain⟨_,h2⟩:=jb ho;rw[hp] at h2;cases h2
  |c k o=>simp[AS.own,av] at ho
theorem JU{xs:Array Value}(h:xs.size=2):xs= #[xs.getD 0 undef,xs.getD 1 undef] :=by
 obtain⟨l⟩:=xs
 match l,h with
 | [a,b],_=>rfl
theorem JW(c:Nat)(hc:0 < c)(hc2:c≤1000000)(x:Int):ai Tryd.prog 46 [.sl false 1 [[.v (.int .i64 x)]],.v (.int .i64 c)] [] (fun out H=>out=.ret (.sl false 1 ((List.replicate c x).map fun z=>[.v (.int .i64 z)]))∧H=[]):=by
 refine yc ⟨_,Tryd.func46,by kernel_rfl,rfl⟩ rfl fun X vs hX hv hr=> ?_
 have e1:=bF (hr 1 _ rfl)
 have e0:=hr 0 _ rfl
 rw[JU hv,e1]
 generalize vs.getD 0 undef=v0 at e0
 cases e0 with
 |sl _ _ _ b off cap n cc hg hn hcap hs hm hri=>
  have h0:=bF (hri 0 0 _ _ rfl rfl)
  have h1:=hm 0 0 _ _ rfl rfl
  rw[h0] at h1
  refine(LU c hc hc2 x X.w b off cap (by simpa using h1)).mono ?_
  rintro e w' ⟨g,hle,rfl,hgc,hb⟩
  have hlt:g < w'.heap.size:=(Array.getElem?_eq_some_iff.1 hgc).1
  refine⟨⟨w',fun q=>if q=g then some c else X.g q⟩,_,rfl,rfl,?_,hb,fun q n hq=> ?_,fun q hq=>if_neg (by omega)⟩
  ·have hl:((List.replicate c x).map fun z=>[AV.v (.int .i64 z)]).length=c:=by simp
   have:=Rel.sl (X:=⟨w',fun q=>if q=g then some c else X.g q⟩) false 1 ((List.replicate c x).map fun z=>[AV.v (.int .i64 z)]) g 0 c c (fun _ _=>.int .i64 x) (if_pos rfl) (by rw[hl];omega) (by rw[hl];exact Nat.le_refl _) (fun i r hi=>by
    simp only[List.getElem?_map,Option.map_eq_some_iff] at hi
    obtain⟨z,_,rfl⟩:=hi;rfl) (fun i j r u hi hj=>by
    simp only[List.getElem?_map,Option.map_eq_some_iff,List.getElem?_replicate] at hi
    obtain⟨z,hz,rfl⟩:=hi
    split at hz
    ·rename_i hic
     match j,hj with
     |0,_=>simp[World.cell?,hgc,List.getElem?_replicate,hic]
    ·cases hz) (fun i j r u hi hj=>by
    simp only[List.getElem?_map,Option.map_eq_some_iff,List.getElem?_replicate] at hi
    obtain⟨z,hz,rfl⟩:=hi
    split at hz
    ·cases hz
     match j,hj with
     |0,hj=>simp at hj;subst hj;exact .v _
    ·cases hz)
   rw[hl] at this
   exact this
  ·dsimp only at hq
   split at hq
   ·rename_i e;subst e;exact hlt
   ·exact Nat.lt_of_lt_of_le (hX q n hq) hb.size
def oM(N:Nat)(l:List Int)(c:Int):Option (List Int):=match l with
 | [x] =>if 0 < c∧c≤1000000 then some (List.replicate c.toNat x) else none
 |_=>none
theorem xn{N:Nat}{l:List Int}{c:Int}{r:List Int}(h:oM N l c=some r):∃x,l=[x] ∧0 < c∧c≤1000000∧r=List.replicate c.toNat x:=by
 match l,h with
 | [x],h=>
   simp only[oM] at h
   split at h
   ·rename_i hc
    exact⟨x,rfl,hc.1,hc.2,(Option.some.inj h).symm⟩
   ·cases h
def ES(r:List Int):TV EE.T:=.a (.d (.sl (.int .i64)) r)
def qf(N:Nat):List (TV EE.T)→PV EE.T
 | [u0,u1] =>match eB (.sl (.int .i64)) u0,eB (.int .i64) u1 with
   |some x0,some x1=>.opt (oM N x0 x1) ES
   |_,_=>.bad
 |_=>.bad
theorem zD(N:Nat)(us:List (TV EE.T)):(qf N us).ok fun u=>∀ρ,ai Tryd.prog 46 (us.map (TV.to EE.toEnc ρ)) [] (fun out H=>out=.ret (u.to EE.toEnc ρ)∧H=[]):=by
 unfold qf
 split
 ·split
  ·rename_i u0 u1 x0 x1 h0 h1
   intro z hz ρ
   obtain⟨x,rfl,hc1,hc2,rfl⟩:=xn hz
   refine bq (us':=([.a (.d (.sl (.int .i64)) [x]),.a (.d (.int .i64) x1)] :List (TV EE.T))) ⟨bb h0 ρ,bb h1 ρ,trivial⟩ ?_
   have h:=JW x1.toNat (by omega) (by omega) x
   rw[show((x1.toNat:Nat):Int)=x1 by omega] at h
   exact h
  ·trivial
 ·trivial
end Go.Proofs.YtobacplonkjigaaDoor
namespace Go.Proofs.YtobacplonkjigaaDoor
open Go.RowKit P
set_option maxRecDepth 100000
abbrev bw:=Nat × (List (Int × Bool)) × (List Vthread)
def ji(N:Nat)(n:Nat)(x0:Option VMask)(x1_n:Nat)(x4:Int)(b8:Vthread)(b11:Vstep)(WR:List (Int × Bool))(WS:List Vthread):Option (PR bw):=
 bif b11.kind==2 then
  (cC N x0 x1_n ({ at_:=b11.a,slots:=b8.slots }:Vthread) x4 WS WR).bind fun z3=>
  match z3 with
  |.pan vz3=>
   some (.pan vz3)
  |.ok z4=>
   some (.ok (z4.1,z4.2.2,z4.2.1))
 else
  bif b11.kind==1 then
   (cC N x0 x1_n ({ at_:=b11.a,slots:=b8.slots }:Vthread) x4 WS WR).bind fun z5=>
   match z5 with
   |.pan vz5=>
    some (.pan vz5)
   |.ok z6=>
    (cC N x0 z6.1 ({ at_:=b11.b,slots:=b8.slots }:Vthread) x4 z6.2.1 z6.2.2).bind fun z7=>
    match z7 with
    |.pan vz7=>
     some (.pan vz7)
    |.ok z8=>
     some (.ok (z8.1,z8.2.2,z8.2.1))
  else
   bif b11.kind==3 then
    (mC N b8.slots).bind fun z9=>
    match z9 with
    |.pan vz9=>
     some (.pan vz9)
    |.ok z10=>
     (gN z10.1 b11.a).bind fun z11=>
     (z10.2[z11]?).bind fun z12=>
     (tP z10.1 (List.set z10.2 z11 x4)).bind fun z13=>
     (cC N x0 x1_n ({ at_:=w64 (b8.at_+1),slots:=z13 }:Vthread) x4 WS WR).bind fun z14=>
     match z14 with
     |.pan vz14=>
      some (.pan vz14)
     |.ok z15=>
      some (.ok (z15.1,z15.2.2,z15.2.1))
   else
    (vg 32 x1_n WS ([b8] :List Vthread)).bind fun z16=>
    some (.ok (z16.length,WR,z16))
def gY(N:Nat)(x0:Option VMask)(x3:Vthread)(x4:Int)(y0:List (Int × Bool)):Option (PR bw):=
 bif (wI y0 x3.at_).getD false then
  some (.ok (0,y0,([] :List Vthread)))
 else
  (x0).bind fun z1=>
  (bN z1.steps x3.at_).bind fun z2=>
  ji N N x0 0 x4 x3 z2 (Dm y0 x3.at_ true) ([] :List Vthread)
abbrev ar:=Bool × (List (List UInt8))
def db(N:Nat)(k9:(Option VMask)→(List UInt8)→Int→Nat→Int→Int→Nat→Int→Int→(List (Int × Bool))→(List Vthread)→(List Vthread)→Option (PR ar))(k4:(Option VMask)→(List UInt8)→Nat→Int→Int→(List Vthread)→Option (PR ar))(n:Nat)(x0:Option VMask)(x1:List UInt8)(x8:Int)(x9_n:Nat)(x30:Int)(x31:Int)(x35_n:Nat)(x36:Int)(x37:Int)(b34:List (Int × Bool))(WN:List Vthread)(WO:List Vthread):Option (PR ar):=
 k9 x0 x1 x8 x9_n x30 x31 x35_n x36 (w64 (x37+1)) b34 WN WO
def kq(N:Nat)(k9:(Option VMask)→(List UInt8)→Int→Nat→Int→Int→Nat→Int→Int→(List (Int × Bool))→(List Vthread)→(List Vthread)→Option (PR ar))(k4:(Option VMask)→(List UInt8)→Nat→Int→Int→(List Vthread)→Option (PR ar))(n:Nat)(x0:Option VMask)(x1:List UInt8)(x8:Int)(x9_n:Nat)(x30:Int)(x31:Int)(x35_n:Nat)(x36:Int)(x37:Int)(b12:Vthread)(b13:Vstep)(b34:List (Int × Bool))(WN:List Vthread)(WO:List Vthread):Option (PR ar):=
 bif b13.kind==0 then
  (bN x1 x8).bind fun z14=>
  (b13.set_).bind fun z15=>
  (BK 256 (some z15) (b2i z14)).bind fun z16=>
  bif z16 then
   (cC N x0 x9_n ({ at_:=w64 (b12.at_+1),slots:=b12.slots }:Vthread) (w64 (x8+1)) WO b34).bind fun z17=>
   match z17 with
   |.pan vz17=>
    some (.pan vz17)
   |.ok z18=>
    db N k9 k4 n x0 x1 x8 z18.1 x30 x31 x35_n x36 x37 z18.2.2 WN z18.2.1
  else
   db N k9 k4 n x0 x1 x8 x9_n x30 x31 x35_n x36 x37 b34 WN WO
 else
  db N k9 k4 n x0 x1 x8 x9_n x30 x31 x35_n x36 x37 b34 WN WO
def cT(N:Nat)(k4:(Option VMask)→(List UInt8)→Nat→Int→Int→(List Vthread)→Option (PR ar)):Nat→(Option VMask)→(List UInt8)→Int→Nat→Int→Int→Nat→Int→Int→(List (Int × Bool))→(List Vthread)→(List Vthread)→Option (PR ar)
 |0,_,_,_,_,_,_,_,_,_,_,_,_=>none
 |n+1,x0,x1,x8,x9_n,x30,x31,x35_n,x36,x37,b34,WN,WO=>
  bif decide (x37 < x36) then
   (gN x35_n x37).bind fun z5=>
   (WN[z5]?).bind fun z6=>
   (x0).bind fun z7=>
   (bN z7.steps z6.at_).bind fun z8=>
   kq N (cT N k4 n) k4 n x0 x1 x8 x9_n x30 x31 x35_n x36 x37 z6 z8 b34 WN WO
  else
   k4 x0 x1 x9_n x30 (w64 (x31+1)) WO
def fq(N:Nat):Nat→(Option VMask)→(List UInt8)→Nat→Int→Int→(List Vthread)→Option (PR ar)
 |0,_,_,_,_,_,_=>none
 |n+1,x0,x1,x77_n,x78,x79,WN=>
  bif decide (x79 < x78) then
   (gN x77_n x79).bind fun z9=>
   (WN[z9]?).bind fun z10=>
   (x0).bind fun z11=>
   (bN z11.steps z10.at_).bind fun z12=>
   bif z12.kind==4 then
    (gS N x0 x1 z10.slots).bind fun z13=>
    some (.ok (true,z13))
   else
    fq N n x0 x1 x77_n x78 (w64 (x79+1)) WN
  else
   some (.ok (false,([] :List (List UInt8))))
def cS(N:Nat):Nat→(Option VMask)→(List UInt8)→Nat→Int→Int→(List Vthread)→Option (PR ar)
 |0,_,_,_,_,_,_=>none
 |n+1,x0,x1,x7_n,x30,x31,WN=>
  bif decide (x31 < x30) then
   cT N (cS N n) n x0 x1 x31 0 x30 x31 x7_n (x7_n:Int) 0 ([] :List (Int × Bool)) WN ([] :List Vthread)
  else
   fq N n x0 x1 x7_n (x7_n:Int) 0 WN
def dU(N:Nat)(x0:Option VMask)(x1:List UInt8):Option (PR ar):=
 (x0).bind fun z1=>
 (oM N ([(-1)] :List Int) (w64 ((w64 (2 * z1.Groups))+2))).bind fun z2=>
 (gY N x0 ({ at_:=0,slots:=z2 }:Vthread) 0 ([] :List (Int × Bool))).bind fun z3=>
 match z3 with
 |.pan vz3=>
  some (.pan vz3)
 |.ok z4=>
  cS N N x0 x1 z4.1 (x1.length:Int) 0 z4.2.2
set_option maxRecDepth 100000
def ib(i0:Nat)(r:bw):TV EE.T:=.a (.vec (.nam 9) 300000 r.1)
def xj(i0:Nat)(r:bw):List (Nat × TB EE.T):=[(i0,.imap .bool r.2.1),(300000,.vec 300000 (.nam 9) r.2.2)]
def gV(r:PR bw):RL EE.T:=qS (ib 100000) (xj 100000) r
def Qw:Lvs:=⟨[(4,⟨[(0,false),(1,false),(2,false),(4,false),(8,false)],[],[(8,(some 9,[])),(100000,(none,[])),(700001,(none,[]))],[]⟩),(5,⟨[(0,false),(1,false),(2,false),(4,false),(8,false),(11,false)],[],[(8,(some 9,[])),(11,(some 4,[])),(100000,(none,[])),(700001,(none,[]))],[]⟩)],[],[5],[],false,[],[100000,300000],[(0,[.nl (.s 1) 700001 (.nam 9)]),(14,[.cl 401104 (.v (.int .i64)) (.s 12)])],[(88,300000),(700001,300000)]⟩
def OZ:List ResultVar:=[.tmp 10]
def L7(N:Nat):Gam EE:=⟨[],EQT,[⟨69,qg N⟩,⟨47,kC N⟩],[]⟩
theorem Kz(N:Nat):GOk Tryd.prog TT EE (L7 N):=GOk.consx (r8 N) (GOk.consx (mg N) (GOk.nil bP))
def EC(c:Code):List It2:=atR 5 c
def DC(x0:Option VMask)(x1_n:Nat)(x4:Int)(b8:Vthread)(b11:Vstep)(WR:List (Int × Bool))(WS:List Vthread):TS EE.T:=⟨89,[(0,.a (.d (.ptr (.nam 5)) x0)),(1,.a (.vec (.nam 9) 700001 x1_n)),(2,.a (.mpr 100000)),(4,.a (.d (.int .i64) x4)),(8,.a (.box 8 0)),(11,.a (.box 11 0))],[(8,.cs (ga EE (.nam 9) b8)),(11,.cs (ga EE (.nam 4) b11)),(100000,.imap .bool WR),(700001,.vec 700001 (.nam 9) WS)],[]⟩
def LH(c:Code):List It2:=[.c c]
def KU(x0:Option VMask)(x3:Vthread)(x4:Int)(y0:List (Int × Bool)):TS EE.T:=⟨89,[(0,.a (.d (.ptr (.nam 5)) x0)),(1,.a (.raw (.slice none 0 0))),(2,.a (.mpr 100000)),(3,.ag (ga EE (.nam 9) x3)),(4,.a (.d (.int .i64) x4))],[(100000,.imap .bool y0)],[]⟩
def JS(c:Code)(f:(Option VMask)→Nat→Int→Vthread→Vstep→(List (Int × Bool))→(List Vthread)→Option (PR bw))(x0:Option VMask)(x1_n:Nat)(x4:Int)(b8:Vthread)(b11:Vstep)(WR:List (Int × Bool))(WS:List Vthread):Tree (Lf EE.T × Option (PR bw)):=.leaf (.go (EC c) (DC x0 x1_n x4 b8 b11 WR WS),f x0 x1_n x4 b8 b11 WR WS)
abbrev G2(N:Nat)(r:PR bw)(k:List It2)(s:TS EE.T):Prop:=eN (Y:=TT) EE (L7 N) Qw OZ (fun u=>u=gV r) k s
def lH(x:PR bw):Tree (Lf EE.T × Option (PR bw)):=.leaf (.done (gV x),some x)
theorem Mg{N:Nat}{r:PR bw}(n:Nat)(x0:Option VMask)(x1_n:Nat)(x4:Int)(b8:Vthread)(b11:Vstep)(WR:List (Int × Bool))(WS:List Vthread)(h:ji N n x0 x1_n x4 b8 b11 WR WS=some r):G2 N r (EC (aa 0 Tryd.f47)) (DC x0 x1_n x4 b8 b11 WR WS):=
 am (m:=4000) (t:=
 .cond (b11.kind==2)
 (
  .bnd (cC N x0 x1_n ({ at_:=b11.a,slots:=b8.slots }:Vthread) x4 WS WR) fun z3=>
  .sm z3 (fun z4=>
   lH (.ok (z4.1,z4.2.2,z4.2.1))) (fun vz3=>
   lH (.pan vz3)))
 (
  .cond (b11.kind==1)
  (
   .bnd (cC N x0 x1_n ({ at_:=b11.a,slots:=b8.slots }:Vthread) x4 WS WR) fun z5=>
   .sm z5 (fun z6=>
    .bnd (cC N x0 z6.1 ({ at_:=b11.b,slots:=b8.slots }:Vthread) x4 z6.2.1 z6.2.2) fun z7=>
    .sm z7 (fun z8=>
     lH (.ok (z8.1,z8.2.2,z8.2.1))) (fun vz7=>
     lH (.pan vz7))) (fun vz5=>
    lH (.pan vz5)))
  (
   .cond (b11.kind==3)
   (
    .bnd (mC N b8.slots) fun z9=>
    .sm z9 (fun z10=>
     .bnd (gN z10.1 b11.a) fun z11=>
     .bnd (z10.2[z11]?) fun z12=>
     .bnd (tP z10.1 (List.set z10.2 z11 x4)) fun z13=>
     .bnd (cC N x0 x1_n ({ at_:=w64 (b8.at_+1),slots:=z13 }:Vthread) x4 WS WR) fun z14=>
     .sm z14 (fun z15=>
      lH (.ok (z15.1,z15.2.2,z15.2.1))) (fun vz14=>
      lH (.pan vz14))) (fun vz9=>
     lH (.pan vz9)))
   (
    .bnd (vg 32 x1_n WS ([b8] :List Vthread)) fun z16=>
    lH (.ok (z16.length,WR,z16)))))) (by kernel_rfl) (by kernel_rfl) h (⟨fun _=>⟨fun _=>ay (enc:=gV) rfl,fun _=>ay (enc:=gV) rfl⟩,⟨fun _=>⟨fun _=>fun _=>⟨fun _=>ay (enc:=gV) rfl,fun _=>ay (enc:=gV) rfl⟩,fun _=>ay (enc:=gV) rfl⟩,⟨fun _=>⟨fun _=>fun _=>fun _=>fun _=>fun _=>⟨fun _=>ay (enc:=gV) rfl,fun _=>ay (enc:=gV) rfl⟩,fun _=>ay (enc:=gV) rfl⟩,fun _=>ay (enc:=gV) rfl⟩⟩⟩)
theorem Ny{N:Nat}{r:PR bw}(x0:Option VMask)(x3:Vthread)(x4:Int)(y0:List (Int × Bool))(h:gY N x0 x3 x4 y0=some r):G2 N r (LH (aa 0 Tryd.f47)) (KU x0 x3 x4 y0):=
 am (m:=4000) (t:=
 .cond ((wI y0 x3.at_).getD false)
 (
  lH (.ok (0,y0,([] :List Vthread))))
 (
  nlR 134 (
   .bnd (x0) fun z1=>
   .bnd (bN z1.steps x3.at_) fun z2=>
   JS (aa 0 Tryd.f47) (ji N N) x0 0 x4 x3 z2 (Dm y0 x3.at_ true) ([] :List Vthread)))) (by kernel_rfl) (by kernel_rfl) h (⟨ay (enc:=gV) rfl,Ce (fun _=>fun _=>fun h=>Mg N _ _ _ _ _ _ _ h)⟩)
def GO(x0:Option VMask)(x3:Vthread)(x4:Int)(y0:List (Int × Bool)):List (TV EE.T):=[.a (.d (.ptr (.nam 5)) x0),.a (.raw (.slice none 0 0)),.a (.mpr 100000),.ag (ga EE (.nam 9) x3),.a (.d (.int .i64) x4)]
def BG(x0:Option VMask)(x3:Vthread)(x4:Int)(y0:List (Int × Bool)):List (Nat × TB EE.T):=[(100000,.imap .bool y0)]
theorem rS{N:Nat}(x0:Option VMask)(x3:Vthread)(x4:Int)(y0:List (Int × Bool)){r:PR bw}(h:gY N x0 x3 x4 y0=some r)(ρ:Rn)(hi:Inj ρ (BG x0 x3 x4 y0)):ai Tryd.prog 47 ((GO x0 x3 x4 y0).map (TV.to EE.toEnc ρ)) (hTo EE.toEnc ρ (BG x0 x3 x4 y0)) (bQ EE ρ fun u=>u=gV r):=
 fA (aa 0 Tryd.f47) 89 mixed (Kz N) Tryd.func47 (by kernel_rfl) rfl rfl rfl rfl (Ny x0 x3 x4 y0 h) ρ hi
def mG(N:Nat)(us:List (TV EE.T))(hs:List (Nat × TB EE.T)):XR EE.T:=
 gdX (gJ us 5) <|
 bnX (aD (.ptr (.nam 5)) us 0) fun x0=>
 gdX (aN us 1) <|
 bnX (aM us 2) fun i0=>
 bnX (aS EE 9 us 3) fun x3=>
 bnX (aD (.int .i64) us 4) fun x4=>
 bnX (bI .bool hs i0) fun y0=>
 gdX (b9 hs [i0]) <|
 gdX (kZ [i0,300000]) <|
 .mv (gY N x0 x3 x4 y0) [i0] (mvL [i0] [100000]) 1 (ib i0) (xj i0)
theorem qD(N:Nat):XOk Tryd.prog EE 47 (mG N):=fun us hs=>
 aQ fun h1=>ah fun x0 h2=>aQ fun h3=>ah fun i0 h4=>ah fun x3 h5=>ah fun x4 h6=>ah fun y0 h7=>aQ fun h8=>aQ fun h9=>fun p hz ρ hi=>jo (ex:=[(300000,300000)]) (ks:=[100000]) (us':=GO x0 x3 x4 y0) (h0:=BG x0 x3 x4 y0) (ρ':=oA ρ [i0]) (uc:=ib 100000) (u:=ib i0) (hc:=xj 100000) (h:=xj i0) hi h8 (by kernel_rfl) ⟨la h2,VI h3,Ro h4 (by kernel_rfl),LF h5,la h6,bY h1⟩ ⟨(by kernel_rfl),Rf h7,trivial⟩ ⟨.inr rfl,trivial⟩ h9 (fun hj=>rS x0 x3 x4 y0 hz _ hj) (fun z=>⟨by kernel_rfl,by kernel_rfl,by kernel_rfl,by kernel_rfl⟩)
def l9(r:ar):TV EE.T:=.tu [.a (.d .bool r.1),.a (.d (.sl .str) r.2)]
def Kb(r:ar):List (Nat × TB EE.T):=[]
def uG(r:PR ar):RL EE.T:=match r with
 |.ok z=>.ret (l9 z) (Kb z)
 |.pan v=>.pan v
def Vi:Lvs:=⟨[(11,⟨[(0,false),(1,false),(8,false),(9,false),(10,false),(12,false),(30,false),(31,false),(35,false),(36,false),(37,false)],[],[(12,(some 9,[])),(34,(none,[])),(400448,(none,[])),(700009,(none,[]))],[]⟩),(12,⟨[(0,false),(1,false),(8,false),(9,false),(10,false),(12,false),(13,false),(30,false),(31,false),(35,false),(36,false),(37,false)],[],[(12,(some 9,[])),(13,(some 4,[])),(34,(none,[])),(400448,(none,[])),(700009,(none,[]))],[]⟩),(14,⟨[(0,false),(1,false),(8,false),(9,false),(10,false),(30,false),(31,false),(35,false),(36,false),(37,false)],[],[(34,(none,[])),(400448,(none,[])),(700009,(none,[]))],[]⟩),(20,⟨[(0,false),(1,false),(15,false),(77,false),(78,false),(79,false)],[],[(15,(some 9,[])),(400448,(none,[]))],[]⟩)],[(4,⟨[(0,false),(1,false),(7,false),(30,false),(31,false)],[],[(400448,(none,[]))],[(700009,400448)]⟩),(9,⟨[(0,false),(1,false),(8,false),(9,false),(10,false),(30,false),(31,false),(35,false),(36,false),(37,false)],[],[(34,(none,[])),(400448,(none,[])),(700009,(none,[]))],[]⟩),(18,⟨[(0,false),(1,false),(77,false),(78,false),(79,false)],[],[(400448,(none,[]))],[]⟩)],[12,14],[],false,[],[],[(7,[.nl (.s 9) 700009 (.nam 9)])],[]⟩
def Vk:List ResultVar:=[.tmp 4,.tmp 5]
def UU(N:Nat):Gam EE:=⟨[⟨48,jV N⟩,⟨46,qf N⟩],EQT,[⟨47,kC N⟩,⟨47,mG N⟩],[]⟩
theorem Sb(N:Nat):GOk Tryd.prog TT EE (UU N):=GOk.cons (qW N) (GOk.cons (zD N) (GOk.consx (mg N) (GOk.consx (qD N) (GOk.nil bP))))
def Iu(c:Code):List It2:=atR 14 c
def Hk(x0:Option VMask)(x1:List UInt8)(x8:Int)(x9_n:Nat)(x30:Int)(x31:Int)(x35_n:Nat)(x36:Int)(x37:Int)(b34:List (Int × Bool))(WN:List Vthread)(WO:List Vthread):TS EE.T:=⟨99,[(0,.a (.d (.ptr (.nam 5)) x0)),(1,.a (.d .str x1)),(8,.a (.d (.int .i64) x8)),(9,.a (.vec (.nam 9) 700009 x9_n)),(10,.a (.mpr 34)),(30,.a (.d (.int .i64) x30)),(31,.a (.d (.int .i64) x31)),(35,.a (.vec (.nam 9) 400448 x35_n)),(36,.a (.d (.int .i64) x36)),(37,.a (.d (.int .i64) x37))],[(34,.imap .bool b34),(400448,.vec 400448 (.nam 9) WN),(700009,.vec 700009 (.nam 9) WO)],[]⟩
def HO(c:Code):List It2:=atR 12 c
def HE(x0:Option VMask)(x1:List UInt8)(x8:Int)(x9_n:Nat)(x30:Int)(x31:Int)(x35_n:Nat)(x36:Int)(x37:Int)(b12:Vthread)(b13:Vstep)(b34:List (Int × Bool))(WN:List Vthread)(WO:List Vthread):TS EE.T:=⟨99,[(0,.a (.d (.ptr (.nam 5)) x0)),(1,.a (.d .str x1)),(8,.a (.d (.int .i64) x8)),(9,.a (.vec (.nam 9) 700009 x9_n)),(10,.a (.mpr 34)),(12,.a (.box 12 0)),(13,.a (.box 13 0)),(30,.a (.d (.int .i64) x30)),(31,.a (.d (.int .i64) x31)),(35,.a (.vec (.nam 9) 400448 x35_n)),(36,.a (.d (.int .i64) x36)),(37,.a (.d (.int .i64) x37))],[(12,.cs (ga EE (.nam 9) b12)),(13,.cs (ga EE (.nam 4) b13)),(34,.imap .bool b34),(400448,.vec 400448 (.nam 9) WN),(700009,.vec 700009 (.nam 9) WO)],[]⟩
def BX(c:Code):List It2:=atL 9 c
def By(x0:Option VMask)(x1:List UInt8)(x8:Int)(x9_n:Nat)(x30:Int)(x31:Int)(x35_n:Nat)(x36:Int)(x37:Int)(b34:List (Int × Bool))(WN:List Vthread)(WO:List Vthread):TS EE.T:=⟨99,[(0,.a (.d (.ptr (.nam 5)) x0)),(1,.a (.d .str x1)),(8,.a (.d (.int .i64) x8)),(9,.a (.vec (.nam 9) 700009 x9_n)),(10,.a (.mpr 34)),(30,.a (.d (.int .i64) x30)),(31,.a (.d (.int .i64) x31)),(35,.a (.vec (.nam 9) 400448 x35_n)),(36,.a (.d (.int .i64) x36)),(37,.a (.d (.int .i64) x37))],[(34,.imap .bool b34),(400448,.vec 400448 (.nam 9) WN),(700009,.vec 700009 (.nam 9) WO)],[]⟩
def GL(c:Code):List It2:=atL 18 c
def GF(x0:Option VMask)(x1:List UInt8)(x77_n:Nat)(x78:Int)(x79:Int)(WN:List Vthread):TS EE.T:=⟨99,[(0,.a (.d (.ptr (.nam 5)) x0)),(1,.a (.d .str x1)),(77,.a (.vec (.nam 9) 400448 x77_n)),(78,.a (.d (.int .i64) x78)),(79,.a (.d (.int .i64) x79))],[(400448,.vec 400448 (.nam 9) WN)],[]⟩
def xE(c:Code):List It2:=atL 4 c
def zx(x0:Option VMask)(x1:List UInt8)(x7_n:Nat)(x30:Int)(x31:Int)(WN:List Vthread):TS EE.T:=⟨99,[(0,.a (.d (.ptr (.nam 5)) x0)),(1,.a (.d .str x1)),(7,.a (.vec (.nam 9) 400448 x7_n)),(30,.a (.d (.int .i64) x30)),(31,.a (.d (.int .i64) x31))],[(400448,.vec 400448 (.nam 9) WN)],[]⟩
def Tx(c:Code):List It2:=[.c c]
def RU(x0:Option VMask)(x1:List UInt8):TS EE.T:=⟨99,[(0,.a (.d (.ptr (.nam 5)) x0)),(1,.a (.d .str x1))],[],[]⟩
def B1(c:Code)(f:(Option VMask)→(List UInt8)→Int→Nat→Int→Int→Nat→Int→Int→(List (Int × Bool))→(List Vthread)→(List Vthread)→Option (PR ar))(x0:Option VMask)(x1:List UInt8)(x8:Int)(x9_n:Nat)(x30:Int)(x31:Int)(x35_n:Nat)(x36:Int)(x37:Int)(b34:List (Int × Bool))(WN:List Vthread)(WO:List Vthread):Tree (Lf EE.T × Option (PR ar)):=.leaf (.go (Iu c) (Hk x0 x1 x8 x9_n x30 x31 x35_n x36 x37 b34 WN WO),f x0 x1 x8 x9_n x30 x31 x35_n x36 x37 b34 WN WO)
def OX(c:Code)(f:(Option VMask)→(List UInt8)→Int→Nat→Int→Int→Nat→Int→Int→Vthread→Vstep→(List (Int × Bool))→(List Vthread)→(List Vthread)→Option (PR ar))(x0:Option VMask)(x1:List UInt8)(x8:Int)(x9_n:Nat)(x30:Int)(x31:Int)(x35_n:Nat)(x36:Int)(x37:Int)(b12:Vthread)(b13:Vstep)(b34:List (Int × Bool))(WN:List Vthread)(WO:List Vthread):Tree (Lf EE.T × Option (PR ar)):=.leaf (.go (HO c) (HE x0 x1 x8 x9_n x30 x31 x35_n x36 x37 b12 b13 b34 WN WO),f x0 x1 x8 x9_n x30 x31 x35_n x36 x37 b12 b13 b34 WN WO)
def Kk(c:Code)(f:(Option VMask)→(List UInt8)→Int→Nat→Int→Int→Nat→Int→Int→(List (Int × Bool))→(List Vthread)→(List Vthread)→Option (PR ar))(x0:Option VMask)(x1:List UInt8)(x8:Int)(x9_n:Nat)(x30:Int)(x31:Int)(x35_n:Nat)(x36:Int)(x37:Int)(b34:List (Int × Bool))(WN:List Vthread)(WO:List Vthread):Tree (Lf EE.T × Option (PR ar)):=.leaf (.go (BX c) (By x0 x1 x8 x9_n x30 x31 x35_n x36 x37 b34 WN WO),f x0 x1 x8 x9_n x30 x31 x35_n x36 x37 b34 WN WO)
def G5(c:Code)(f:(Option VMask)→(List UInt8)→Nat→Int→Int→(List Vthread)→Option (PR ar))(x0:Option VMask)(x1:List UInt8)(x77_n:Nat)(x78:Int)(x79:Int)(WN:List Vthread):Tree (Lf EE.T × Option (PR ar)):=.leaf (.go (GL c) (GF x0 x1 x77_n x78 x79 WN),f x0 x1 x77_n x78 x79 WN)
def LN(c:Code)(f:(Option VMask)→(List UInt8)→Nat→Int→Int→(List Vthread)→Option (PR ar))(x0:Option VMask)(x1:List UInt8)(x7_n:Nat)(x30:Int)(x31:Int)(WN:List Vthread):Tree (Lf EE.T × Option (PR ar)):=.leaf (.go (xE c) (zx x0 x1 x7_n x30 x31 WN),f x0 x1 x7_n x30 x31 WN)
abbrev qi(N:Nat)(r:PR ar)(k:List It2)(s:TS EE.T):Prop:=eN (Y:=TT) EE (UU N) Vi Vk (fun u=>u=uG r) k s
def Hh(x:PR ar):Tree (Lf EE.T × Option (PR ar)):=.leaf (.done (uG x),some x)
theorem CA{N:Nat}{r:PR ar}{k9:(Option VMask)→(List UInt8)→Int→Nat→Int→Int→Nat→Int→Int→(List (Int × Bool))→(List Vthread)→(List Vthread)→Option (PR ar)}{k4:(Option VMask)→(List UInt8)→Nat→Int→Int→(List Vthread)→Option (PR ar)}(hk9:∀x0 x1 x8 x9_n x30 x31 x35_n x36 x37 b34 WN WO,k9 x0 x1 x8 x9_n x30 x31 x35_n x36 x37 b34 WN WO=some r→qi N r (BX (aa 0 Tryd.f25)) (By x0 x1 x8 x9_n x30 x31 x35_n x36 x37 b34 WN WO))(hk4:∀x0 x1 x7_n x30 x31 WN,k4 x0 x1 x7_n x30 x31 WN=some r→qi N r (xE (aa 0 Tryd.f25)) (zx x0 x1 x7_n x30 x31 WN))(n:Nat)(x0:Option VMask)(x1:List UInt8)(x8:Int)(x9_n:Nat)(x30:Int)(x31:Int)(x35_n:Nat)(x36:Int)(x37:Int)(b34:List (Int × Bool))(WN:List Vthread)(WO:List Vthread)(h:db N k9 k4 n x0 x1 x8 x9_n x30 x31 x35_n x36 x37 b34 WN WO=some r):qi N r (Iu (aa 0 Tryd.f25)) (Hk x0 x1 x8 x9_n x30 x31 x35_n x36 x37 b34 WN WO):=
 am (m:=4000) (t:=
 Kk (aa 0 Tryd.f25) k9 x0 x1 x8 x9_n x30 x31 x35_n x36 (w64 (x37+1)) b34 WN WO) (by kernel_rfl) (by kernel_rfl) h (fun h=>hk9 _ _ _ _ _ _ _ _ _ _ _ _ h)
theorem PW{N:Nat}{r:PR ar}{k9:(Option VMask)→(List UInt8)→Int→Nat→Int→Int→Nat→Int→Int→(List (Int × Bool))→(List Vthread)→(List Vthread)→Option (PR ar)}{k4:(Option VMask)→(List UInt8)→Nat→Int→Int→(List Vthread)→Option (PR ar)}(hk9:∀x0 x1 x8 x9_n x30 x31 x35_n x36 x37 b34 WN WO,k9 x0 x1 x8 x9_n x30 x31 x35_n x36 x37 b34 WN WO=some r→qi N r (BX (aa 0 Tryd.f25)) (By x0 x1 x8 x9_n x30 x31 x35_n x36 x37 b34 WN WO))(hk4:∀x0 x1 x7_n x30 x31 WN,k4 x0 x1 x7_n x30 x31 WN=some r→qi N r (xE (aa 0 Tryd.f25)) (zx x0 x1 x7_n x30 x31 WN))(n:Nat)(x0:Option VMask)(x1:List UInt8)(x8:Int)(x9_n:Nat)(x30:Int)(x31:Int)(x35_n:Nat)(x36:Int)(x37:Int)(b12:Vthread)(b13:Vstep)(b34:List (Int × Bool))(WN:List Vthread)(WO:List Vthread)(h:kq N k9 k4 n x0 x1 x8 x9_n x30 x31 x35_n x36 x37 b12 b13 b34 WN WO=some r):qi N r (HO (aa 0 Tryd.f25)) (HE x0 x1 x8 x9_n x30 x31 x35_n x36 x37 b12 b13 b34 WN WO):=
 am (m:=4000) (t:=
 .cond (b13.kind==0)
 (
  .bnd (bN x1 x8) fun z14=>
  .bnd (b13.set_) fun z15=>
  .bnd (BK 256 (some z15) (b2i z14)) fun z16=>
  .cond (z16)
  (
   .bnd (cC N x0 x9_n ({ at_:=w64 (b12.at_+1),slots:=b12.slots }:Vthread) (w64 (x8+1)) WO b34) fun z17=>
   .sm z17 (fun z18=>
    B1 (aa 0 Tryd.f25) (db N k9 k4 n) x0 x1 x8 z18.1 x30 x31 x35_n x36 x37 z18.2.2 WN z18.2.1) (fun vz17=>
    Hh (.pan vz17)))
  (
   B1 (aa 0 Tryd.f25) (db N k9 k4 n) x0 x1 x8 x9_n x30 x31 x35_n x36 x37 b34 WN WO))
 (
  B1 (aa 0 Tryd.f25) (db N k9 k4 n) x0 x1 x8 x9_n x30 x31 x35_n x36 x37 b34 WN WO)) (by kernel_rfl) (by kernel_rfl) h (⟨fun _=>fun _=>fun _=>⟨fun _=>⟨fun _=>fun h=>CA hk9 hk4 n _ _ _ _ _ _ _ _ _ _ _ _ h,fun _=>ay (enc:=uG) rfl⟩,fun h=>CA hk9 hk4 n _ _ _ _ _ _ _ _ _ _ _ _ h⟩,fun h=>CA hk9 hk4 n _ _ _ _ _ _ _ _ _ _ _ _ h⟩)
theorem LI{N:Nat}{r:PR ar}{k4:(Option VMask)→(List UInt8)→Nat→Int→Int→(List Vthread)→Option (PR ar)}(hk4:∀x0 x1 x7_n x30 x31 WN,k4 x0 x1 x7_n x30 x31 WN=some r→qi N r (xE (aa 0 Tryd.f25)) (zx x0 x1 x7_n x30 x31 WN)):∀ (n:Nat) (x0:Option VMask) (x1:List UInt8) (x8:Int) (x9_n:Nat) (x30:Int) (x31:Int) (x35_n:Nat) (x36:Int) (x37:Int) (b34:List (Int × Bool)) (WN:List Vthread) (WO:List Vthread),cT N k4 n x0 x1 x8 x9_n x30 x31 x35_n x36 x37 b34 WN WO=some r→qi N r (BX (aa 0 Tryd.f25)) (By x0 x1 x8 x9_n x30 x31 x35_n x36 x37 b34 WN WO)
 |0,_,_,_,_,_,_,_,_,_,_,_,_,h=>by cases h
 |n+1,x0,x1,x8,x9_n,x30,x31,x35_n,x36,x37,b34,WN,WO,h=>am (m:=4000) (t:=
  .cond (decide (x37 < x36))
  (
   .bnd (gN x35_n x37) fun z5=>
   .bnd (WN[z5]?) fun z6=>
   nlR 134 (
    .bnd (x0) fun z7=>
    .bnd (bN z7.steps z6.at_) fun z8=>
    OX (aa 0 Tryd.f25) (kq N (cT N k4 n) k4 n) x0 x1 x8 x9_n x30 x31 x35_n x36 x37 z6 z8 b34 WN WO))
  (
   LN (aa 0 Tryd.f25) k4 x0 x1 x9_n x30 (w64 (x31+1)) WO)) (by kernel_rfl) (by kernel_rfl) h (⟨fun _=>fun _=>Ce (fun _=>fun _=>fun h=>PW (LI hk4 n) hk4 n _ _ _ _ _ _ _ _ _ _ _ _ _ _ h),fun h=>hk4 _ _ _ _ _ _ h⟩)
theorem Ir{N:Nat}{r:PR ar}:∀ (n:Nat) (x0:Option VMask) (x1:List UInt8) (x77_n:Nat) (x78:Int) (x79:Int) (WN:List Vthread),fq N n x0 x1 x77_n x78 x79 WN=some r→qi N r (GL (aa 0 Tryd.f25)) (GF x0 x1 x77_n x78 x79 WN)
 |0,_,_,_,_,_,_,h=>by cases h
 |n+1,x0,x1,x77_n,x78,x79,WN,h=>am (m:=4000) (t:=
  .cond (decide (x79 < x78))
  (
   .bnd (gN x77_n x79) fun z9=>
   .bnd (WN[z9]?) fun z10=>
   .bnd (x0) fun z11=>
   .bnd (bN z11.steps z10.at_) fun z12=>
   .cond (z12.kind==4)
   (
    .bnd (gS N x0 x1 z10.slots) fun z13=>
    Hh (.ok (true,z13)))
   (
    G5 (aa 0 Tryd.f25) (fq N n) x0 x1 x77_n x78 (w64 (x79+1)) WN))
  (
   Hh (.ok (false,([] :List (List UInt8)))))) (by kernel_rfl) (by kernel_rfl) h (⟨fun _=>fun _=>fun _=>fun _=>⟨fun _=>ay (enc:=uG) rfl,fun h=>(Ir n) _ _ _ _ _ _ h⟩,ay (enc:=uG) rfl⟩)
theorem KJ{N:Nat}{r:PR ar}:∀ (n:Nat) (x0:Option VMask) (x1:List UInt8) (x7_n:Nat) (x30:Int) (x31:Int) (WN:List Vthread),cS N n x0 x1 x7_n x30 x31 WN=some r→qi N r (xE (aa 0 Tryd.f25)) (zx x0 x1 x7_n x30 x31 WN)
 |0,_,_,_,_,_,_,h=>by cases h
 |n+1,x0,x1,x7_n,x30,x31,WN,h=>am (m:=4000) (t:=
  .cond (decide (x31 < x30))
  (
   Kk (aa 0 Tryd.f25) (cT N (cS N n) n) x0 x1 x31 0 x30 x31 x7_n (x7_n:Int) 0 ([] :List (Int × Bool)) WN ([] :List Vthread))
  (
   G5 (aa 0 Tryd.f25) (fq N n) x0 x1 x7_n (x7_n:Int) 0 WN)) (by kernel_rfl) (by kernel_rfl) h (⟨fun h=>LI (KJ n) n _ _ _ _ _ _ _ _ _ _ _ _ h,fun h=>Ir n _ _ _ _ _ _ h⟩)
theorem Tq{N:Nat}{r:PR ar}(x0:Option VMask)(x1:List UInt8)(h:dU N x0 x1=some r):qi N r (Tx (aa 0 Tryd.f25)) (RU x0 x1):=
 am (m:=4000) (t:=
 .bnd (x0) fun z1=>
 .bnd (oM N ([(-1)] :List Int) (w64 ((w64 (2 * z1.Groups))+2))) fun z2=>
 .bnd (gY N x0 ({ at_:=0,slots:=z2 }:Vthread) 0 ([] :List (Int × Bool))) fun z3=>
 .sm z3 (fun z4=>
  LN (aa 0 Tryd.f25) (cS N N) x0 x1 z4.1 (x1.length:Int) 0 z4.2.2) (fun vz3=>
  Hh (.pan vz3))) (by kernel_rfl) (by kernel_rfl) h (fun _=>fun _=>fun _=>⟨fun _=>fun h=>KJ N _ _ _ _ _ _ h,fun _=>ay (enc:=uG) rfl⟩)
def Q3(x0:Option VMask)(x1:List UInt8):List (TV EE.T):=[.a (.d (.ptr (.nam 5)) x0),.a (.d .str x1)]
def Mx(x0:Option VMask)(x1:List UInt8):List (Nat × TB EE.T):=[]
theorem vp{N:Nat}(x0:Option VMask)(x1:List UInt8){r:PR ar}(h:dU N x0 x1=some r)(ρ:Rn)(hi:Inj ρ (Mx x0 x1)):ai Tryd.prog 25 ((Q3 x0 x1).map (TV.to EE.toEnc ρ)) (hTo EE.toEnc ρ (Mx x0 x1)) (fun out H=>match r with|.ok z=>out=.ret ((l9 z).to EE.toEnc ρ)∧H=hTo EE.toEnc ρ (Kb z)|.pan v=>out=.pan v):=
 (fA (aa 0 Tryd.f25) 99 mixed (Sb N) Tryd.func25 (by kernel_rfl) rfl rfl rfl rfl (Tq x0 x1 h) ρ hi).mono fun out H h=>by cases r with|ok z=>exact bQ.retH rfl rfl h|pan v=>exact bQ.pan h
def jF(N:Nat)(us:List (TV EE.T))(hs:List (Nat × TB EE.T)):XR EE.T:=
 gdX (gJ us 2) <|
 bnX (aD (.ptr (.nam 5)) us 0) fun x0=>
 bnX (aD .str us 1) fun x1=>
 gdX (b9 hs []) <|
 .may (dU N x0 x1) [] l9 (Kb)
theorem kK(N:Nat):XOk Tryd.prog EE 25 (jF N):=fun us hs=>
 aQ fun h1=>ah fun x0 h2=>ah fun x1 h3=>aQ fun h4=>fun p hz=>⟨fun z e=>rfl,fun ρ hi=>xK (us':=Q3 x0 x1) (h0:=Mx x0 x1) (ρ':=oA ρ []) hi h4 (by kernel_rfl) ⟨la h2,la h3,bY h1⟩ trivial (fun hj=>vp x0 x1 hz _ hj) (fun out H h=>by cases p with|ok z=>exact⟨h.1.trans (by kernel_rfl),h.2.trans (by kernel_rfl)⟩|pan v=>exact h)⟩
section
variable {Pr:Program}
end
def Eb(n:Nat):Prop:=n≤140737488351232
theorem Eb.le{n:Nat}(h:Eb n):n≤140737488351232:=h
def nmC(i:Nat)(c:Nat):Bool:=(decide (97≤c) && decide (c≤122)|| decide (65≤c) && decide (c≤90)|| decide (c=95))|| (decide (i≠0) && (decide (48≤c) && decide (c≤57)))
def tQ(s:ByteArray):Nat→Nat→Bool
 |0,_=>true
 |b+1,i=>if h:i < s.size then nmC i (s[i]'h).toNat && tQ s b (i+1) else true
def nmB(s:ByteArray):Bool:=tQ s s.size 0 && decide (0 < s.size) && decide (s.size≤40)
theorem C1{s:ByteArray}{b i:Nat}(h:¬i < s.size):tQ s b i=true:=by
 cases b with
 |zero=>rfl
 |succ b=>simp[tQ,h]
theorem FK(s:ByteArray)(pos:Nat)(h:pos < s.size):1≤(Utf8.decode s pos).2:=by
 by_cases ha:(s[pos]'h).toNat < 128
 ·rw[decode_ascii s pos h ha]
  exact Nat.le_refl _
 ·exact(decode_high s pos h (by omega)).2
theorem QJ(s:ByteArray)(pos:Nat)(h:pos < s.size):nmC pos (s[pos]'h).toNat=nmC pos (Utf8.decode s pos).1:=by
 by_cases ha:(s[pos]'h).toNat < 128
 ·rw[decode_ascii s pos h ha]
 ·have h1:=(decode_high s pos h (by omega)).1
  have h2:∀c,128≤c→nmC pos c=false:=fun c hc=>by
   unfold nmC
   simp only[decide_eq_true_eq,Bool.or_eq_false_iff,Bool.and_eq_false_iff,decide_eq_false_iff_not]
   omega
  rw[h2 _ h1,h2 _ (by omega)]
theorem CY(s:ByteArray):s.toList.length=s.size:=by rw[ByteArray.toList_eq];rfl
theorem rE{s:ByteArray}{b pos r:Nat}(hp:pos < s.size)(hb:s.size≤pos+b)(hnm:nmC pos (s[pos]'hp).toNat=nmC pos r)(hq:nmC pos r=true):tQ s (b - 1) (pos+1)=tQ s b pos:=by
 cases b with
 |zero=>omega
 |succ b=>
  show tQ s b (pos+1)=if h:pos < s.size then nmC pos (s[pos]'h).toNat && tQ s b (pos+1) else true
  rw[dif_pos hp,hnm,hq,Bool.true_and]
theorem gU{s:ByteArray}{b pos r:Nat}(hp:pos < s.size)(hb:s.size≤pos+b)(hnm:nmC pos (s[pos]'hp).toNat=nmC pos r)(hq:nmC pos r=false):tQ s b pos=false:=by
 cases b with
 |zero=>omega
 |succ b=>
  show(if h:pos < s.size then nmC pos (s[pos]'h).toNat && tQ s b (pos+1) else true)=false
  rw[dif_pos hp,hnm,hq,Bool.false_and]
theorem Gv(s:ByteArray)(pos:Nat)(h:pos < s.size)(h1:(Utf8.decode s pos).1 < 128):(Utf8.decode s pos).2=1:=by
 by_cases ha:(s[pos]'h).toNat < 128
 ·rw[decode_ascii s pos h ha]
 ·have:=(decode_high s pos h (by omega)).1;omega
set_option maxHeartbeats 4000000 in
set_option maxRecDepth 1000000 in
theorem DN(s:ByteArray)(hs:s.size < 9223372036854775808)(w:World):Calls Tryd.prog 18 #[.string s] w fun e w'=>e=.returned (.bool (nmB s))∧∃pos,w'=w.iter s pos:=by
 go_enter Tryd.func18,Tryd.ntmps18
 go_wp2
 go_loopw [2] (fun v w'=>∃pos b:Nat,w'=w.iter s pos∧v=.bool false∧tQ s b pos=tQ s s.size 0∧s.size≤pos+b) (fun _ w'=>s.size - w'.iterPos w.heap.size)
 case atStart=>exact⟨0,s.size,rfl,rfl,rfl,by omega⟩
 case round=>
  obtain⟨pos,b,rfl,rfl,hc,hb⟩:=hrel
  by_cases hp:pos < s.size
  ·have hnx:∀ty,(Instr.next (.pointer (some ⟨w.heap.size,0,none⟩)) true ty).run Tryd.prog (w.iter s pos)=_:=fun ty=>run_next_any w s pos ty hp
   have hwd:=FK s pos hp
   have hnm:=QJ s pos hp
   have hr1:=Gv s pos hp
   generalize (Utf8.decode s pos).1=r at hnx hnm hr1
   generalize (Utf8.decode s pos).2=n at hnx hwd hr1
   have hcase:(97≤r∧r≤122)∨(65≤r∧r≤90)∨(r=95)∨(48≤r∧r≤57∧pos≠0)∨(48≤r∧r≤57∧pos=0)∨(r < 48∧pos≠0)∨(r < 48∧pos=0)∨(58≤r∧r≤64∧pos≠0)∨(58≤r∧r≤64∧pos=0)∨(91≤r∧r≤94∧pos≠0)∨(91≤r∧r≤94∧pos=0)∨(r=96∧pos≠0)∨(r=96∧pos=0)∨(123≤r∧pos≠0)∨(123≤r∧pos=0):=by omega
   rcases hcase with hh|hh|hh|hh|hh|hh|hh|hh|hh|hh|hh|hh|hh|hh|hh
   ·
    have f0:(97:Int)≤(r:Int):=by omega
    have f1:(r:Int)≤122:=by omega
    go_wp2
    have hn1:=hr1 (by omega)
    subst hn1
    have hq:nmC pos r=true:=by unfold nmC;simp;omega
    refine⟨⟨pos+1,b - 1,rfl,rfl,(rE hp hb hnm hq).trans hc,by omega⟩,?_⟩
    simp
    omega
   ·
    have f0:¬(97:Int)≤(r:Int):=by omega
    have f1:(65:Int)≤(r:Int):=by omega
    have f2:(r:Int)≤90:=by omega
    go_wp2
    have hn1:=hr1 (by omega)
    subst hn1
    have hq:nmC pos r=true:=by unfold nmC;simp;omega
    refine⟨⟨pos+1,b - 1,rfl,rfl,(rE hp hb hnm hq).trans hc,by omega⟩,?_⟩
    simp
    omega
   ·
    have f0:¬(97:Int)≤(r:Int):=by omega
    have f1:(65:Int)≤(r:Int):=by omega
    have f2:¬(r:Int)≤90:=by omega
    have f3:((r:Int)==95)=true:=by simp;omega
    go_wp2
    have hn1:=hr1 (by omega)
    subst hn1
    have hq:nmC pos r=true:=by unfold nmC;simp;omega
    refine⟨⟨pos+1,b - 1,rfl,rfl,(rE hp hb hnm hq).trans hc,by omega⟩,?_⟩
    simp
    omega
   ·
    have f0:¬(97:Int)≤(r:Int):=by omega
    have f1:¬(65:Int)≤(r:Int):=by omega
    have f2:((r:Int)==95)=false:=by simp;omega
    have f3:((pos:Int)==0)=false:=by simp;omega
    have f4:¬(r:Int) < 48:=by omega
    have f5:¬(57:Int) < (r:Int):=by omega
    go_wp2
    have hn1:=hr1 (by omega)
    subst hn1
    have hq:nmC pos r=true:=by unfold nmC;simp;omega
    refine⟨⟨pos+1,b - 1,rfl,rfl,(rE hp hb hnm hq).trans hc,by omega⟩,?_⟩
    simp
    omega
   ·
    have f0:¬(97:Int)≤(r:Int):=by omega
    have f1:¬(65:Int)≤(r:Int):=by omega
    have f2:((r:Int)==95)=false:=by simp;omega
    obtain rfl:pos=0:=by omega
    have hnx':∀ty,(Instr.next (.pointer (some ⟨w.heap.size,0,none⟩)) true ty).run Tryd.prog (w.iter s 0)=.ok (.tuple #[.bool true,.int .i64 0,.int .i32 r]) (w.iter s (0+n)):=fun ty=>by simpa using hnx ty
    clear hnx
    go_wp2
    have hq:nmC 0 r=false:=by unfold nmC;simp;omega
    have hz:=gU hp hb hnm hq
    rw[hc] at hz
    go_ret
    exact⟨by simp[nmB,hz],_,rfl⟩
   ·
    have f0:¬(97:Int)≤(r:Int):=by omega
    have f1:¬(65:Int)≤(r:Int):=by omega
    have f2:((r:Int)==95)=false:=by simp;omega
    have f3:((pos:Int)==0)=false:=by simp;omega
    have f4:(r:Int) < 48:=by omega
    go_wp2
    have hq:nmC pos r=false:=by unfold nmC;simp;omega
    have hz:=gU hp hb hnm hq
    rw[hc] at hz
    go_ret
    exact⟨by simp[nmB,hz],_,rfl⟩
   ·
    have f0:¬(97:Int)≤(r:Int):=by omega
    have f1:¬(65:Int)≤(r:Int):=by omega
    have f2:((r:Int)==95)=false:=by simp;omega
    obtain rfl:pos=0:=by omega
    have hnx':∀ty,(Instr.next (.pointer (some ⟨w.heap.size,0,none⟩)) true ty).run Tryd.prog (w.iter s 0)=.ok (.tuple #[.bool true,.int .i64 0,.int .i32 r]) (w.iter s (0+n)):=fun ty=>by simpa using hnx ty
    clear hnx
    go_wp2
    have hq:nmC 0 r=false:=by unfold nmC;simp;omega
    have hz:=gU hp hb hnm hq
    rw[hc] at hz
    go_ret
    exact⟨by simp[nmB,hz],_,rfl⟩
   ·
    have f0:¬(97:Int)≤(r:Int):=by omega
    have f1:¬(65:Int)≤(r:Int):=by omega
    have f2:((r:Int)==95)=false:=by simp;omega
    have f3:((pos:Int)==0)=false:=by simp;omega
    have f4:¬(r:Int) < 48:=by omega
    have f5:(57:Int) < (r:Int):=by omega
    go_wp2
    have hq:nmC pos r=false:=by unfold nmC;simp;omega
    have hz:=gU hp hb hnm hq
    rw[hc] at hz
    go_ret
    exact⟨by simp[nmB,hz],_,rfl⟩
   ·
    have f0:¬(97:Int)≤(r:Int):=by omega
    have f1:¬(65:Int)≤(r:Int):=by omega
    have f2:((r:Int)==95)=false:=by simp;omega
    obtain rfl:pos=0:=by omega
    have hnx':∀ty,(Instr.next (.pointer (some ⟨w.heap.size,0,none⟩)) true ty).run Tryd.prog (w.iter s 0)=.ok (.tuple #[.bool true,.int .i64 0,.int .i32 r]) (w.iter s (0+n)):=fun ty=>by simpa using hnx ty
    clear hnx
    go_wp2
    have hq:nmC 0 r=false:=by unfold nmC;simp;omega
    have hz:=gU hp hb hnm hq
    rw[hc] at hz
    go_ret
    exact⟨by simp[nmB,hz],_,rfl⟩
   ·
    have f0:¬(97:Int)≤(r:Int):=by omega
    have f1:(65:Int)≤(r:Int):=by omega
    have f2:¬(r:Int)≤90:=by omega
    have f3:((r:Int)==95)=false:=by simp;omega
    have f4:((pos:Int)==0)=false:=by simp;omega
    have f5:¬(r:Int) < 48:=by omega
    have f6:(57:Int) < (r:Int):=by omega
    go_wp2
    have hq:nmC pos r=false:=by unfold nmC;simp;omega
    have hz:=gU hp hb hnm hq
    rw[hc] at hz
    go_ret
    exact⟨by simp[nmB,hz],_,rfl⟩
   ·
    have f0:¬(97:Int)≤(r:Int):=by omega
    have f1:(65:Int)≤(r:Int):=by omega
    have f2:¬(r:Int)≤90:=by omega
    have f3:((r:Int)==95)=false:=by simp;omega
    obtain rfl:pos=0:=by omega
    have hnx':∀ty,(Instr.next (.pointer (some ⟨w.heap.size,0,none⟩)) true ty).run Tryd.prog (w.iter s 0)=.ok (.tuple #[.bool true,.int .i64 0,.int .i32 r]) (w.iter s (0+n)):=fun ty=>by simpa using hnx ty
    clear hnx
    go_wp2
    have hq:nmC 0 r=false:=by unfold nmC;simp;omega
    have hz:=gU hp hb hnm hq
    rw[hc] at hz
    go_ret
    exact⟨by simp[nmB,hz],_,rfl⟩
   ·
    have f0:¬(97:Int)≤(r:Int):=by omega
    have f1:(65:Int)≤(r:Int):=by omega
    have f2:¬(r:Int)≤90:=by omega
    have f3:((r:Int)==95)=false:=by simp;omega
    have f4:((pos:Int)==0)=false:=by simp;omega
    have f5:¬(r:Int) < 48:=by omega
    have f6:(57:Int) < (r:Int):=by omega
    go_wp2
    have hq:nmC pos r=false:=by unfold nmC;simp;omega
    have hz:=gU hp hb hnm hq
    rw[hc] at hz
    go_ret
    exact⟨by simp[nmB,hz],_,rfl⟩
   ·
    have f0:¬(97:Int)≤(r:Int):=by omega
    have f1:(65:Int)≤(r:Int):=by omega
    have f2:¬(r:Int)≤90:=by omega
    have f3:((r:Int)==95)=false:=by simp;omega
    obtain rfl:pos=0:=by omega
    have hnx':∀ty,(Instr.next (.pointer (some ⟨w.heap.size,0,none⟩)) true ty).run Tryd.prog (w.iter s 0)=.ok (.tuple #[.bool true,.int .i64 0,.int .i32 r]) (w.iter s (0+n)):=fun ty=>by simpa using hnx ty
    clear hnx
    go_wp2
    have hq:nmC 0 r=false:=by unfold nmC;simp;omega
    have hz:=gU hp hb hnm hq
    rw[hc] at hz
    go_ret
    exact⟨by simp[nmB,hz],_,rfl⟩
   ·
    have f0:(97:Int)≤(r:Int):=by omega
    have f1:¬(r:Int)≤122:=by omega
    have f2:(65:Int)≤(r:Int):=by omega
    have f3:¬(r:Int)≤90:=by omega
    have f4:((r:Int)==95)=false:=by simp;omega
    have f5:((pos:Int)==0)=false:=by simp;omega
    have f6:¬(r:Int) < 48:=by omega
    have f7:(57:Int) < (r:Int):=by omega
    go_wp2
    have hq:nmC pos r=false:=by unfold nmC;simp;omega
    have hz:=gU hp hb hnm hq
    rw[hc] at hz
    go_ret
    exact⟨by simp[nmB,hz],_,rfl⟩
   ·
    have f0:(97:Int)≤(r:Int):=by omega
    have f1:¬(r:Int)≤122:=by omega
    have f2:(65:Int)≤(r:Int):=by omega
    have f3:¬(r:Int)≤90:=by omega
    have f4:((r:Int)==95)=false:=by simp;omega
    obtain rfl:pos=0:=by omega
    have hnx':∀ty,(Instr.next (.pointer (some ⟨w.heap.size,0,none⟩)) true ty).run Tryd.prog (w.iter s 0)=.ok (.tuple #[.bool true,.int .i64 0,.int .i32 r]) (w.iter s (0+n)):=fun ty=>by simpa using hnx ty
    clear hnx
    go_wp2
    have hq:nmC 0 r=false:=by unfold nmC;simp;omega
    have hz:=gU hp hb hnm hq
    rw[hc] at hz
    go_ret
    exact⟨by simp[nmB,hz],_,rfl⟩
  ·have hnx:∀ty,(Instr.next (.pointer (some ⟨w.heap.size,0,none⟩)) true ty).run Tryd.prog (w.iter s pos)=_:=fun ty=>run_next_end w s pos ty hp
   rw[C1 hp] at hc
   have hB:nmB s=(decide (0 < s.size) && decide (s.size≤40)):=by unfold nmB;rw[← hc,Bool.true_and]
   clear hc
   by_cases h0:s.size=0
   ·have hs0:s=⟨#[]⟩:=by
     rcases s with ⟨⟨l⟩⟩
     cases l with
     |nil=>rfl
     |cons x l=>exact absurd h0 (by simp[ByteArray.size])
    subst hs0
    go_wp2
    go_ret
    exact⟨rfl,_,rfl⟩
   ·have hne:s≠⟨#[]⟩:=fun e=>h0 (by rw[e];rfl)
    have hl:¬s.toList=[] :=fun e=>hne (by
     have h1:(s==(⟨#[]⟩:ByteArray))=true:=by
      have:=CY s
      rw[e] at this
      exact absurd this.symm h0
     exact(MapKept.bytes_beq _ _).1 h1)
    have hle:s.toList.isEmpty=false:=by cases hq:s.toList with
     |nil=>exact absurd hq hl
     |cons=>rfl
    have hnb:nmB s=decide (s.size≤40):=by rw[hB];simp;omega
    clear hB
    by_cases h40:s.size≤40
    ·have hi:((s.size:Nat):Int)≤40:=by omega
     go_wp2
     go_ret
     exact⟨by simp[hle,hnb,h40],_,rfl⟩
    ·have hi:¬((s.size:Nat):Int)≤40:=by omega
     go_wp2
     go_ret
     exact⟨by simp[hnb,h40],_,rfl⟩
def nmL:Nat→List UInt8→Bool
 |_,[] =>true
 |i,c::r=>nmC i c.toNat && nmL (i+1) r
def iN(s:List UInt8):Bool:=nmL 0 s && decide (0 < s.length) && decide (s.length≤40)
theorem MO(s:List UInt8):∀ (b i:Nat),s.length≤i+b→tQ (mkB s) b i=nmL i (s.drop i)
 |0,i,h=>by rw[List.drop_of_length_le (by omega)];rfl
 |b+1,i,h=>by
  by_cases hi:i < s.length
  ·have h1:i < (mkB s).size:=by rw[jD];exact hi
   rw[List.drop_eq_getElem_cons hi]
   show(if h:i < (mkB s).size then nmC i ((mkB s)[i]'h).toNat && tQ (mkB s) b (i+1) else true)=(nmC i s[i].toNat && nmL (i+1) (s.drop (i+1)))
   rw[dif_pos h1,MO s b (i+1) (by omega)]
   rfl
  ·have h1:¬i < (mkB s).size:=by rw[jD];exact hi
   rw[C1 h1,List.drop_of_length_le (by omega)];rfl
theorem V1(s:List UInt8):nmB (mkB s)=iN s:=by
 unfold nmB iN
 rw[MO s _ 0 (by rw[jD];omega),jD];rfl
def ei(N:Nat)(s:List UInt8):Option Bool:=if s.length < 140737488355328 then some (iN s) else none
theorem wE(s:List UInt8)(hs:s.length < 140737488355328):ai Tryd.prog 18 [.v (.string (mkB s))] [] (fun out H=>out=.ret (.v (.bool (iN s)))∧H=[]):=by
 refine pR (vs:=[.string (mkB s)]) ⟨_,Tryd.func18,by kernel_rfl,rfl⟩ fun w=> ?_
 refine(DN (mkB s) (by rw[jD];omega) w).mono fun e w' ⟨he,pos,hw⟩=>⟨by rw[he,V1],?_⟩
 subst hw
 exact(Below.refl _ _).alloc (Nat.le_refl _) _
def wn(r:Bool):TV EE.T:=.a (.d .bool r)
def iu(N:Nat):List (TV EE.T)→PV EE.T
 | [u0] =>match eB .str u0 with
   |some x0=>.opt (ei N x0) wn
   |_=>.bad
 |_=>.bad
theorem kQ(N:Nat)(us:List (TV EE.T)):(iu N us).ok fun u=>∀ρ,ai Tryd.prog 18 (us.map (TV.to EE.toEnc ρ)) [] (fun out H=>out=.ret (u.to EE.toEnc ρ)∧H=[]):=by
 unfold iu
 split
 ·split
  ·rename_i u0 x0 h0
   intro z hz ρ
   unfold ei at hz
   split at hz
   ·rename_i hl
    cases hz
    refine bq (us':=[.a (.d .str x0)]) ?_ (wE x0 hl)
    exact⟨bb h0 ρ,trivial⟩
   ·cases hz
  ·trivial
 ·trivial
attribute [local irreducible] AS.nf OpV aY Stk lz vU ai cy v6 v8 Awp Fk Ja ra oz TX Wb yP
set_option maxHeartbeats 8000000
def lfs{T:Nat→Type}:Tree (OL T)→List (TS T)
 |.leaf (.st s)=>[s]
 |.nl [] a b=>lfs a++lfs b
 |_=>[]
def okL{T:Nat→Type}:Tree (OL T)→Bool
 |.leaf (.st _)=>true
 |.nl [] a b=>okL a && okL b
 |_=>false
theorem vj{T:Nat→Type}{R:OL T→Prop}:∀ {t:Tree (OL T)},okL t=true→(∀s∈lfs t,R (.st s))→t.holds R
 |.leaf (.st s),_,h=>h s (List.mem_singleton_self s)
 |.leaf (.pan v),h0,_=>by cases h0
 |.nl [] a b,h0,h=>by
  simp only[okL,Bool.and_eq_true] at h0
  exact⟨fun _=>vj h0.1 fun s hs=>h s (List.mem_append.2 (.inl hs)),vj h0.2 fun s hs=>h s (List.mem_append.2 (.inr hs))⟩
 |.nl (_::_) a b,h0,_=>by cases h0
 |.cond _ _ _,h0,_=>by cases h0
 |.bnd _ _,h0,_=>by cases h0
 |.sm _ _ _,h0,_=>by cases h0
 |.fail,h0,_=>by cases h0
def Hv:List Oper:=[{ dst:=some 10,op:=Op.load 53 (Operand.tmp 2),type:=53,pos:= "mask.go:248",after:= #[{ on:=1,ground:=Ground.gcOnly Departure.lateStores }],guard:=none },
 { dst:=none,op:=Op.store 38 (Operand.tmp 0) (Operand.const (Value.pointer none)),type:=0,pos:= "mask.go:248",after:= #[{ on:=0,ground:=Ground.textOnly Departure.lateStores }],guard:=none },
 { dst:=none,op:=Op.store 53 (Operand.tmp 1) (Operand.tmp 10),type:=0,pos:= "mask.go:248",after:= #[{ on:=0,ground:=Ground.data },{ on:=1,ground:=Ground.chain },{ on:=0,ground:=Ground.phase },{ on:=1,ground:=Ground.phase }],guard:=none }]
def cpT(e a:Int):TS EE.T:=⟨11,[(0,.a (.box 100000 0)),(1,.a (.box 100001 0)),(2,.a (.box 100002 0)),(3,.a .tt),(9,.a .tt)],[(100002,.cs [.d (.int .i64) e,.d (.int .i64) a]),(100000,.cs [.raw (.pointer none)]),(100001,.cs [.d (.int .i64) (0:Int),.d (.int .i64) (0:Int)])],[]⟩
def cpH(e a:Int):List (Nat × TB EE.T):=[(100001,.cs [.d (.int .i64) e,.d (.int .i64) a]),(100000,.cs [.raw (.pointer none)]),(100002,.cs [.d (.int .i64) e,.d (.int .i64) a]),(100000,.cs [.raw (.pointer none)]),(100001,.cs [.d (.int .i64) (0:Int),.d (.int .i64) (0:Int)])]
def cpR(k2 k3 kb:Nat):Rn:=⟨fun i=>if i=100000 then⟨k2,false,[]⟩ else if i=100001 then⟨k3,false,[]⟩ else⟨kb,false,[]⟩⟩
theorem Jb(e a:Int):okL (Jz TT EE ⟨[],EQT,[],[]⟩ Hv (cpT e a))=true:=by kernel_rfl
theorem MW(e a:Int):(lfs (Jz TT EE ⟨[],EQT,[],[]⟩ Hv (cpT e a))).map (·.h)=[cpH e a,cpH e a] :=by kernel_rfl
def faultV(e a:Int):Value:=.iface 53 (.agg #[.int .i64 e,.int .i64 a])
set_option maxRecDepth 100000 in
theorem QK(k2 k3:Nat)(u0 c0 c1:AV)(hne:k2≠k3):yP Tryd.prog 34 [.v (.pointer (some ⟨k2,0,none⟩)),.v (.pointer (some ⟨k3,0,none⟩))] [(k2,[u0]),(k3,[c0,c1])] .returning .returning (fun out H'=>out=.ret (.tu [])∧look H' k2=some [u0] ∧look H' k3=some [c0,c1]):=by
 unfold yP
 refine yF Tryd.func34 rfl rfl rfl (fun X=>.v .nilIface) rfl rfl Qt ?_
 dsimp only[slotsOf,List.drop_succ_cons,List.drop_zero]
 repeat (first
  | ((first|apply lP|apply iS);(next=>(first| (simp only[go_sem,Nat.reduceBEq,Nat.reduceEqDiff,reduceIte,reduceCtorEq,String.reduceEq,Nat.reduceAdd,Int.reduceToNat];exact rfl)|exact rfl)))
  | ((first|apply gd rfl rfl rfl rfl|apply BO rfl rfl rfl);(next=>(first
   | (refine fg (T:=TT) rfl ?_;(first|exact trivial|omega| (simp[NFL] <;> omega)))
   | (apply opk ⟨_,.move _,_,_,_,_⟩;first|exact bm (bg _) (.inl rfl)|fail)
   | (apply opk ⟨_,.load _ _,_,_,_,_⟩;first|exact qk (T:=TT) rfl rfl rfl|exact px (T:=TT) rfl rfl rfl rfl|fail)
   | (apply opk ⟨_,.typeAssert _ _ _ _,_,_,_,_⟩;first|exact pO (T:=TT) rfl rfl rfl rfl|exact pS (T:=TT) rfl rfl rfl rfl|fail)
   |fail)))
  | (refine arO _ ?_;first
   | (refine arO ⟨_,.move _,_,_,_,_⟩ ?_;first|refine dv rfl rfl rfl rfl ?_|fail)
   | (refine arO ⟨_,.assign _,_,_,_,_⟩ ?_;first
    |refine cr rfl rfl rfl rfl ?_
    |refine lX rfl rfl rfl rfl (bm (bg _) (.inr rfl)) ?_
    |fail)
   | (refine arO ⟨_,.load _ _,_,_,_,_⟩ ?_;first
    |refine j0 (T:=TT) rfl rfl rfl rfl aH rfl rfl rfl rfl ?_
    | (refine j0 (T:=TT) rfl rfl rfl rfl (bX ?_ aH) rfl rfl rfl rfl ?_;(next=>(first|assumption| (intro e;exact absurd e.symm (by assumption)))))
    | (refine j0 (T:=TT) rfl rfl rfl rfl (bX ?_ (bX ?_ aH)) rfl rfl rfl rfl ?_;(next=>(first|assumption| (intro e;exact absurd e.symm (by assumption))));(next=>(first|assumption| (intro e;exact absurd e.symm (by assumption)))))
    |fail)
   | (refine arO ⟨_,.store _ _ _,_,_,_,_⟩ ?_;first
    | (apply ie rfl rfl;(next=>(first
     | (apply fB (T:=TT) rfl rfl rfl;(next=>(first
      |rfl
      |exact aH
      |assumption
      | ((repeat (first|exact aH|assumption| (apply bX;(next=>(first|assumption| (intro e;exact absurd e.symm (by assumption))|fail)))|fail));done)
      |fail));(next=>rfl);(next=>rfl);(next=>rfl))
     | (apply eY (T:=TT) rfl;(next=>(first
      |rfl
      |exact aH
      |assumption
      | ((repeat (first|exact aH|assumption| (apply bX;(next=>(first|assumption| (intro e;exact absurd e.symm (by assumption))|fail)))|fail));done)
      |fail));(next=>rfl);(next=>rfl);(next=>rfl);(next=>rfl);(next=>rfl);(next=>rfl);(next=>rfl);(next=>rfl))
     |fail)))
    |fail)
   | (refine arO ⟨_,.alloc _,_,_,_,_⟩ ?_;first
    | (refine dZ rfl rfl (rr (T:=TT) rfl rfl ?_);intro kb hkb;(repeat (have hkn:=(jW hkb).1;replace hkb:=(jW hkb).2));(try have hkl:=lL hkb);clear hkb;refine HN ?_)
    |fail)
   |fail)
  | (apply BO rfl rfl rfl;(next=>(first
   |exact i6 rfl (.inl rfl)
   |exact i6 rfl (.inr rfl)
   |exact vM rfl
   | (apply kW (T:=TT) rfl;(next=>(first
    |rfl
    |exact aH
    |assumption
    | ((repeat (first|exact aH|assumption| (apply bX;(next=>(first|assumption| (intro e;exact absurd e.symm (by assumption))|fail)))|fail));done)
    |fail));(next=>rfl);(next=>rfl);(next=>rfl);(next=>rfl))
   |fail)))
  |refine iH ?_
  | (refine arE ?_;refine gi [0,1,2,3,9] rfl ?_)
  |refine dM ?_
  |refine eH ?_
  |refine gk ?_
  |refine iI ?_
  |refine e9 rfl ?_
  | (refine arC (.cond _ _ _) ?_;first
   | (refine bU rfl ?_ ?_;(next=>(first|rfl| (simp only[decide_eq_true_eq,beq_iff_eq,bne_iff_ne,ge_iff_le,gt_iff_lt,ne_eq,Bool.not_eq_true',decide_eq_false_iff_not];omega))))
   | (refine bz rfl ?_ ?_;(next=>(first
    |rfl
    | (simp only[decide_eq_false_iff_not,beq_eq_false_iff_ne,bne_eq_false_iff_eq,ge_iff_le,gt_iff_lt,ne_eq,Bool.not_eq_false',decide_eq_true_eq];omega))))
   |fail)
  |refine gh ?_
  |refine eb ?_
  |refine dp rfl ?_
  |refine dq ?_
  |refine dm ?_
  | (refine arC .ret ?_;refine gQ [] ?_)
  |refine d8 ?_
  |refine d9 ?_
  |refine ea ?_
  |refine gu ?_
  | (refine arC (.region _ _ true) ?_;refine xJ (H6 mixed (by kernel_rfl) rfl ?_))
  |refine zo rfl rfl rfl ?_
  | (refine VX ?_;refine gi [0,1,2,3,9] rfl ?_)
  |fail)
 rename_i hkn2
 exact LE ⟨_,rfl,rfl,bX hkn2 aH,bX hkn (bX (fun e=>hne e.symm) aH)⟩
set_option maxRecDepth 100000 in
theorem Qh(k2 k3:Nat)(e a:Int)(hne:k2≠k3):yP Tryd.prog 34 [.v (.pointer (some ⟨k2,0,none⟩)),.v (.pointer (some ⟨k3,0,none⟩))] [(k2,[.v (.pointer none)]),(k3,[.v (.int .i64 0),.v (.int .i64 0)])] (.panicking [⟨faultV e a,false,false⟩]) (.panicking [⟨faultV e a,true,false⟩]) (fun out H'=>out=.ret (.tu [])∧look H' k2=some [.v (.pointer none)] ∧look H' k3=some [.v (.int .i64 e),.v (.int .i64 a)]):=by
 unfold yP
 refine yF (ru:=.ifc 53 (.ag [.v (.int .i64 e),.v (.int .i64 a)])) Tryd.func34 rfl rfl rfl (fun X=>.ifc _ _ _ (.ag _ #[_,_] rfl (fun i u x hu hx=>by
  match i,hu,hx with
  |0,hu,hx=>simp at hu hx;subst hu hx;exact .v _
  |1,hu,hx=>simp at hu hx;subst hu hx;exact .v _))) rfl rfl (PO (faultV e a)) ?_
 dsimp only[slotsOf,List.drop_succ_cons,List.drop_zero]
 repeat (first
  | ((first|apply lP|apply iS);(next=>(first| (simp only[go_sem,Nat.reduceBEq,Nat.reduceEqDiff,reduceIte,reduceCtorEq,String.reduceEq,Nat.reduceAdd,Int.reduceToNat];exact rfl)|exact rfl)))
  | (apply gd rfl rfl rfl rfl;(next=>(first
   | (refine fg (T:=TT) rfl ?_;(first|exact trivial|omega| (simp[NFL] <;> omega)))
   | (apply opk ⟨_,.move _,_,_,_,_⟩;first|exact bm (bg _) (.inl rfl)|fail)
   | (apply opk ⟨_,.load _ _,_,_,_,_⟩;first|exact qk (T:=TT) rfl rfl rfl|exact px (T:=TT) rfl rfl rfl rfl|fail)
   | (apply opk ⟨_,.typeAssert _ _ _ _,_,_,_,_⟩;first|exact pO (T:=TT) rfl rfl rfl rfl|exact pS (T:=TT) rfl rfl rfl rfl|fail)
   |fail)))
  | (refine arO _ ?_;first
   | (refine arO ⟨_,.move _,_,_,_,_⟩ ?_;first|refine dv rfl rfl rfl rfl ?_|fail)
   | (refine arO ⟨_,.assign _,_,_,_,_⟩ ?_;first
    |refine cr rfl rfl rfl rfl ?_
    |refine lX rfl rfl rfl rfl (bm (bg _) (.inr rfl)) ?_
    |fail)
   | (refine arO ⟨_,.load _ _,_,_,_,_⟩ ?_;first
    |refine j0 (T:=TT) rfl rfl rfl rfl aH rfl rfl rfl rfl ?_
    | (refine j0 (T:=TT) rfl rfl rfl rfl (bX ?_ aH) rfl rfl rfl rfl ?_;(next=>(first|assumption| (intro e;exact absurd e.symm (by assumption)))))
    | (refine j0 (T:=TT) rfl rfl rfl rfl (bX ?_ (bX ?_ aH)) rfl rfl rfl rfl ?_;(next=>(first|assumption| (intro e;exact absurd e.symm (by assumption))));(next=>(first|assumption| (intro e;exact absurd e.symm (by assumption)))))
    |fail)
   | (refine arO ⟨_,.store _ _ _,_,_,_,_⟩ ?_;first
    | (apply ie rfl rfl;(next=>(first
     | (apply fB (T:=TT) rfl rfl rfl;(next=>(first
      |rfl
      |exact aH
      |assumption
      | ((repeat (first|exact aH|assumption| (apply bX;(next=>(first|assumption| (intro e;exact absurd e.symm (by assumption))|fail)))|fail));done)
      |fail));(next=>rfl);(next=>rfl);(next=>rfl))
     | (apply eY (T:=TT) rfl;(next=>(first
      |rfl
      |exact aH
      |assumption
      | ((repeat (first|exact aH|assumption| (apply bX;(next=>(first|assumption| (intro e;exact absurd e.symm (by assumption))|fail)))|fail));done)
      |fail));(next=>rfl);(next=>rfl);(next=>rfl);(next=>rfl);(next=>rfl);(next=>rfl);(next=>rfl);(next=>rfl))
     |fail)))
    |fail)
   | (refine arO ⟨_,.alloc _,_,_,_,_⟩ ?_;first
    | (refine dZ rfl rfl (rr (T:=TT) rfl rfl ?_);intro kb hkb;(repeat (have hkn:=(jW hkb).1;replace hkb:=(jW hkb).2));(try have hkl:=lL hkb);clear hkb;refine HN ?_)
    |fail)
   |fail)
  |refine iH ?_
  | (refine arE ?_;refine gi [0,1,2,3,9] rfl ?_)
  |refine dM ?_
  |refine eH ?_
  |refine gk ?_
  |refine iI ?_
  |refine e9 rfl ?_
  | (refine arC (.cond _ _ _) ?_;first
   | (refine bU rfl ?_ ?_;(next=>(first|rfl| (simp only[decide_eq_true_eq,beq_iff_eq,bne_iff_ne,ge_iff_le,gt_iff_lt,ne_eq,Bool.not_eq_true',decide_eq_false_iff_not];omega))))
   | (refine bz rfl ?_ ?_;(next=>(first
    |rfl
    | (simp only[decide_eq_false_iff_not,beq_eq_false_iff_ne,bne_eq_false_iff_eq,ge_iff_le,gt_iff_lt,ne_eq,Bool.not_eq_false',decide_eq_true_eq];omega))))
   |fail)
  |refine gh ?_
  |refine eb ?_
  |refine dp rfl ?_
  |refine dq ?_
  |refine dm ?_
  | (refine arC .ret ?_;refine gQ [] ?_)
  |refine d8 ?_
  |refine d9 ?_
  |refine ea ?_
  |refine gu ?_
  |fail)
 rename_i hkn2
 have hinj:Inj (cpR k2 k3 kb) (cpT e a).h:=by
  intro p hp q hq
  simp only[cpT,List.mem_cons,List.not_mem_nil,or_false] at hp hq
  rcases hp with rfl|rfl|rfl<;> rcases hq with rfl|rfl|rfl<;> refine⟨fun _ _ h=> ?_,fun h=> ?_⟩<;> first|rfl| (exfalso;revert h;simp[cpR,Rn.b];omega)| (exfalso;revert h;simp)
 refine Hg (Y:=TT) (E:=EE) (G:=⟨[],EQT,[],[]⟩) (ρ:=cpR k2 k3 kb) (σ:=cpT e a) (ops:=Hv) mixed (GOk.nil bP) hinj (vj (Jb e a) fun s hs=> ?_)
 have hs2:s.h=cpH e a:=by
  have:s.h∈(lfs (Jz TT EE ⟨[],EQT,[],[]⟩ Hv (cpT e a))).map (·.h):=List.mem_map_of_mem hs
  rw[MW] at this
  simpa using this
 intro ρ' hi' ha
 have e0:ρ' 100000=k2:=by
  have:=ha 100000 rfl
  show(ρ'.k 100000).b=k2
  rw[this];rfl
 have e1:ρ' 100001=k3:=by
  have:=ha 100001 rfl
  show(ρ'.k 100001).b=k3
  rw[this];rfl
 have hh:(TS.to EE.toEnc ρ' s).h=hTo EE.toEnc ρ' (cpH e a):=by rw[← hs2];rfl
 refine LE ⟨.tu [],rfl,rfl,?_,?_⟩
 ·rw[hh,← e0]
  exact bX (fun e=>hne (by rw[← e0,← e1];exact e)) aH
 ·rw[hh,← e1]
  exact aH
end Go.Proofs.YtobacplonkjigaaDoor
namespace Go.Proofs.YtobacplonkjigaaDoor
open Go.RowKit P
theorem mr{F:Nat→Prop}{X:GW}{σ:AS}{tm:Array Value}(h:SimE F X σ tm){B o:Nat}{cs:List AV}(hb:look σ.h B=some cs)(hm:fx cs=false){v:Value}(hu:cs[o]? =some (.v v)):X.w.cell? ⟨B,o,none⟩=some v∧X.w.frozen? ⟨B,o,none⟩=false:=by
 obtain⟨_,_,arr,e,fr,h1,h2,h3,h4⟩:=(h.box B cs hb).cells hm
 have ho:o < arr.size:=by rw[h2];exact(List.getElem?_eq_some_iff.1 hu).1
 have hx:arr[o]? =some arr[o] :=Array.getElem?_eq_getElem ho
 have:=bF (h4 o _ _ hu hx)
 refine⟨?_,h3 o⟩
 rw[World.cell?,h1]
 show arr[o]? =some v
 rw[hx,this]
def Ff(N:Nat)(m:List UInt8):Option (PR au):=eE ⟨N,gD N N⟩ m 0 0 0 []
def cmH(s:List UInt8)(at_ gr:Int)(n:Nat)(l:List Vstep):List (Nat × TB EE.T):=[(100000,.cs [.d .str s,.d (.int .i64) at_,.d (.int .i64) gr,.vec (.nam 4) 200001 n]),(200001,.vec 200001 (.nam 4) l)]
def cmR(kx:Nat):Rn:=⟨fun i=>if i=100000 then⟨kx,false,[]⟩ else⟨0,true,[]⟩⟩
abbrev u6(W:World)(kx:Nat)(b:Nat):Prop:=b < W.heap.size∧b≠kx
theorem Oi(m:List UInt8)(W:World)(kx:Nat)(T:TypeId)(hk:W.heap[kx]? =some (.cells #[.string (mkB m),.int .i64 0,.int .i64 0,.slice none 0 0] T (0,0))):SimE (u6 W kx) ⟨W,fun _=>none⟩ ⟨1,slotsOf 0 [.v (.pointer (some ⟨kx,0,none⟩))],[(kx,[.v (.string (mkB m)),.v (.int .i64 0),.v (.int .i64 0),.v (.slice none 0 0)])],[]⟩ #[.pointer (some ⟨kx,0,none⟩)] :=by
 refine⟨⟨rfl,fun b n h=>(by cases h),fun b h=>h.1,fun t u hu=> ?_,fun k cs hk'=> ?_,fun x r hx=>by simp[av] at hx,fun r sz l ho=> ?_,fun r r' sz l sz' l' a n c a' n' c' _ ho=> ?_⟩,fun p hp=>by cases hp⟩
 ·simp only[slotsOf,ab,av] at hu
  split at hu
  ·rename_i e;subst e;cases hu;exact .v _
  ·cases hu
 ·simp only[ab,av] at hk'
  split at hk'
  ·rename_i e
   subst e
   cases hk'
   refine eg.box ⟨rfl,fun h=>h.2 rfl,_,_,_,hk,rfl,fun o=>by simp[World.frozen?,hk],fun o u x hu hx=> ?_⟩
   match o,hu,hx with
   |0,hu,hx=>simp at hu hx;subst hu hx;exact .v _
   |1,hu,hx=>simp at hu hx;subst hu hx;exact .v _
   |2,hu,hx=>simp at hu hx;subst hu hx;exact .v _
   |3,hu,hx=>simp at hu hx;subst hu hx;exact .v _
   |n+4,hu,hx=>simp at hu
  ·cases hk'
 all_goals
  exfalso
  cases r with
  |s t=>
   simp only[AS.own,slotsOf,ab,av] at ho
   split at ho<;> cases ho
  |c k o=>
   simp only[AS.own,ab,av] at ho
   split at ho
   ·rename_i cs hcs
    split at hcs
    ·cases hcs
     match o,ho with
     |0,ho=>cases ho
     |1,ho=>cases ho
     |2,ho=>cases ho
     |3,ho=>cases ho
     |n+4,ho=>simp[cw] at ho
    ·cases hcs
   ·cases ho
theorem Gq{N:Nat}(m:List UInt8)(W:World)(kx:Nat)(T:TypeId)(hk:W.heap[kx]? =some (.cells #[.string (mkB m),.int .i64 0,.int .i64 0,.slice none 0 0] T (0,0))){r:PR au}(h:Ff N m=some r):
  Calls Tryd.prog 35 #[.pointer (some ⟨kx,0,none⟩)] W fun e w'=>∃X':GW,X'.w=w'∧Ext (u6 W kx) ⟨W,fun _=>none⟩ X'∧match r with
   |.ok z=>e=.returned (.bool z.1)∧∃ρ:Rn,ρ 100000=kx∧Inj ρ (cmH z.2.1 z.2.2.1 z.2.2.2.1 z.2.2.2.2.1 z.2.2.2.2.2)∧SimE (u6 W kx) X' ⟨1,[(0,.v (.bool z.1))],hTo EE.toEnc ρ (cmH z.2.1 z.2.2.1 z.2.2.2.1 z.2.2.2.2.1 z.2.2.2.2.2),[]⟩ #[.bool z.1]
   |.pan v=>e=.panicked [{ v:=v,recovered:=false }] :=by
 have hinj:Inj (cmR kx) (cmH m 0 0 0 []):=by
  intro p hp q hq
  simp only[cmH,List.mem_cons,List.not_mem_nil,or_false] at hp hq
  rcases hp with rfl|rfl<;> rcases hq with rfl|rfl
  ·exact⟨fun _ _ _=>rfl,fun _=>rfl⟩
  ·exact⟨(fun _ h2 _=>by cases h2),(fun h=>by cases h)⟩
  ·exact⟨(fun h1 _ _=>by cases h1),(fun h=>by cases h)⟩
  ·exact⟨fun _ _ _=>rfl,fun _=>rfl⟩
 have hc:=jw (kF N N) m 0 0 0 [] h (cmR kx) hinj
 refine(hc.2 (u6 W kx) ⟨W,fun _=>none⟩ #[.pointer (some ⟨kx,0,none⟩)] (Oi m W kx T hk)).mono ?_
 rintro e w' ⟨X',out,H',rfl,hp,he,hx⟩
 refine⟨X',rfl,hx,?_⟩
 obtain⟨q,ρ,rfl,ha,hq⟩:=hp
 cases r with
 |ok z=>
  obtain⟨rfl,rfl,hi⟩:=hq
  obtain⟨v,rfl,hs⟩:=he
  have hv:v=.bool z.1:=by
   have:=bF (hs.slot 0 (.v (.bool z.1)) (by exact aH))
   simpa using this
  subst hv
  refine⟨rfl,ρ,?_,hi,hs⟩
  have:=ha 100000 rfl
  show(ρ.k 100000).b=kx
  rw[this];rfl
 |pan v=>
  obtain⟨rfl,rfl⟩:=hq
  exact he.1
theorem SimE.args{F:Nat→Prop}{X:GW}{n:Nat}{t:List (Nat × AV)}{H:List (Nat × List AV)}{tm vs:Array Value}{us:List AV}(h:SimE F X ⟨n,t,H,[]⟩ tm)(hl:vs.size=us.length)(hu:∀ (i:Nat) u,us[i]? =some u→Rel X u (vs.getD i undef)∧cw (some u)=none):SimE F X ⟨us.length,slotsOf 0 us,H,[]⟩ vs:=by
 have hnoc:∀ (s sz:Nat) l,AS.own ⟨us.length,slotsOf 0 us,H,[]⟩ (.s s)=some (sz,l)→False:=fun s sz l ho=>by
  simp only[AS.own] at ho
  cases hlk:look (slotsOf 0 us) s with
  |none=>rw[hlk] at ho;cases ho
  |some u=>
   obtain⟨_,h2⟩:=cY us 0 s u hlk
   rw[Nat.sub_zero] at h2
   rw[hlk,(hu s u h2).2] at ho
   cases ho
 refine h.other hl h.fb (fun s u hs=> ?_) (fun k cs hk=>⟨hk,(h.box k cs hk).nF⟩) rfl (fun r=>r) (fun r sz l ho=>.inr ?_) (fun _ _ _ _ _ _ _ _ hne _ _ _ _=>hne)
 ·obtain⟨_,h2⟩:=cY us 0 s u hs
  rw[Nat.sub_zero] at h2
  exact(hu s u h2).1
 ·cases r with
  |s s=>exact(hnoc s sz l ho).elim
  |c k o=>exact⟨ho,rfl,fun q n c hr=>(h.own_nF (r:=.c k o) ho hr).1⟩
theorem Sg{F:Nat→Prop}{X:GW}{n:Nat}{t:List (Nat × AV)}{tm:Array Value}{kx:Nat}{ρ:Rn}{s:List UInt8}{at_ gr:Int}{k:Nat}{l:List Vstep}(hs:SimE F X ⟨n,t,hTo EE.toEnc ρ (cmH s at_ gr k l),[]⟩ tm)(hk:ρ 100000=kx)(hi:Inj ρ (cmH s at_ gr k l))(e a:Int):
  Calls Tryd.prog 36 #[.pointer (some ⟨kx,0,none⟩),.int .i64 e,.int .i64 a] X.w fun x w'=>x=.panicked [{ v:=faultV e a,recovered:=false }] ∧∃X':GW,X'.w=w'∧Ext F X X':=by
 have hc:=jz (N:=0) e a s at_ gr k l (r:=.pan (faultV e a)) rfl ρ hi
 subst hk
 refine(hc.2 F X #[.pointer (some ⟨ρ 100000,0,none⟩),.int .i64 e,.int .i64 a] (hs.args rfl fun i u hu=> ?_)).mono ?_
 ·match i,hu with
  |0,hu=>cases hu;exact⟨.v _,rfl⟩
  |1,hu=>cases hu;exact⟨.v _,rfl⟩
  |2,hu=>cases hu;exact⟨.v _,rfl⟩
  |n+3,hu=>cases hu
 ·rintro x w' ⟨X',out,H',rfl,hp,he,hx⟩
  obtain⟨q,ρ',rfl,ha,hq⟩:=hp
  obtain⟨rfl,rfl⟩:=hq
  exact⟨he.1,X',rfl,hx⟩
def In:Vstep:=⟨4,0,0,none⟩
theorem Wm{F:Nat→Prop}{X:GW}{n:Nat}{t:List (Nat × AV)}{tm:Array Value}{kx:Nat}{ρ:Rn}{s:List UInt8}{at_ gr:Int}{k:Nat}{l l':List Vstep}(hs:SimE F X ⟨n,t,hTo EE.toEnc ρ (cmH s at_ gr k l),[]⟩ tm)(hk:ρ 100000=kx)(hi:Inj ρ (cmH s at_ gr k l))(hv:vg 32 k l [In] =some l'):
  Calls Tryd.prog 37 #[.pointer (some ⟨kx,0,none⟩),.agg #[.int .i64 4,.int .i64 0,.int .i64 0,.pointer none]] X.w fun x w'=>(∃v,x=.returned v)∧∃X':GW,X'.w=w'∧Ext F X X'∧∃ (ρ':Rn) (t':List (Nat × AV)) (tm':Array Value),ρ' 100000=kx∧Inj ρ' (cmH s at_ gr l'.length l')∧SimE F X' ⟨1,t',hTo EE.toEnc ρ' (cmH s at_ gr l'.length l'),[]⟩ tm':=by
 have hc:=jX (N:=0) In s at_ gr k l (r:=.ok (w64 ((l'.length:Int) - 1),s,at_,gr,l'.length,l')) (by unfold ak;rw[hv];rfl) ρ hi
 subst hk
 refine(hc.2 F X #[.pointer (some ⟨ρ 100000,0,none⟩),.agg #[.int .i64 4,.int .i64 0,.int .i64 0,.pointer none]] (hs.args rfl fun i u hu=> ?_)).mono ?_
 ·match i,hu with
  |0,hu=>cases hu;exact⟨.v _,rfl⟩
  |1,hu=>
   cases hu
   refine⟨.ag _ #[_,_,_,_] rfl (fun i u x hu hx=> ?_),rfl⟩
   match i,hu,hx with
   |0,hu,hx=>cases hu;cases hx;exact .v _
   |1,hu,hx=>cases hu;cases hx;exact .v _
   |2,hu,hx=>cases hu;cases hx;exact .v _
   |3,hu,hx=>cases hu;cases hx;exact .v _
   |n+4,hu,hx=>cases hu
  |n+2,hu=>cases hu
 ·rintro x w' ⟨X',out,H',rfl,hp,he,hx⟩
  obtain⟨q,ρ',rfl,ha,hq⟩:=hp
  obtain⟨rfl,rfl,hi'⟩:=hq
  obtain⟨v,rfl,hs'⟩:=he
  exact⟨⟨v,rfl⟩,X',rfl,hx,ρ',_,_,congrArg Bk.b (ha 100000 rfl),hi',hs'⟩
end Go.Proofs.YtobacplonkjigaaDoor
