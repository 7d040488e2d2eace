import Derived.Test.YtlhjbhgkhpbnfaaCk07
import Derived.RegionTactic
import Derived.BigRegion
set_option linter.unusedSimpArgs false
set_option linter.unusedVariables false
set_option linter.defProp false
namespace Go.Proofs.Ytlhjbhgkhpbnfaa
open Go.RowKit P
set_option maxRecDepth 100000
def jk(r:Bool × VReader):TV EE.T:=.a (.d .bool r.1)
def DA(i0:Nat)(r:Bool × VReader):List (Nat × TB EE.T):=[(i0,.cs (cL EE (.nam 3) r.2))]
def uS(r:Bool × VReader):RL EE.T:=.ret (jk r) (DA 100000 r)
def Tz:Lvs:=⟨[(1,⟨[(0,false),(1,false)],[],[(100000,(some 3,[]))],[]⟩)],[],[],[],false,[(100000,(some 3,[]))],[100000],[],[]⟩
def RV:List ResultVar:=[.tmp 4]
def Q6(N:Nat):Gam EE:=⟨[],EQT,[],[]⟩
def NG(N:Nat):GOk Try.prog TT EE (Q6 N):=GOk.nil cQ
def L0(c:Code):List It2:=[.c c]
def NV(x1:UInt8)(y0:VReader):TS EE.T:=⟨28,[(0,.a (.box 100000 0)),(1,.a (.d .byte x1))],[(100000,.cs (cL EE (.nam 3) y0))],[]⟩
abbrev Uv(N:Nat)(r:Bool × VReader)(k:List It2)(s:TS EE.T):Prop:=fL (Y:=TT) EE (Q6 N) Tz RV (fun u=>u=uS r) k s
def Jg(x:Bool × VReader):Tree (Lf EE.T × Option (Bool × VReader)):=.leaf (.done (uS x),some x)
def QH{N:Nat}{r:Bool × VReader}(x1:UInt8)(y0:VReader)(h:aX N x1 y0=some r):Uv N r (L0 (aa 0 Try.f40)) (NV x1 y0):=
 au (m:=4000) (t:=
 .cond (decide (y0.At < (y0.M.length:Int)))
 (
  .bnd (ci y0.M y0.At) fun z1=>
  Jg ((b2i z1)==(b2i x1),y0))
 (
  Jg (false,y0))) (by kernel_rfl) (by kernel_rfl) h (⟨fun _=>aE (enc:=uS) rfl,aE (enc:=uS) rfl⟩)
def I1(x1:UInt8)(y0:VReader):List (TV EE.T):=[.a (.box 100000 0),.a (.d .byte x1)]
def Er(x1:UInt8)(y0:VReader):List (Nat × TB EE.T):=[(100000,.cs (cL EE (.nam 3) y0))]
def r7{N:Nat}(x1:UInt8)(y0:VReader){r:Bool × VReader}(h:aX N x1 y0=some r)(I:Rn)(hi:Inj I (Er x1 y0)):aI Try.prog 40 ((I1 x1 y0).map (TV.to EE.toEnc I)) (hTo EE.toEnc I (Er x1 y0)) (fun out H=>out=.ret ((jk r).to EE.toEnc I)/\H=hTo EE.toEnc I (DA 100000 r)):=
 (dI (aa 0 Try.f40) 28 mixed (NG N) Try.func40 (by kernel_rfl) rfl rfl rfl rfl (QH x1 y0 h) I hi).mono fun out H h=>cH.retH rfl rfl h
def fM(N:Nat)(us:List (TV EE.T))(hs:List (Nat × TB EE.T)):XR EE.T:=
 gdX (d7 us 2) <|
 bnX (aB us 0) fun i0=>
 bnX (aD .byte us 1) fun x1=>
 bnX (bS EE 3 hs i0) fun y0=>
 gdX (bx hs [i0]) <|
 .ret (aX N x1 y0) [i0] jk (DA i0)
def gc(N:Nat):XOk Try.prog EE 40 (fM N):=fun us hs=>
 ay fun h1=>ab fun i0 h2=>ab fun x1 h3=>ab fun y0 h4=>ay fun h5=>fun z hz=>⟨rfl,fun I hi=>nk (us':=I1 x1 y0) (h0:=Er x1 y0) (ρ':=jh I [i0]) hi h5 (by kernel_rfl) ⟨gG h2 (by kernel_rfl),gB h3,bA h1⟩ ⟨(by kernel_rfl),tW h4,trivial⟩ (fun hj=>r7 x1 y0 hz _ hj) (fun out H h=>⟨h.1.trans (by kernel_rfl),h.2.trans (by kernel_rfl)⟩)⟩
def iO(r:Bool × VReader):TV EE.T:=.a (.d .bool r.1)
def CE(i0:Nat)(r:Bool × VReader):List (Nat × TB EE.T):=[(i0,.cs (cL EE (.nam 3) r.2))]
def uA(r:Bool × VReader):RL EE.T:=.ret (iO r) (CE 100000 r)
def TY:Lvs:=⟨[],[],[],[],false,[(100000,(some 3,[]))],[100000],[],[]⟩
def Tv:List ResultVar:=[.tmp 4]
def Mm(N:Nat):Gam EE:=⟨[],EQT,[⟨40,fM N⟩],[]⟩
def Nb(N:Nat):GOk Try.prog TT EE (Mm N):=GOk.consx (gc N) (GOk.nil cQ)
def OX(c:Code):List It2:=[.c c]
def RC(x1:UInt8)(y0:VReader):TS EE.T:=⟨18,[(0,.a (.box 100000 0)),(1,.a (.d .byte x1))],[(100000,.cs (cL EE (.nam 3) y0))],[]⟩
abbrev Ul(N:Nat)(r:Bool × VReader)(k:List It2)(s:TS EE.T):Prop:=fL (Y:=TT) EE (Mm N) TY Tv (fun u=>u=uA r) k s
def JZ(x:Bool × VReader):Tree (Lf EE.T × Option (Bool × VReader)):=.leaf (.done (uA x),some x)
def OR{N:Nat}{r:Bool × VReader}(x1:UInt8)(y0:VReader)(h:aw N x1 y0=some r):Ul N r (OX (aa 0 Try.f44)) (RC x1 y0):=
 au (m:=4000) (t:=
 .bnd (aX N x1 y0) fun z1=>
 .cond (z1.1)
 (
  JZ (z1.1,({ M:=z1.2.M,At:=w64 (z1.2.At+1),Groups:=z1.2.Groups,F:=z1.2.F }:VReader)))
 (
  JZ (z1.1,z1.2))) (by kernel_rfl) (by kernel_rfl) h (fun _=>⟨aE (enc:=uA) rfl,aE (enc:=uA) rfl⟩)
def Ka(x1:UInt8)(y0:VReader):List (TV EE.T):=[.a (.box 100000 0),.a (.d .byte x1)]
def Ea(x1:UInt8)(y0:VReader):List (Nat × TB EE.T):=[(100000,.cs (cL EE (.nam 3) y0))]
def qG{N:Nat}(x1:UInt8)(y0:VReader){r:Bool × VReader}(h:aw N x1 y0=some r)(I:Rn)(hi:Inj I (Ea x1 y0)):aI Try.prog 44 ((Ka x1 y0).map (TV.to EE.toEnc I)) (hTo EE.toEnc I (Ea x1 y0)) (fun out H=>out=.ret ((iO r).to EE.toEnc I)/\H=hTo EE.toEnc I (CE 100000 r)):=
 (dI (aa 0 Try.f44) 18 mixed (Nb N) Try.func44 (by kernel_rfl) rfl rfl rfl rfl (OR x1 y0 h) I hi).mono fun out H h=>cH.retH rfl rfl h
def iT(N:Nat)(us:List (TV EE.T))(hs:List (Nat × TB EE.T)):XR EE.T:=
 gdX (d7 us 2) <|
 bnX (aB us 0) fun i0=>
 bnX (aD .byte us 1) fun x1=>
 bnX (bS EE 3 hs i0) fun y0=>
 gdX (bx hs [i0]) <|
 .ret (aw N x1 y0) [i0] iO (CE i0)
def ka(N:Nat):XOk Try.prog EE 44 (iT N):=fun us hs=>
 ay fun h1=>ab fun i0 h2=>ab fun x1 h3=>ab fun y0 h4=>ay fun h5=>fun z hz=>⟨rfl,fun I hi=>nk (us':=Ka x1 y0) (h0:=Ea x1 y0) (ρ':=jh I [i0]) hi h5 (by kernel_rfl) ⟨gG h2 (by kernel_rfl),gB h3,bA h1⟩ ⟨(by kernel_rfl),tW h4,trivial⟩ (fun hj=>qG x1 y0 hz _ hj) (fun out H h=>⟨h.1.trans (by kernel_rfl),h.2.trans (by kernel_rfl)⟩)⟩
def mh(r:Bool):TV EE.T:=.a (.d .bool r)
def o5(r:Bool):RL EE.T:=.ret (mh r) []
def XA:Lvs:=⟨[],[],[],[],false,[],[],[],[]⟩
def YC:List ResultVar:=[.tmp 2]
def Xv(N:Nat):Gam EE:=⟨[],EQT,[],[]⟩
def Wy(N:Nat):GOk Try.prog TT EE (Xv N):=GOk.nil cQ
def VT(c:Code):List It2:=[.c c]
def Wo(x0:UInt8):TS EE.T:=⟨21,[(0,.a (.d .byte x0))],[],[]⟩
abbrev X6(N:Nat)(r:Bool)(k:List It2)(s:TS EE.T):Prop:=fL (Y:=TT) EE (Xv N) XA YC (fun u=>u=o5 r) k s
def yA(x:Bool):Tree (Lf EE.T × Option Bool):=.leaf (.done (o5 x),some x)
def W9{N:Nat}{r:Bool}(x0:UInt8)(h:gU N x0=some r):X6 N r (VT (aa 0 Try.f56)) (Wo x0):=
 au (m:=4000) (t:=
 .cond (decide ((b2i x0)>=(b2i 97)))
 (
  .cond (decide ((b2i x0)<=(b2i 122)))
  (
   yA true)
  (
   .cond (decide ((b2i x0)>=(b2i 65)))
   (
    .cond (decide ((b2i x0)<=(b2i 90)))
    (
     yA true)
    (
     yA ((b2i x0)==(b2i 95))))
   (
    yA ((b2i x0)==(b2i 95)))))
 (
  .cond (decide ((b2i x0)>=(b2i 65)))
  (
   .cond (decide ((b2i x0)<=(b2i 90)))
   (
    yA true)
   (
    yA ((b2i x0)==(b2i 95))))
  (
   yA ((b2i x0)==(b2i 95))))) (by kernel_rfl) (by kernel_rfl) h (⟨⟨aE (enc:=o5) rfl,⟨⟨aE (enc:=o5) rfl,aE (enc:=o5) rfl⟩,aE (enc:=o5) rfl⟩⟩,⟨⟨aE (enc:=o5) rfl,aE (enc:=o5) rfl⟩,aE (enc:=o5) rfl⟩⟩)
def wH{N:Nat}(x0:UInt8){r:Bool}(h:gU N x0=some r)(I:Rn):aI Try.prog 56 (([.a (.d .byte x0)] :List (TV EE.T)).map (TV.to EE.toEnc I)) [] (fun out H=>out=.ret ((mh r).to EE.toEnc I)/\H=[]):=
 (uF (aa 0 Try.f56) 21 mixed (Wy N) Try.func56 (by kernel_rfl) rfl rfl rfl rfl (W9 x0 h) I).mono fun out H h=>cH.ret rfl h
def mn(N:Nat):List (TV EE.T)->PV EE.T
 | [u0] =>match nr .byte u0 with
   |some x0=>.opt (gU N x0) mh
   |_=>.bad
 |_=>.bad
def vE(N:Nat)(us:List (TV EE.T)):(mn N us).ok fun u=>∀I,aI Try.prog 56 (us.map (TV.to EE.toEnc I)) [] (fun out H=>out=.ret (u.to EE.toEnc I)/\H=[]):=by
 unfold mn;split
 ·split
  ·rename_i h0;intro z hz I;refine gz ?_ (wH _ hz I);exact⟨fB h0 I,trivial⟩
  ·trivial
 ·trivial
def lk(r:Bool):TV EE.T:=.a (.d .bool r)
def Di(r:Bool):RL EE.T:=.ret (lk r) []
def Y0:Lvs:=⟨[],[],[],[],false,[],[],[],[]⟩
def YJ:List ResultVar:=[.tmp 2]
def YW(N:Nat):Gam EE:=⟨[],EQT,[],[]⟩
def W3(N:Nat):GOk Try.prog TT EE (YW N):=GOk.nil cQ
def VS(c:Code):List It2:=[.c c]
def Wx(x0:UInt8):TS EE.T:=⟨9,[(0,.a (.d .byte x0))],[],[]⟩
abbrev YB(N:Nat)(r:Bool)(k:List It2)(s:TS EE.T):Prop:=fL (Y:=TT) EE (YW N) Y0 YJ (fun u=>u=Di r) k s
def Vj(x:Bool):Tree (Lf EE.T × Option Bool):=.leaf (.done (Di x),some x)
def Vx{N:Nat}{r:Bool}(x0:UInt8)(h:ej N x0=some r):YB N r (VS (aa 0 Try.f32)) (Wx x0):=
 au (m:=4000) (t:=
 .cond (decide ((b2i x0)>=(b2i 48)))
 (
  Vj (decide ((b2i x0)<=(b2i 57))))
 (
  Vj false)) (by kernel_rfl) (by kernel_rfl) h (⟨aE (enc:=Di) rfl,aE (enc:=Di) rfl⟩)
def vQ{N:Nat}(x0:UInt8){r:Bool}(h:ej N x0=some r)(I:Rn):aI Try.prog 32 (([.a (.d .byte x0)] :List (TV EE.T)).map (TV.to EE.toEnc I)) [] (fun out H=>out=.ret ((lk r).to EE.toEnc I)/\H=[]):=
 (uF (aa 0 Try.f32) 9 mixed (W3 N) Try.func32 (by kernel_rfl) rfl rfl rfl rfl (Vx x0 h) I).mono fun out H h=>cH.ret rfl h
def la(N:Nat):List (TV EE.T)->PV EE.T
 | [u0] =>match nr .byte u0 with
   |some x0=>.opt (ej N x0) lk
   |_=>.bad
 |_=>.bad
def uf(N:Nat)(us:List (TV EE.T)):(la N us).ok fun u=>∀I,aI Try.prog 32 (us.map (TV.to EE.toEnc I)) [] (fun out H=>out=.ret (u.to EE.toEnc I)/\H=[]):=by
 unfold la;split
 ·split
  ·rename_i h0;intro z hz I;refine gz ?_ (vQ _ hz I);exact⟨fB h0 I,trivial⟩
  ·trivial
 ·trivial
def g9(r:VReader):TV EE.T:=.tu []
def CZ(i0:Nat)(r:VReader):List (Nat × TB EE.T):=[(i0,.cs (cL EE (.nam 3) r))]
def uY(r:VReader):RL EE.T:=.ret (g9 r) (CZ 100000 r)
def St:Lvs:=⟨[],[],[],[],false,[(100000,(some 3,[]))],[100000],[],[]⟩
def SH:List ResultVar:=[]
def P9(N:Nat):Gam EE:=⟨[],EQT,[],[]⟩
def P1(N:Nat):GOk Try.prog TT EE (P9 N):=GOk.nil cQ
def NE(c:Code):List It2:=[.c c]
def QF(x1:Int)(x2:Int)(y0:VReader):TS EE.T:=⟨18,[(0,.a (.box 100000 0)),(1,.a (.d (.int .i64) x1)),(2,.a (.d (.int .i64) x2))],[(100000,.cs (cL EE (.nam 3) y0))],[]⟩
abbrev Ue(N:Nat)(r:VReader)(k:List It2)(s:TS EE.T):Prop:=fL (Y:=TT) EE (P9 N) St SH (fun u=>u=uY r) k s
def Jh(x:VReader):Tree (Lf EE.T × Option VReader):=.leaf (.done (uY x),some x)
def Nl{N:Nat}{r:VReader}(x1:Int)(x2:Int)(y0:VReader)(h:ai N x1 x2 y0=some r):Ue N r (NE (aa 0 Try.f24)) (QF x1 x2 y0):=
 au (m:=4000) (t:=
 .cond (y0.F.Err==0)
 (
  Jh ({ M:=y0.M,At:=y0.At,Groups:=y0.Groups,F:=({ Err:=x1,At:=x2 }:VFault) }:VReader))
 (
  Jh y0)) (by kernel_rfl) (by kernel_rfl) h (⟨aE (enc:=uY) rfl,aE (enc:=uY) rfl⟩)
def Jr(x1:Int)(x2:Int)(y0:VReader):List (TV EE.T):=[.a (.box 100000 0),.a (.d (.int .i64) x1),.a (.d (.int .i64) x2)]
def DS(x1:Int)(x2:Int)(y0:VReader):List (Nat × TB EE.T):=[(100000,.cs (cL EE (.nam 3) y0))]
def oV{N:Nat}(x1:Int)(x2:Int)(y0:VReader){r:VReader}(h:ai N x1 x2 y0=some r)(I:Rn)(hi:Inj I (DS x1 x2 y0)):aI Try.prog 24 ((Jr x1 x2 y0).map (TV.to EE.toEnc I)) (hTo EE.toEnc I (DS x1 x2 y0)) (fun out H=>out=.ret ((g9 r).to EE.toEnc I)/\H=hTo EE.toEnc I (CZ 100000 r)):=
 (dI (aa 0 Try.f24) 18 mixed (P1 N) Try.func24 (by kernel_rfl) rfl rfl rfl rfl (Nl x1 x2 y0 h) I hi).mono fun out H h=>cH.retH rfl rfl h
def fT(N:Nat)(us:List (TV EE.T))(hs:List (Nat × TB EE.T)):XR EE.T:=
 gdX (d7 us 3) <|
 bnX (aB us 0) fun i0=>
 bnX (aD (.int .i64) us 1) fun x1=>
 bnX (aD (.int .i64) us 2) fun x2=>
 bnX (bS EE 3 hs i0) fun y0=>
 gdX (bx hs [i0]) <|
 .ret (ai N x1 x2 y0) [i0] g9 (CZ i0)
def gF(N:Nat):XOk Try.prog EE 24 (fT N):=fun us hs=>
 ay fun h1=>ab fun i0 h2=>ab fun x1 h3=>ab fun x2 h4=>ab fun y0 h5=>ay fun h6=>fun z hz=>⟨rfl,fun I hi=>nk (us':=Jr x1 x2 y0) (h0:=DS x1 x2 y0) (ρ':=jh I [i0]) hi h6 (by kernel_rfl) ⟨gG h2 (by kernel_rfl),gB h3,gB h4,bA h1⟩ ⟨(by kernel_rfl),tW h5,trivial⟩ (fun hj=>oV x1 x2 y0 hz _ hj) (fun out H h=>⟨h.1.trans (by kernel_rfl),h.2.trans (by kernel_rfl)⟩)⟩
def qR(r:List Bool):TV EE.T:=.a (.d (.sl .bool) r)
def HI(r:List Bool):RL EE.T:=.ret (qR r) []
def X8:Lvs:=⟨[],[],[],[],false,[],[],[(3,[.cl 4 (.v .bool) (.s 3)])],[]⟩
def YA:List ResultVar:=[.tmp 2]
def YK(N:Nat):Gam EE:=⟨[],EQT,[],[4]⟩
def Xg(N:Nat):GOk Try.prog TT EE (YK N):=GOk.nil cQ
def Wh(c:Code):List It2:=[.c c]
def VX(x0:UInt8):TS EE.T:=⟨9,[(0,.a (.d .byte x0))],[],[]⟩
abbrev Y2(N:Nat)(r:List Bool)(k:List It2)(s:TS EE.T):Prop:=fL (Y:=TT) EE (YK N) X8 YA (fun u=>u=HI r) k s
def XN(x:List Bool):Tree (Lf EE.T × Option (List Bool)):=.leaf (.done (HI x),some x)
def Wk{N:Nat}{r:List Bool}(x0:UInt8)(h:gY N x0=some r):Y2 N r (Wh (aa 0 Try.f57)) (VX x0):=
 au (m:=4000) (t:=
 .bnd (o9 1 256 256) fun z1=>
 .bnd (cf z1.1 (b2i x0)) fun z2=>
 .bnd (ja (List.replicate z1.2 false) (0+z2) true) fun z3=>
 .bnd (wJ z1.1 z1.2 z3) fun z4=>
 XN z4) (by kernel_rfl) (by kernel_rfl) h (fun _=>fun _=>fun _=>fun _=>aE (enc:=HI) rfl)
def Ep{N:Nat}(x0:UInt8){r:List Bool}(h:gY N x0=some r)(I:Rn):aI Try.prog 57 (([.a (.d .byte x0)] :List (TV EE.T)).map (TV.to EE.toEnc I)) [] (fun out H=>out=.ret ((qR r).to EE.toEnc I)/\H=[]):=
 (uF (aa 0 Try.f57) 9 mixed (Xg N) Try.func57 (by kernel_rfl) rfl rfl rfl rfl (Wk x0 h) I).mono fun out H h=>cH.ret rfl h
def pR(N:Nat):List (TV EE.T)->PV EE.T
 | [u0] =>match nr .byte u0 with
   |some x0=>.opt (gY N x0) qR
   |_=>.bad
 |_=>.bad
def AB(N:Nat)(us:List (TV EE.T)):(pR N us).ok fun u=>∀I,aI Try.prog 57 (us.map (TV.to EE.toEnc I)) [] (fun out H=>out=.ret (u.to EE.toEnc I)/\H=[]):=by
 unfold pR;split
 ·split
  ·rename_i h0;intro z hz I;refine gz ?_ (Ep _ hz I);exact⟨fB h0 I,trivial⟩
  ·trivial
 ·trivial
def g8(r:Bool × VReader):TV EE.T:=.a (.d .bool r.1)
def Eb(i0:Nat)(r:Bool × VReader):List (Nat × TB EE.T):=[(i0,.cs (cL EE (.nam 3) r.2))]
def uE(r:Bool × VReader):RL EE.T:=.ret (g8 r) (Eb 100000 r)
def SY:Lvs:=⟨[],[(2,⟨[(0,false),(1,false),(5,false)],[],[(100000,(some 3,[]))],[]⟩)],[],[],false,[(100000,(some 3,[]))],[100000],[],[]⟩
def Uk:List ResultVar:=[.tmp 4]
def O0(N:Nat):Gam EE:=⟨[],EQT,[⟨40,fM N⟩],[]⟩
def Nk(N:Nat):GOk Try.prog TT EE (O0 N):=GOk.consx (gc N) (GOk.nil cQ)
def Hu(c:Code):List It2:=atL 2 c
def Fy(x1:List UInt8)(x5:Int)(Zf:VReader):TS EE.T:=⟨17,[(0,.a (.box 100000 0)),(1,.a (.d .str x1)),(5,.a (.d (.int .i64) x5))],[(100000,.cs (cL EE (.nam 3) Zf))],[]⟩
def Pb(c:Code):List It2:=[.c c]
def OG(x1:List UInt8)(y0:VReader):TS EE.T:=⟨17,[(0,.a (.box 100000 0)),(1,.a (.d .str x1))],[(100000,.cs (cL EE (.nam 3) y0))],[]⟩
def EM(c:Code)(f:(List UInt8)->Int->VReader->Option (Bool × VReader))(x1:List UInt8)(x5:Int)(Zf:VReader):Tree (Lf EE.T × Option (Bool × VReader)):=.leaf (.go (Hu c) (Fy x1 x5 Zf),f x1 x5 Zf)
abbrev JL(N:Nat)(r:Bool × VReader)(k:List It2)(s:TS EE.T):Prop:=fL (Y:=TT) EE (O0 N) SY Uk (fun u=>u=uE r) k s
def IR(x:Bool × VReader):Tree (Lf EE.T × Option (Bool × VReader)):=.leaf (.done (uE x),some x)
def Gm{N:Nat}{r:Bool × VReader}:∀ (n:Nat) (x1:List UInt8) (x5:Int) (Zf:VReader),cP N n x1 x5 Zf=some r->JL N r (Hu (aa 0 Try.f42)) (Fy x1 x5 Zf)
 |0,_,_,_,h=>by cases h
 |n+1,x1,x5,Zf,h=>au (m:=4000) (t:=
  .cond (decide (x5 < (x1.length:Int)))
  (
   .bnd (ci x1 x5) fun z1=>
   .bnd (aX N z1 Zf) fun z2=>
   .cond (z2.1)
   (
    IR (true,z2.2))
   (
    EM (aa 0 Try.f42) (cP N n) x1 (w64 (x5+1)) z2.2))
  (
   IR (false,Zf))) (by kernel_rfl) (by kernel_rfl) h (⟨fun _=>fun _=>⟨aE (enc:=uE) rfl,fun h=>(Gm n) _ _ _ h⟩,aE (enc:=uE) rfl⟩)
def Md{N:Nat}{r:Bool × VReader}(x1:List UInt8)(y0:VReader)(h:a8 N x1 y0=some r):JL N r (Pb (aa 0 Try.f42)) (OG x1 y0):=
 au (m:=4000) (t:=
 EM (aa 0 Try.f42) (cP N N) x1 0 y0) (by kernel_rfl) (by kernel_rfl) h (fun h=>Gm N _ _ _ h)
def I3(x1:List UInt8)(y0:VReader):List (TV EE.T):=[.a (.box 100000 0),.a (.d .str x1)]
def CO(x1:List UInt8)(y0:VReader):List (Nat × TB EE.T):=[(100000,.cs (cL EE (.nam 3) y0))]
def oC{N:Nat}(x1:List UInt8)(y0:VReader){r:Bool × VReader}(h:a8 N x1 y0=some r)(I:Rn)(hi:Inj I (CO x1 y0)):aI Try.prog 42 ((I3 x1 y0).map (TV.to EE.toEnc I)) (hTo EE.toEnc I (CO x1 y0)) (fun out H=>out=.ret ((g8 r).to EE.toEnc I)/\H=hTo EE.toEnc I (Eb 100000 r)):=
 (dI (aa 0 Try.f42) 17 mixed (Nk N) Try.func42 (by kernel_rfl) rfl rfl rfl rfl (Md x1 y0 h) I hi).mono fun out H h=>cH.retH rfl rfl h
def g7(N:Nat)(us:List (TV EE.T))(hs:List (Nat × TB EE.T)):XR EE.T:=
 gdX (d7 us 2) <|
 bnX (aB us 0) fun i0=>
 bnX (aD .str us 1) fun x1=>
 bnX (bS EE 3 hs i0) fun y0=>
 gdX (bx hs [i0]) <|
 .ret (a8 N x1 y0) [i0] g8 (Eb i0)
def jm(N:Nat):XOk Try.prog EE 42 (g7 N):=fun us hs=>
 ay fun h1=>ab fun i0 h2=>ab fun x1 h3=>ab fun y0 h4=>ay fun h5=>fun z hz=>⟨rfl,fun I hi=>nk (us':=I3 x1 y0) (h0:=CO x1 y0) (ρ':=jh I [i0]) hi h5 (by kernel_rfl) ⟨gG h2 (by kernel_rfl),gB h3,bA h1⟩ ⟨(by kernel_rfl),tW h4,trivial⟩ (fun hj=>oC x1 y0 hz _ hj) (fun out H h=>⟨h.1.trans (by kernel_rfl),h.2.trans (by kernel_rfl)⟩)⟩
def tb(r:Bool):TV EE.T:=.a (.d .bool r)
def rR(r:Bool):List (Nat × TB EE.T):=[]
def gT(N:RecC4)(us:List (TV EE.T))(hs:List (Nat × TB EE.T)):XR EE.T:=
 gdX (d7 us 1) <|
 bnX (aD (.sl (.sl (.nam 11))) us 0) fun x0=>
 gdX (bx hs []) <|
 .may (kp N x0) [] tb (rR)
def vX(N:RecC4):Prop:=XOk Try.prog EE 43 (gT N)
def qr(N:RecC4)(hN:vX N):XOk Try.prog EE 43 (gT N):=hN
def Lx(n:Nat):vX ⟨n,fun _=>none⟩:=fun us hs=>
 ay fun h1=>ab fun x0 h2=>ay fun h3=>fun p hz=>by cases hz
def iS(r:Bool):TV EE.T:=.a (.d .bool r)
def D5(r:Bool):List (Nat × TB EE.T):=[]
def qa(r:PR Bool):RL EE.T:=match r with
 |.ok z=>.ret (iS z) (D5 z)
 |.pan v=>.pan v
def RZ:Lvs:=⟨[(7,⟨[(0,false),(3,false),(4,false),(5,false)],[],[],[]⟩)],[(2,⟨[(0,false),(3,false)],[],[],[]⟩),(6,⟨[(0,false),(3,false),(4,false),(5,false)],[],[],[]⟩)],[7],[],false,[],[],[],[]⟩
def SI:List ResultVar:=[.tmp 2]
def P5(N:RecC4):Gam EE:=⟨[],EQT,[⟨43,gT N⟩],[]⟩
def PW(N:RecC4)(hN:vX N):GOk Try.prog TT EE (P5 N):=GOk.consx (qr N hN) (GOk.nil cQ)
def Ge(c:Code):List It2:=atR 7 c
def Gq(x0:List (List VPiece))(x3:Int)(x4:Bool)(x5:Int):TS EE.T:=⟨50,[(0,.a (.d (.sl (.sl (.nam 11))) x0)),(3,.a (.d (.int .i64) x3)),(4,.a (.d .bool x4)),(5,.a (.d (.int .i64) x5))],[],[]⟩
def zJ(c:Code):List It2:=atL 6 c
def yL(x0:List (List VPiece))(x3:Int)(x4:Bool)(x5:Int):TS EE.T:=⟨50,[(0,.a (.d (.sl (.sl (.nam 11))) x0)),(3,.a (.d (.int .i64) x3)),(4,.a (.d .bool x4)),(5,.a (.d (.int .i64) x5))],[],[]⟩
def uG(c:Code):List It2:=atL 2 c
def ue(x0:List (List VPiece))(x3:Int):TS EE.T:=⟨50,[(0,.a (.d (.sl (.sl (.nam 11))) x0)),(3,.a (.d (.int .i64) x3))],[],[]⟩
def Oc(c:Code):List It2:=[.c c]
def My(x0:List (List VPiece)):TS EE.T:=⟨50,[(0,.a (.d (.sl (.sl (.nam 11))) x0))],[],[]⟩
def pQ(c:Code)(f:(List (List VPiece))->Int->Bool->Int->Option (PR Bool))(x0:List (List VPiece))(x3:Int)(x4:Bool)(x5:Int):Tree (Lf EE.T × Option (PR Bool)):=.leaf (.go (Ge c) (Gq x0 x3 x4 x5),f x0 x3 x4 x5)
def GJ(c:Code)(f:(List (List VPiece))->Int->Bool->Int->Option (PR Bool))(x0:List (List VPiece))(x3:Int)(x4:Bool)(x5:Int):Tree (Lf EE.T × Option (PR Bool)):=.leaf (.go (zJ c) (yL x0 x3 x4 x5),f x0 x3 x4 x5)
def Gn(c:Code)(f:(List (List VPiece))->Int->Option (PR Bool))(x0:List (List VPiece))(x3:Int):Tree (Lf EE.T × Option (PR Bool)):=.leaf (.go (uG c) (ue x0 x3),f x0 x3)
abbrev oR(N:RecC4)(r:PR Bool)(k:List It2)(s:TS EE.T):Prop:=fL (Y:=TT) EE (P5 N) RZ SI (fun u=>u=qa r) k s
def CC(x:PR Bool):Tree (Lf EE.T × Option (PR Bool)):=.leaf (.done (qa x),some x)
def qE{N:RecC4}{r:PR Bool}{k6:(List (List VPiece))->Int->Bool->Int->Option (PR Bool)}{k2:(List (List VPiece))->Int->Option (PR Bool)}(hk6:∀x0 x3 x4 x5,k6 x0 x3 x4 x5=some r->oR N r (zJ (aa 0 Try.f43)) (yL x0 x3 x4 x5))(hk2:∀x0 x3,k2 x0 x3=some r->oR N r (uG (aa 0 Try.f43)) (ue x0 x3))(n:Nat)(x0:List (List VPiece))(x3:Int)(x4:Bool)(x5:Int)(h:bL N k6 k2 n x0 x3 x4 x5=some r):oR N r (Ge (aa 0 Try.f43)) (Gq x0 x3 x4 x5):=
 au (m:=4000) (t:=
 GJ (aa 0 Try.f43) k6 x0 x3 x4 (w64 (x5+1))) (by kernel_rfl) (by kernel_rfl) h (fun h=>hk6 _ _ _ _ h)
def oA{N:RecC4}{r:PR Bool}{k2:(List (List VPiece))->Int->Option (PR Bool)}(hk2:∀x0 x3,k2 x0 x3=some r->oR N r (uG (aa 0 Try.f43)) (ue x0 x3)):∀ (n:Nat) (x0:List (List VPiece)) (x3:Int) (x4:Bool) (x5:Int),a7 N k2 n x0 x3 x4 x5=some r->oR N r (zJ (aa 0 Try.f43)) (yL x0 x3 x4 x5)
 |0,_,_,_,_,h=>by cases h
 |n+1,x0,x3,x4,x5,h=>au (m:=4000) (t:=
  .bnd (ci x0 x3) fun z1=>
  .cond (decide (x5 < (z1.length:Int)))
  (
   .bnd (ci x0 x3) fun z2=>
   .bnd (ci z2 x5) fun z3=>
   .cond (x4)
   (
    .cond ((b2i z3.Sign)==(b2i 42))
    (
     pQ (aa 0 Try.f43) (bL N (a7 N k2 n) k2 n) x0 x3 true x5)
    (
     .cond ((b2i z3.Sign)==(b2i 63))
     (
      pQ (aa 0 Try.f43) (bL N (a7 N k2 n) k2 n) x0 x3 true x5)
     (
      .cond (z3.Group)
      (
       .bnd (kp N z3.Rows) fun z4=>
       .sm z4 (fun z5=>
        pQ (aa 0 Try.f43) (bL N (a7 N k2 n) k2 n) x0 x3 z5 x5) (fun vz4=>
        CC (.pan vz4)))
      (
       pQ (aa 0 Try.f43) (bL N (a7 N k2 n) k2 n) x0 x3 false x5))))
   (
    pQ (aa 0 Try.f43) (bL N (a7 N k2 n) k2 n) x0 x3 false x5))
  (
   .cond (x4)
   (
    CC (.ok true))
   (
    Gn (aa 0 Try.f43) k2 x0 (w64 (x3+1))))) (by kernel_rfl) (by kernel_rfl) h (fun _=>⟨fun _=>fun _=>⟨⟨fun h=>qE (oA hk2 n) hk2 n _ _ _ _ h,⟨fun h=>qE (oA hk2 n) hk2 n _ _ _ _ h,⟨fun _=>⟨fun _=>fun h=>qE (oA hk2 n) hk2 n _ _ _ _ h,fun _=>aE (enc:=qa) rfl⟩,fun h=>qE (oA hk2 n) hk2 n _ _ _ _ h⟩⟩⟩,fun h=>qE (oA hk2 n) hk2 n _ _ _ _ h⟩,⟨aE (enc:=qa) rfl,fun h=>hk2 _ _ h⟩⟩)
def FI{N:RecC4}{r:PR Bool}:∀ (n:Nat) (x0:List (List VPiece)) (x3:Int),bD N n x0 x3=some r->oR N r (uG (aa 0 Try.f43)) (ue x0 x3)
 |0,_,_,h=>by cases h
 |n+1,x0,x3,h=>au (m:=4000) (t:=
  .cond (decide (x3 < (x0.length:Int)))
  (
   GJ (aa 0 Try.f43) (a7 N (bD N n) n) x0 x3 true 0)
  (
   CC (.ok false))) (by kernel_rfl) (by kernel_rfl) h (⟨fun h=>oA (FI n) n _ _ _ _ h,aE (enc:=qa) rfl⟩)
def ND{N:RecC4}{r:PR Bool}(x0:List (List VPiece))(h:hZ N x0=some r):oR N r (Oc (aa 0 Try.f43)) (My x0):=
 au (m:=4000) (t:=
 Gn (aa 0 Try.f43) (bD N N.n) x0 0) (by kernel_rfl) (by kernel_rfl) h (fun h=>FI N.n _ _ h)
def IJ(x0:List (List VPiece)):List (TV EE.T):=[.a (.d (.sl (.sl (.nam 11))) x0)]
def Dc(x0:List (List VPiece)):List (Nat × TB EE.T):=[]
def qu{N:RecC4}(hN:vX N)(x0:List (List VPiece)){r:PR Bool}(h:hZ N x0=some r)(I:Rn)(hi:Inj I (Dc x0)):aI Try.prog 43 ((IJ x0).map (TV.to EE.toEnc I)) (hTo EE.toEnc I (Dc x0)) (fun out H=>match r with|.ok z=>out=.ret ((iS z).to EE.toEnc I)/\H=hTo EE.toEnc I (D5 z)|.pan v=>out=.pan v):=
 (dI (aa 0 Try.f43) 50 mixed (PW N hN) Try.func43 (by kernel_rfl) rfl rfl rfl rfl (ND x0 h) I hi).mono fun out H h=>by cases r with|ok z=>exact cH.retH rfl rfl h|pan v=>exact cH.pan h
def rQ(N:RecC4)(us:List (TV EE.T))(hs:List (Nat × TB EE.T)):XR EE.T:=
 gdX (d7 us 1) <|
 bnX (aD (.sl (.sl (.nam 11))) us 0) fun x0=>
 gdX (bx hs []) <|
 .may (hZ N x0) [] iS (D5)
def pu(N:RecC4)(hN:vX N):XOk Try.prog EE 43 (rQ N):=fun us hs=>
 ay fun h1=>ab fun x0 h2=>ay fun h3=>fun p hz=>⟨fun z e=>rfl,fun I hi=>nk (us':=IJ x0) (h0:=Dc x0) (ρ':=jh I []) hi h3 (by kernel_rfl) ⟨gB h2,bA h1⟩ trivial (fun hj=>qu hN x0 hz _ hj) (fun out H h=>by cases p with|ok z=>exact⟨h.1.trans (by kernel_rfl),h.2.trans (by kernel_rfl)⟩|pan v=>exact h)⟩
def lW(n0:Nat):∀m,vX ⟨n0,bG n0 m⟩
 |0=>Lx n0
 |m+1=>pu ⟨n0,bG n0 m⟩ (lW n0 m)
def my(N:Nat):List (TV EE.T)->List (Nat × TB EE.T)->XR EE.T:=gT ⟨N,bG N N⟩
def qD(N:Nat):XOk Try.prog EE 43 (my N):=lW N N
def rW(r:(List (List VPiece)) × VReader):TV EE.T:=.a (.d (.sl (.sl (.nam 11))) r.1)
def p9(i0:Nat)(r:(List (List VPiece)) × VReader):List (Nat × TB EE.T):=[(i0,.cs (cL EE (.nam 3) r.2))]
def gu(N:RecC3)(us:List (TV EE.T))(hs:List (Nat × TB EE.T)):XR EE.T:=
 gdX (d7 us 1) <|
 bnX (aB us 0) fun i0=>
 bnX (bS EE 3 hs i0) fun y0=>
 gdX (bx hs [i0]) <|
 .may (jI N y0) [i0] rW (p9 i0)
def oO(N:RecC3):Prop:=XOk Try.prog EE 23 (gu N)
def pA(N:RecC3)(hN:oO N):XOk Try.prog EE 23 (gu N):=hN
def KT(n:Nat):oO ⟨n,fun _=>none⟩:=fun us hs=>
 ay fun h1=>ab fun i0 h2=>ab fun y0 h3=>ay fun h4=>fun p hz=>by cases hz
def iu(r:aj):TV EE.T:=.ag (cL EE (.nam 11) r.1)
def CI(i0:Nat)(r:aj):List (Nat × TB EE.T):=[(i0,.cs (cL EE (.nam 3) r.2))]
def dU(r:PR aj):RL EE.T:=match r with
 |.ok z=>.ret (iu z) (CI 100000 z)
 |.pan v=>.pan v
def TN:Lvs:=⟨[(1,⟨[(0,false),(2,false)],[],[(2,(none,[])),(100000,(some 3,[]))],[]⟩),(10,⟨[(0,false),(2,false)],[],[(2,(none,[])),(100000,(some 3,[]))],[]⟩),(13,⟨[(0,false),(2,false)],[],[(2,(none,[])),(100000,(some 3,[]))],[]⟩),(14,⟨[(0,false),(2,false)],[],[(2,(none,[])),(100000,(some 3,[]))],[]⟩),(21,⟨[(0,false),(2,false),(6,false),(7,false)],[],[(2,(none,[])),(117,(none,[])),(100000,(some 3,[]))],[]⟩),(24,⟨[(0,false),(2,false),(6,false),(7,false)],[],[(2,(none,[])),(117,(none,[])),(100000,(some 3,[]))],[]⟩),(28,⟨[(0,false),(2,false),(6,false),(7,false),(9,false)],[],[(2,(none,[])),(117,(none,[])),(100000,(some 3,[]))],[]⟩),(31,⟨[(0,false),(2,false),(6,false),(7,false),(9,false)],[],[(2,(none,[])),(117,(none,[])),(100000,(some 3,[]))],[]⟩),(36,⟨[(0,false),(2,false),(6,false),(7,false),(9,false),(10,false)],[],[(2,(none,[])),(117,(none,[])),(100000,(some 3,[]))],[]⟩)],[(5,⟨[(2,false),(4,false),(5,false)],[],[(2,(none,[])),(27,(none,[])),(100000,(some 3,[]))],[]⟩),(19,⟨[(0,false),(2,false),(6,false),(7,false),(8,false)],[],[(2,(none,[])),(117,(none,[])),(100000,(some 3,[]))],[]⟩),(37,⟨[(0,false),(2,false),(6,false),(7,false),(10,false),(11,false)],[],[(2,(none,[])),(117,(none,[])),(100000,(some 3,[]))],[]⟩),(41,⟨[(2,false),(6,false),(7,false),(12,false)],[],[(2,(none,[])),(117,(none,[])),(100000,(some 3,[]))],[]⟩)],[13,21,36],[],false,[(2,(some 11,[])),(100000,(some 3,[]))],[100000],[(8,[.cl 27 (.v .bool) (.s 4)]),(44,[.cl 117 (.v .bool) (.s 7)])],[]⟩
def Tf:List ResultVar:=[.cell 2 111]
def O6(N:RecC3):Gam EE:=⟨[⟨56,mn N.n⟩,⟨32,la N.n⟩,⟨57,pR N.n⟩],EQT,[⟨44,iT N.n⟩,⟨42,g7 N.n⟩,⟨23,gu N⟩,⟨40,fM N.n⟩,⟨24,fT N.n⟩],[27,117]⟩
def QU(N:RecC3)(hN:oO N):GOk Try.prog TT EE (O6 N):=GOk.cons (vE N.n) (GOk.cons (uf N.n) (GOk.cons (AB N.n) (GOk.consx (ka N.n) (GOk.consx (jm N.n) (GOk.consx (pA N hN) (GOk.consx (gc N.n) (GOk.consx (gF N.n) (GOk.nil cQ))))))))
def G1(c:Code):List It2:=atL 5 c
def Fo(x4_n:Nat)(x4_c:Nat)(x5:Int)(b2_0:Bool)(b2_1:List Bool)(b2_2:Int)(b2_3:List (List VPiece))(b2_4:UInt8)(b27:List Bool)(Zf:VReader):TS EE.T:=⟨312,[(2,.a (.box 2 0)),(4,.a (.bsl 27 0 x4_n x4_c)),(5,.a (.d (.int .i64) x5))],[(2,.cs [.d .bool b2_0,.own .bool b2_1,.d (.int .i64) b2_2,.own (.sl (.nam 11)) b2_3,.d .byte b2_4]),(27,.row .bool b27),(100000,.cs (cL EE (.nam 3) Zf))],[]⟩
def AZ(c:Code):List It2:=atR 13 c
def BW(b2_0:Bool)(b2_1:List Bool)(b2_2:Int)(b2_3:List (List VPiece))(b2_4:UInt8)(Zf:VReader):TS EE.T:=⟨312,[(0,.a (.box 100000 0)),(2,.a (.box 2 0))],[(2,.cs [.d .bool b2_0,.own .bool b2_1,.d (.int .i64) b2_2,.own (.sl (.nam 11)) b2_3,.d .byte b2_4]),(100000,.cs (cL EE (.nam 3) Zf))],[]⟩
def Bg(c:Code):List It2:=atL 37 c
def BH(x6:Bool)(x7_n:Nat)(x7_c:Nat)(x10:Int)(x11:Int)(b2_0:Bool)(b2_1:List Bool)(b2_2:Int)(b2_3:List (List VPiece))(b2_4:UInt8)(b117:List Bool)(Zf:VReader):TS EE.T:=⟨312,[(0,.a (.box 100000 0)),(2,.a (.box 2 0)),(6,.a (.d .bool x6)),(7,.a (.bsl 117 0 x7_n x7_c)),(10,.a (.d (.int .i64) x10)),(11,.a (.d (.int .i64) x11))],[(2,.cs [.d .bool b2_0,.own .bool b2_1,.d (.int .i64) b2_2,.own (.sl (.nam 11)) b2_3,.d .byte b2_4]),(117,.row .bool b117),(100000,.cs (cL EE (.nam 3) Zf))],[]⟩
def BR(c:Code):List It2:=atR 36 c
def BQ(x6:Bool)(x7_n:Nat)(x7_c:Nat)(x9:Int)(x10:Int)(b2_0:Bool)(b2_1:List Bool)(b2_2:Int)(b2_3:List (List VPiece))(b2_4:UInt8)(b117:List Bool)(Zf:VReader):TS EE.T:=⟨312,[(0,.a (.box 100000 0)),(2,.a (.box 2 0)),(6,.a (.d .bool x6)),(7,.a (.bsl 117 0 x7_n x7_c)),(9,.a (.d (.int .i64) x9)),(10,.a (.d (.int .i64) x10))],[(2,.cs [.d .bool b2_0,.own .bool b2_1,.d (.int .i64) b2_2,.own (.sl (.nam 11)) b2_3,.d .byte b2_4]),(117,.row .bool b117),(100000,.cs (cL EE (.nam 3) Zf))],[]⟩
def Cg(c:Code):List It2:=atR 21 c
def AI(x6:Bool)(x7_n:Nat)(x7_c:Nat)(b2_0:Bool)(b2_1:List Bool)(b2_2:Int)(b2_3:List (List VPiece))(b2_4:UInt8)(b117:List Bool)(Zf:VReader):TS EE.T:=⟨312,[(0,.a (.box 100000 0)),(2,.a (.box 2 0)),(6,.a (.d .bool x6)),(7,.a (.bsl 117 0 x7_n x7_c))],[(2,.cs [.d .bool b2_0,.own .bool b2_1,.d (.int .i64) b2_2,.own (.sl (.nam 11)) b2_3,.d .byte b2_4]),(117,.row .bool b117),(100000,.cs (cL EE (.nam 3) Zf))],[]⟩
def AK(c:Code):List It2:=atL 41 c
def BB(x6:Bool)(x7_n:Nat)(x7_c:Nat)(x12:Int)(b2_0:Bool)(b2_1:List Bool)(b2_2:Int)(b2_3:List (List VPiece))(b2_4:UInt8)(b117:List Bool)(Zf:VReader):TS EE.T:=⟨312,[(2,.a (.box 2 0)),(6,.a (.d .bool x6)),(7,.a (.bsl 117 0 x7_n x7_c)),(12,.a (.d (.int .i64) x12))],[(2,.cs [.d .bool b2_0,.own .bool b2_1,.d (.int .i64) b2_2,.own (.sl (.nam 11)) b2_3,.d .byte b2_4]),(117,.row .bool b117),(100000,.cs (cL EE (.nam 3) Zf))],[]⟩
def oz(c:Code):List It2:=atL 19 c
def oc(x6:Bool)(x7_n:Nat)(x7_c:Nat)(x8:Bool)(b2_0:Bool)(b2_1:List Bool)(b2_2:Int)(b2_3:List (List VPiece))(b2_4:UInt8)(b117:List Bool)(Zf:VReader):TS EE.T:=⟨312,[(0,.a (.box 100000 0)),(2,.a (.box 2 0)),(6,.a (.d .bool x6)),(7,.a (.bsl 117 0 x7_n x7_c)),(8,.a (.d .bool x8))],[(2,.cs [.d .bool b2_0,.own .bool b2_1,.d (.int .i64) b2_2,.own (.sl (.nam 11)) b2_3,.d .byte b2_4]),(117,.row .bool b117),(100000,.cs (cL EE (.nam 3) Zf))],[]⟩
def OK(c:Code):List It2:=[.c c]
def PA(y0:VReader):TS EE.T:=⟨312,[(0,.a (.box 100000 0))],[(100000,.cs (cL EE (.nam 3) y0))],[]⟩
def GO(c:Code)(f:Nat->Nat->Int->Bool->(List Bool)->Int->(List (List VPiece))->UInt8->(List Bool)->VReader->Option (PR aj))(x4_n:Nat)(x4_c:Nat)(x5:Int)(b2_0:Bool)(b2_1:List Bool)(b2_2:Int)(b2_3:List (List VPiece))(b2_4:UInt8)(b27:List Bool)(Zf:VReader):Tree (Lf EE.T × Option (PR aj)):=.leaf (.go (G1 c) (Fo x4_n x4_c x5 b2_0 b2_1 b2_2 b2_3 b2_4 b27 Zf),f x4_n x4_c x5 b2_0 b2_1 b2_2 b2_3 b2_4 b27 Zf)
def BO(c:Code)(f:Bool->(List Bool)->Int->(List (List VPiece))->UInt8->VReader->Option (PR aj))(b2_0:Bool)(b2_1:List Bool)(b2_2:Int)(b2_3:List (List VPiece))(b2_4:UInt8)(Zf:VReader):Tree (Lf EE.T × Option (PR aj)):=.leaf (.go (AZ c) (BW b2_0 b2_1 b2_2 b2_3 b2_4 Zf),f b2_0 b2_1 b2_2 b2_3 b2_4 Zf)
def Bw(c:Code)(f:Bool->Nat->Nat->Int->Int->Bool->(List Bool)->Int->(List (List VPiece))->UInt8->(List Bool)->VReader->Option (PR aj))(x6:Bool)(x7_n:Nat)(x7_c:Nat)(x10:Int)(x11:Int)(b2_0:Bool)(b2_1:List Bool)(b2_2:Int)(b2_3:List (List VPiece))(b2_4:UInt8)(b117:List Bool)(Zf:VReader):Tree (Lf EE.T × Option (PR aj)):=.leaf (.go (Bg c) (BH x6 x7_n x7_c x10 x11 b2_0 b2_1 b2_2 b2_3 b2_4 b117 Zf),f x6 x7_n x7_c x10 x11 b2_0 b2_1 b2_2 b2_3 b2_4 b117 Zf)
def BN(c:Code)(f:Bool->Nat->Nat->Int->Int->Bool->(List Bool)->Int->(List (List VPiece))->UInt8->(List Bool)->VReader->Option (PR aj))(x6:Bool)(x7_n:Nat)(x7_c:Nat)(x9:Int)(x10:Int)(b2_0:Bool)(b2_1:List Bool)(b2_2:Int)(b2_3:List (List VPiece))(b2_4:UInt8)(b117:List Bool)(Zf:VReader):Tree (Lf EE.T × Option (PR aj)):=.leaf (.go (BR c) (BQ x6 x7_n x7_c x9 x10 b2_0 b2_1 b2_2 b2_3 b2_4 b117 Zf),f x6 x7_n x7_c x9 x10 b2_0 b2_1 b2_2 b2_3 b2_4 b117 Zf)
def BY(c:Code)(f:Bool->Nat->Nat->Bool->(List Bool)->Int->(List (List VPiece))->UInt8->(List Bool)->VReader->Option (PR aj))(x6:Bool)(x7_n:Nat)(x7_c:Nat)(b2_0:Bool)(b2_1:List Bool)(b2_2:Int)(b2_3:List (List VPiece))(b2_4:UInt8)(b117:List Bool)(Zf:VReader):Tree (Lf EE.T × Option (PR aj)):=.leaf (.go (Cg c) (AI x6 x7_n x7_c b2_0 b2_1 b2_2 b2_3 b2_4 b117 Zf),f x6 x7_n x7_c b2_0 b2_1 b2_2 b2_3 b2_4 b117 Zf)
def Bc(c:Code)(f:Bool->Nat->Nat->Int->Bool->(List Bool)->Int->(List (List VPiece))->UInt8->(List Bool)->VReader->Option (PR aj))(x6:Bool)(x7_n:Nat)(x7_c:Nat)(x12:Int)(b2_0:Bool)(b2_1:List Bool)(b2_2:Int)(b2_3:List (List VPiece))(b2_4:UInt8)(b117:List Bool)(Zf:VReader):Tree (Lf EE.T × Option (PR aj)):=.leaf (.go (AK c) (BB x6 x7_n x7_c x12 b2_0 b2_1 b2_2 b2_3 b2_4 b117 Zf),f x6 x7_n x7_c x12 b2_0 b2_1 b2_2 b2_3 b2_4 b117 Zf)
def Bu(c:Code)(f:Bool->Nat->Nat->Bool->Bool->(List Bool)->Int->(List (List VPiece))->UInt8->(List Bool)->VReader->Option (PR aj))(x6:Bool)(x7_n:Nat)(x7_c:Nat)(x8:Bool)(b2_0:Bool)(b2_1:List Bool)(b2_2:Int)(b2_3:List (List VPiece))(b2_4:UInt8)(b117:List Bool)(Zf:VReader):Tree (Lf EE.T × Option (PR aj)):=.leaf (.go (oz c) (oc x6 x7_n x7_c x8 b2_0 b2_1 b2_2 b2_3 b2_4 b117 Zf),f x6 x7_n x7_c x8 b2_0 b2_1 b2_2 b2_3 b2_4 b117 Zf)
abbrev jB(N:RecC3)(r:PR aj)(k:List It2)(s:TS EE.T):Prop:=fL (Y:=TT) EE (O6 N) TN Tf (fun u=>u=dU r) k s
def fE(x:PR aj):Tree (Lf EE.T × Option (PR aj)):=.leaf (.done (dU x),some x)
def Ew{N:RecC3}{r:PR aj}:∀ (n:Nat) (x4_n:Nat) (x4_c:Nat) (x5:Int) (b2_0:Bool) (b2_1:List Bool) (b2_2:Int) (b2_3:List (List VPiece)) (b2_4:UInt8) (b27:List Bool) (Zf:VReader),dQ N n x4_n x4_c x5 b2_0 b2_1 b2_2 b2_3 b2_4 b27 Zf=some r->jB N r (G1 (aa 0 Try.f41)) (Fo x4_n x4_c x5 b2_0 b2_1 b2_2 b2_3 b2_4 b27 Zf)
 |0,_,_,_,_,_,_,_,_,_,_,h=>by cases h
 |n+1,x4_n,x4_c,x5,b2_0,b2_1,b2_2,b2_3,b2_4,b27,Zf,h=>au (m:=4000) (t:=
  .cond (decide (x5 < 256))
  (
   .bnd (cf x4_n x5) fun z28=>
   .bnd (ja b27 (0+z28) true) fun z29=>
   GO (aa 0 Try.f41) (dQ N n) x4_n x4_c (w64 (x5+1)) b2_0 b2_1 b2_2 b2_3 b2_4 z29 Zf)
  (
   .bnd (wJ x4_n x4_c b27) fun z30=>
   fE (.ok ((VPiece.mk false z30 0 ([] :List (List VPiece)) 0),Zf)))) (by kernel_rfl) (by kernel_rfl) h (⟨fun _=>fun _=>fun h=>(Ew n) _ _ _ _ _ _ _ _ _ _ h,fun _=>aE (enc:=dU) rfl⟩)
def BK{N:RecC3}{r:PR aj}(n:Nat)(b2_0:Bool)(b2_1:List Bool)(b2_2:Int)(b2_3:List (List VPiece))(b2_4:UInt8)(Zf:VReader)(h:cN N n b2_0 b2_1 b2_2 b2_3 b2_4 Zf=some r):jB N r (AZ (aa 0 Try.f41)) (BW b2_0 b2_1 b2_2 b2_3 b2_4 Zf):=
 au (m:=4000) (t:=
 .bnd (ci Zf.M (w64 ((w64 (Zf.At+1)) - 1))) fun z31=>
 .bnd (gY N.n z31) fun z32=>
 fE (.ok ((VPiece.mk false z32 0 ([] :List (List VPiece)) 0),({ M:=Zf.M,At:=w64 (Zf.At+1),Groups:=Zf.Groups,F:=Zf.F }:VReader)))) (by kernel_rfl) (by kernel_rfl) h (fun _=>fun _=>aE (enc:=dU) rfl)
def AJ{N:RecC3}{r:PR aj}{k19:Bool->Nat->Nat->Bool->Bool->(List Bool)->Int->(List (List VPiece))->UInt8->(List Bool)->VReader->Option (PR aj)}(hk19:∀x6 x7_n x7_c x8 b2_0 b2_1 b2_2 b2_3 b2_4 b117 Zf,k19 x6 x7_n x7_c x8 b2_0 b2_1 b2_2 b2_3 b2_4 b117 Zf=some r->jB N r (oz (aa 0 Try.f41)) (oc x6 x7_n x7_c x8 b2_0 b2_1 b2_2 b2_3 b2_4 b117 Zf)):∀ (n:Nat) (x6:Bool) (x7_n:Nat) (x7_c:Nat) (x10:Int) (x11:Int) (b2_0:Bool) (b2_1:List Bool) (b2_2:Int) (b2_3:List (List VPiece)) (b2_4:UInt8) (b117:List Bool) (Zf:VReader),b9 N k19 n x6 x7_n x7_c x10 x11 b2_0 b2_1 b2_2 b2_3 b2_4 b117 Zf=some r->jB N r (Bg (aa 0 Try.f41)) (BH x6 x7_n x7_c x10 x11 b2_0 b2_1 b2_2 b2_3 b2_4 b117 Zf)
 |0,_,_,_,_,_,_,_,_,_,_,_,_,h=>by cases h
 |n+1,x6,x7_n,x7_c,x10,x11,b2_0,b2_1,b2_2,b2_3,b2_4,b117,Zf,h=>au (m:=4000) (t:=
  .cond (decide (x11<=x10))
  (
   .bnd (cf x7_n x11) fun z49=>
   .bnd (ja b117 (0+z49) true) fun z50=>
   Bw (aa 0 Try.f41) (b9 N k19 n) x6 x7_n x7_c x10 (w64 (x11+1)) b2_0 b2_1 b2_2 b2_3 b2_4 z50 Zf)
  (
   Bu (aa 0 Try.f41) k19 x6 x7_n x7_c false b2_0 b2_1 b2_2 b2_3 b2_4 b117 Zf)) (by kernel_rfl) (by kernel_rfl) h (⟨fun _=>fun _=>fun h=>(AJ hk19 n) _ _ _ _ _ _ _ _ _ _ _ _ h,fun h=>hk19 _ _ _ _ _ _ _ _ _ _ _ h⟩)
def Co{N:RecC3}{r:PR aj}{k19:Bool->Nat->Nat->Bool->Bool->(List Bool)->Int->(List (List VPiece))->UInt8->(List Bool)->VReader->Option (PR aj)}(hk19:∀x6 x7_n x7_c x8 b2_0 b2_1 b2_2 b2_3 b2_4 b117 Zf,k19 x6 x7_n x7_c x8 b2_0 b2_1 b2_2 b2_3 b2_4 b117 Zf=some r->jB N r (oz (aa 0 Try.f41)) (oc x6 x7_n x7_c x8 b2_0 b2_1 b2_2 b2_3 b2_4 b117 Zf))(n:Nat)(x6:Bool)(x7_n:Nat)(x7_c:Nat)(x9:Int)(x10:Int)(b2_0:Bool)(b2_1:List Bool)(b2_2:Int)(b2_3:List (List VPiece))(b2_4:UInt8)(b117:List Bool)(Zf:VReader)(h:eu N k19 n x6 x7_n x7_c x9 x10 b2_0 b2_1 b2_2 b2_3 b2_4 b117 Zf=some r):jB N r (BR (aa 0 Try.f41)) (BQ x6 x7_n x7_c x9 x10 b2_0 b2_1 b2_2 b2_3 b2_4 b117 Zf):=
 au (m:=4000) (t:=
 Bw (aa 0 Try.f41) (b9 N k19 n) x6 x7_n x7_c x10 x9 b2_0 b2_1 b2_2 b2_3 b2_4 b117 Zf) (by kernel_rfl) (by kernel_rfl) h (fun h=>AJ hk19 n _ _ _ _ _ _ _ _ _ _ _ _ h)
def BE{N:RecC3}{r:PR aj}{k19:Bool->Nat->Nat->Bool->Bool->(List Bool)->Int->(List (List VPiece))->UInt8->(List Bool)->VReader->Option (PR aj)}(hk19:∀x6 x7_n x7_c x8 b2_0 b2_1 b2_2 b2_3 b2_4 b117 Zf,k19 x6 x7_n x7_c x8 b2_0 b2_1 b2_2 b2_3 b2_4 b117 Zf=some r->jB N r (oz (aa 0 Try.f41)) (oc x6 x7_n x7_c x8 b2_0 b2_1 b2_2 b2_3 b2_4 b117 Zf))(n:Nat)(x6:Bool)(x7_n:Nat)(x7_c:Nat)(b2_0:Bool)(b2_1:List Bool)(b2_2:Int)(b2_3:List (List VPiece))(b2_4:UInt8)(b117:List Bool)(Zf:VReader)(h:di N k19 n x6 x7_n x7_c b2_0 b2_1 b2_2 b2_3 b2_4 b117 Zf=some r):jB N r (Cg (aa 0 Try.f41)) (AI x6 x7_n x7_c b2_0 b2_1 b2_2 b2_3 b2_4 b117 Zf):=
 au (m:=4000) (t:=
 .cond (Zf.At==(Zf.M.length:Int))
 (
  .bnd (ai N.n 1 Zf.At Zf) fun z34=>
  fE (.ok ((VPiece.mk false ([] :List Bool) 0 ([] :List (List VPiece)) 0),z34)))
 (
  .bnd (a8 N.n ([91,93,92,94,45] :List UInt8) Zf) fun z35=>
  .cond (z35.1)
  (
   .bnd (ai N.n 1 z35.2.At z35.2) fun z36=>
   fE (.ok ((VPiece.mk false ([] :List Bool) 0 ([] :List (List VPiece)) 0),z36)))
  (
   .bnd (ci z35.2.M z35.2.At) fun z37=>
   .bnd (aw N.n 45 ({ M:=z35.2.M,At:=w64 (z35.2.At+1),Groups:=z35.2.Groups,F:=z35.2.F }:VReader)) fun z38=>
   .cond (z38.1)
   (
    .cond (z38.2.At==(z38.2.M.length:Int))
    (
     .bnd (ai N.n 1 z38.2.At z38.2) fun z39=>
     fE (.ok ((VPiece.mk false ([] :List Bool) 0 ([] :List (List VPiece)) 0),z39)))
    (
     .bnd (a8 N.n ([91,93,92,94,45] :List UInt8) z38.2) fun z40=>
     .cond (z40.1)
     (
      .bnd (ai N.n 1 z40.2.At z40.2) fun z41=>
      fE (.ok ((VPiece.mk false ([] :List Bool) 0 ([] :List (List VPiece)) 0),z41)))
     (
      .bnd (ci z40.2.M z40.2.At) fun z42=>
      .cond (decide ((w64 (b2i z42)) < (w64 (b2i z37))))
      (
       .bnd (ai N.n 3 z40.2.At z40.2) fun z43=>
       fE (.ok ((VPiece.mk false ([] :List Bool) 0 ([] :List (List VPiece)) 0),z43)))
      (
       BN (aa 0 Try.f41) (eu N k19 n) x6 x7_n x7_c (w64 (b2i z37)) (w64 (b2i z42)) b2_0 b2_1 b2_2 b2_3 b2_4 b117 ({ M:=z40.2.M,At:=w64 (z40.2.At+1),Groups:=z40.2.Groups,F:=z40.2.F }:VReader)))))
   (
    BN (aa 0 Try.f41) (eu N k19 n) x6 x7_n x7_c (w64 (b2i z37)) (w64 (b2i z37)) b2_0 b2_1 b2_2 b2_3 b2_4 b117 z38.2)))) (by kernel_rfl) (by kernel_rfl) h (⟨fun _=>aE (enc:=dU) rfl,fun _=>⟨fun _=>aE (enc:=dU) rfl,fun _=>fun _=>⟨⟨fun _=>aE (enc:=dU) rfl,fun _=>⟨fun _=>aE (enc:=dU) rfl,fun _=>⟨fun _=>aE (enc:=dU) rfl,fun h=>Co hk19 n _ _ _ _ _ _ _ _ _ _ _ _ h⟩⟩⟩,fun h=>Co hk19 n _ _ _ _ _ _ _ _ _ _ _ _ h⟩⟩⟩)
def Be{N:RecC3}{r:PR aj}:∀ (n:Nat) (x6:Bool) (x7_n:Nat) (x7_c:Nat) (x12:Int) (b2_0:Bool) (b2_1:List Bool) (b2_2:Int) (b2_3:List (List VPiece)) (b2_4:UInt8) (b117:List Bool) (Zf:VReader),cx N n x6 x7_n x7_c x12 b2_0 b2_1 b2_2 b2_3 b2_4 b117 Zf=some r->jB N r (AK (aa 0 Try.f41)) (BB x6 x7_n x7_c x12 b2_0 b2_1 b2_2 b2_3 b2_4 b117 Zf)
 |0,_,_,_,_,_,_,_,_,_,_,_,h=>by cases h
 |n+1,x6,x7_n,x7_c,x12,b2_0,b2_1,b2_2,b2_3,b2_4,b117,Zf,h=>au (m:=4000) (t:=
  .cond (decide (x12 < 256))
  (
   .bnd (cf x7_n x12) fun z44=>
   .bnd (b117[0+z44]?) fun z45=>
   .bnd (cf x7_n x12) fun z46=>
   .bnd (ja b117 (0+z46) (!(z45==x6))) fun z47=>
   Bc (aa 0 Try.f41) (cx N n) x6 x7_n x7_c (w64 (x12+1)) b2_0 b2_1 b2_2 b2_3 b2_4 z47 Zf)
  (
   .bnd (wJ x7_n x7_c b117) fun z48=>
   fE (.ok ((VPiece.mk false z48 0 ([] :List (List VPiece)) 0),Zf)))) (by kernel_rfl) (by kernel_rfl) h (⟨fun _=>fun _=>fun _=>fun _=>fun h=>(Be n) _ _ _ _ _ _ _ _ _ _ _ h,fun _=>aE (enc:=dU) rfl⟩)
def u9{N:RecC3}{r:PR aj}:∀ (n:Nat) (x6:Bool) (x7_n:Nat) (x7_c:Nat) (x8:Bool) (b2_0:Bool) (b2_1:List Bool) (b2_2:Int) (b2_3:List (List VPiece)) (b2_4:UInt8) (b117:List Bool) (Zf:VReader),bl N n x6 x7_n x7_c x8 b2_0 b2_1 b2_2 b2_3 b2_4 b117 Zf=some r->jB N r (oz (aa 0 Try.f41)) (oc x6 x7_n x7_c x8 b2_0 b2_1 b2_2 b2_3 b2_4 b117 Zf)
 |0,_,_,_,_,_,_,_,_,_,_,_,h=>by cases h
 |n+1,x6,x7_n,x7_c,x8,b2_0,b2_1,b2_2,b2_3,b2_4,b117,Zf,h=>au (m:=4000) (t:=
  .cond (x8)
  (
   BY (aa 0 Try.f41) (di N (bl N n) n) x6 x7_n x7_c b2_0 b2_1 b2_2 b2_3 b2_4 b117 Zf)
  (
   .bnd (aw N.n 93 Zf) fun z33=>
   .cond (!z33.1)
   (
    BY (aa 0 Try.f41) (di N (bl N n) n) x6 x7_n x7_c b2_0 b2_1 b2_2 b2_3 b2_4 b117 z33.2)
   (
    Bc (aa 0 Try.f41) (cx N n) x6 x7_n x7_c 0 b2_0 b2_1 b2_2 b2_3 b2_4 b117 z33.2))) (by kernel_rfl) (by kernel_rfl) h (⟨fun h=>BE (u9 n) n _ _ _ _ _ _ _ _ _ _ h,fun _=>⟨fun h=>BE (u9 n) n _ _ _ _ _ _ _ _ _ _ h,fun h=>Be n _ _ _ _ _ _ _ _ _ _ _ h⟩⟩)
def QG{N:RecC3}{r:PR aj}(y0:VReader)(h:bO N y0=some r):jB N r (OK (aa 0 Try.f41)) (PA y0):=
 au (m:=4000) (t:=
 .bnd (ci y0.M y0.At) fun z1=>
 .bnd (aw N.n 46 y0) fun z2=>
 .cond (z2.1)
 (
  .bnd (o9 1 256 256) fun z3=>
  GO (aa 0 Try.f41) (dQ N N.n) z3.1 z3.2 0 false ([] :List Bool) 0 ([] :List (List VPiece)) 0 (List.replicate z3.2 false) z2.2)
 (
  .bnd (aw N.n 92 z2.2) fun z4=>
  .cond (z4.1)
  (
   .cond (z4.2.At==(z4.2.M.length:Int))
   (
    .bnd (ai N.n 1 z4.2.At z4.2) fun z5=>
    fE (.ok ((VPiece.mk false ([] :List Bool) 0 ([] :List (List VPiece)) 0),z5)))
   (
    .bnd (ci z4.2.M z4.2.At) fun z6=>
    .bnd (gU N.n z6) fun z7=>
    .cond (z7)
    (
     .bnd (ci z4.2.M z4.2.At) fun z8=>
     .cond ((b2i z8) != (b2i 95))
     (
      .bnd (ai N.n 1 z4.2.At z4.2) fun z9=>
      fE (.ok ((VPiece.mk false ([] :List Bool) 0 ([] :List (List VPiece)) 0),z9)))
     (
      .bnd (ci z4.2.M z4.2.At) fun z10=>
      .bnd (ej N.n z10) fun z11=>
      .cond (z11)
      (
       .bnd (ai N.n 1 z4.2.At z4.2) fun z12=>
       fE (.ok ((VPiece.mk false ([] :List Bool) 0 ([] :List (List VPiece)) 0),z12)))
      (
       BO (aa 0 Try.f41) (cN N N.n) false ([] :List Bool) 0 ([] :List (List VPiece)) 0 z4.2)))
    (
     .bnd (ci z4.2.M z4.2.At) fun z13=>
     .bnd (ej N.n z13) fun z14=>
     .cond (z14)
     (
      .bnd (ai N.n 1 z4.2.At z4.2) fun z15=>
      fE (.ok ((VPiece.mk false ([] :List Bool) 0 ([] :List (List VPiece)) 0),z15)))
     (
      BO (aa 0 Try.f41) (cN N N.n) false ([] :List Bool) 0 ([] :List (List VPiece)) 0 z4.2))))
  (
   .bnd (aw N.n 91 z4.2) fun z16=>
   .cond (z16.1)
   (
    .bnd (aw N.n 94 z16.2) fun z17=>
    .bnd (o9 1 256 256) fun z18=>
    Bu (aa 0 Try.f41) (bl N N.n) z17.1 z18.1 z18.2 true false ([] :List Bool) 0 ([] :List (List VPiece)) 0 (List.replicate z18.2 false) z17.2)
   (
    .bnd (aX N.n 40 z16.2) fun z19=>
    .cond (z19.1)
    (
     .cond (z19.2.Groups==9)
     (
      .bnd (ai N.n 2 z19.2.At z19.2) fun z20=>
      fE (.ok ((VPiece.mk false ([] :List Bool) 0 ([] :List (List VPiece)) 0),z20)))
     (
      .bnd (jI N ({ M:=z19.2.M,At:=w64 (z19.2.At+1),Groups:=w64 (z19.2.Groups+1),F:=z19.2.F }:VReader)) fun z21=>
      .sm z21 (fun z22=>
       .cond (z22.2.F.Err==0)
       (
        .bnd (aw N.n 41 z22.2) fun z23=>
        .cond (!z23.1)
        (
         .bnd (ai N.n 1 z23.2.At z23.2) fun z24=>
         fE (.ok ((VPiece.mk true ([] :List Bool) (w64 (z19.2.Groups+1)) z22.1 0),z24)))
        (
         fE (.ok ((VPiece.mk true ([] :List Bool) (w64 (z19.2.Groups+1)) z22.1 0),z23.2))))
       (
        fE (.ok ((VPiece.mk true ([] :List Bool) (w64 (z19.2.Groups+1)) z22.1 0),z22.2)))) (fun vz21=>
       fE (.pan vz21))))
    (
     .bnd (a8 N.n ([42,43,63,41,124,93] :List UInt8) z19.2) fun z25=>
     .cond (z25.1)
     (
      .bnd (ai N.n 1 z25.2.At z25.2) fun z26=>
      fE (.ok ((VPiece.mk false ([] :List Bool) 0 ([] :List (List VPiece)) 0),z26)))
     (
      .bnd (gY N.n z1) fun z27=>
      fE (.ok ((VPiece.mk false z27 0 ([] :List (List VPiece)) 0),({ M:=z25.2.M,At:=w64 (z25.2.At+1),Groups:=z25.2.Groups,F:=z25.2.F }:VReader))))))))) (by kernel_rfl) (by kernel_rfl) h (fun _=>fun _=>⟨fun _=>fun h=>Ew N.n _ _ _ _ _ _ _ _ _ _ h,fun _=>⟨⟨fun _=>aE (enc:=dU) rfl,fun _=>fun _=>⟨fun _=>⟨fun _=>aE (enc:=dU) rfl,fun _=>fun _=>⟨fun _=>aE (enc:=dU) rfl,fun h=>BK N.n _ _ _ _ _ _ h⟩⟩,fun _=>fun _=>⟨fun _=>aE (enc:=dU) rfl,fun h=>BK N.n _ _ _ _ _ _ h⟩⟩⟩,fun _=>⟨fun _=>fun _=>fun h=>u9 N.n _ _ _ _ _ _ _ _ _ _ _ h,fun _=>⟨⟨fun _=>aE (enc:=dU) rfl,fun _=>⟨fun _=>⟨fun _=>⟨fun _=>aE (enc:=dU) rfl,aE (enc:=dU) rfl⟩,aE (enc:=dU) rfl⟩,fun _=>aE (enc:=dU) rfl⟩⟩,fun _=>⟨fun _=>aE (enc:=dU) rfl,fun _=>aE (enc:=dU) rfl⟩⟩⟩⟩⟩)
def Jz(y0:VReader):List (TV EE.T):=[.a (.box 100000 0)]
def Cr(y0:VReader):List (Nat × TB EE.T):=[(100000,.cs (cL EE (.nam 3) y0))]
def pD{N:RecC3}(hN:oO N)(y0:VReader){r:PR aj}(h:bO N y0=some r)(I:Rn)(hi:Inj I (Cr y0)):aI Try.prog 41 ((Jz y0).map (TV.to EE.toEnc I)) (hTo EE.toEnc I (Cr y0)) (fun out H=>match r with|.ok z=>out=.ret ((iu z).to EE.toEnc I)/\H=hTo EE.toEnc I (CI 100000 z)|.pan v=>out=.pan v):=
 (dI (aa 0 Try.f41) 312 mixed (QU N hN) Try.func41 (by kernel_rfl) rfl rfl rfl rfl (QG y0 h) I hi).mono fun out H h=>by cases r with|ok z=>exact cH.retH rfl rfl h|pan v=>exact cH.pan h
def kO(N:RecC3)(us:List (TV EE.T))(hs:List (Nat × TB EE.T)):XR EE.T:=
 gdX (d7 us 1) <|
 bnX (aB us 0) fun i0=>
 bnX (bS EE 3 hs i0) fun y0=>
 gdX (bx hs [i0]) <|
 .may (bO N y0) [i0] iu (CI i0)
def oK(N:RecC3)(hN:oO N):XOk Try.prog EE 41 (kO N):=fun us hs=>
 ay fun h1=>ab fun i0 h2=>ab fun y0 h3=>ay fun h4=>fun p hz=>⟨fun z e=>rfl,fun I hi=>nk (us':=Jz y0) (h0:=Cr y0) (ρ':=jh I [i0]) hi h4 (by kernel_rfl) ⟨gG h2 (by kernel_rfl),bA h1⟩ ⟨(by kernel_rfl),tW h3,trivial⟩ (fun hj=>pD hN y0 hz _ hj) (fun out H h=>by cases p with|ok z=>exact⟨h.1.trans (by kernel_rfl),h.2.trans (by kernel_rfl)⟩|pan v=>exact h)⟩
def ii(r:ah):TV EE.T:=.a (.d (.sl (.sl (.nam 11))) r.1)
def CX(i0:Nat)(r:ah):List (Nat × TB EE.T):=[(i0,.cs (cL EE (.nam 3) r.2))]
def od(r:PR ah):RL EE.T:=match r with
 |.ok z=>.ret (ii z) (CX 100000 z)
 |.pan v=>.pan v
def T4:Lvs:=⟨[(4,⟨[(0,false),(3,false),(4,false)],[],[(100000,(some 3,[]))],[]⟩),(9,⟨[(0,false),(3,false),(4,false),(5,false)],[],[(5,(some 11,[])),(100000,(some 3,[]))],[]⟩),(11,⟨[(0,false),(3,false),(4,false),(5,false)],[],[(5,(some 11,[])),(100000,(some 3,[]))],[]⟩),(12,⟨[(0,false),(3,false),(4,false)],[],[(100000,(some 3,[]))],[]⟩)],[(2,⟨[(0,false),(3,false)],[],[(100000,(some 3,[]))],[]⟩),(4,⟨[(0,false),(3,false),(4,false)],[],[(100000,(some 3,[]))],[]⟩)],[9,11,12],[],false,[(100000,(some 3,[]))],[100000],[],[]⟩
def Sp:List ResultVar:=[.tmp 2]
def LR(N:RecC3):Gam EE:=⟨[],EQT,[⟨44,iT N.n⟩,⟨42,g7 N.n⟩,⟨43,my N.n⟩,⟨41,kO N⟩,⟨40,fM N.n⟩,⟨24,fT N.n⟩],[]⟩
def Pm(N:RecC3)(hN:oO N):GOk Try.prog TT EE (LR N):=GOk.consx (ka N.n) (GOk.consx (jm N.n) (GOk.consx (qD N.n) (GOk.consx (oK N hN) (GOk.consx (gc N.n) (GOk.consx (gF N.n) (GOk.nil cQ))))))
def Ch(c:Code):List It2:=atR 11 c
def BU(x3:List (List VPiece))(x4:List VPiece)(b5:VPiece)(Zf:VReader):TS EE.T:=⟨99,[(0,.a (.box 100000 0)),(3,.a (.own (.sl (.nam 11)) x3)),(4,.a (.own (.nam 11) x4)),(5,.a (.box 5 0))],[(5,.cs (cL EE (.nam 11) b5)),(100000,.cs (cL EE (.nam 3) Zf))],[]⟩
def ES(c:Code):List It2:=atR 9 c
def Gk(x3:List (List VPiece))(x4:List VPiece)(b5:VPiece)(Zf:VReader):TS EE.T:=⟨99,[(0,.a (.box 100000 0)),(3,.a (.own (.sl (.nam 11)) x3)),(4,.a (.own (.nam 11) x4)),(5,.a (.box 5 0))],[(5,.cs (cL EE (.nam 11) b5)),(100000,.cs (cL EE (.nam 3) Zf))],[]⟩
def Br(c:Code):List It2:=atR 12 c
def Bm(x3:List (List VPiece))(x4:List VPiece)(Zf:VReader):TS EE.T:=⟨99,[(0,.a (.box 100000 0)),(3,.a (.own (.sl (.nam 11)) x3)),(4,.a (.own (.nam 11) x4))],[(100000,.cs (cL EE (.nam 3) Zf))],[]⟩
def uh(c:Code):List It2:=atL 4 c
def t6(x3:List (List VPiece))(x4:List VPiece)(Zf:VReader):TS EE.T:=⟨99,[(0,.a (.box 100000 0)),(3,.a (.own (.sl (.nam 11)) x3)),(4,.a (.own (.nam 11) x4))],[(100000,.cs (cL EE (.nam 3) Zf))],[]⟩
def nN(c:Code):List It2:=atL 2 c
def nU(x3:List (List VPiece))(Zf:VReader):TS EE.T:=⟨99,[(0,.a (.box 100000 0)),(3,.a (.own (.sl (.nam 11)) x3))],[(100000,.cs (cL EE (.nam 3) Zf))],[]⟩
def OA(c:Code):List It2:=[.c c]
def Re(y0:VReader):TS EE.T:=⟨99,[(0,.a (.box 100000 0))],[(100000,.cs (cL EE (.nam 3) y0))],[]⟩
def vS(c:Code)(f:(List (List VPiece))->(List VPiece)->VPiece->VReader->Option (PR ah))(x3:List (List VPiece))(x4:List VPiece)(b5:VPiece)(Zf:VReader):Tree (Lf EE.T × Option (PR ah)):=.leaf (.go (Ch c) (BU x3 x4 b5 Zf),f x3 x4 b5 Zf)
def uw(c:Code)(f:(List (List VPiece))->(List VPiece)->VPiece->VReader->Option (PR ah))(x3:List (List VPiece))(x4:List VPiece)(b5:VPiece)(Zf:VReader):Tree (Lf EE.T × Option (PR ah)):=.leaf (.go (ES c) (Gk x3 x4 b5 Zf),f x3 x4 b5 Zf)
def q8(c:Code)(f:(List (List VPiece))->(List VPiece)->VReader->Option (PR ah))(x3:List (List VPiece))(x4:List VPiece)(Zf:VReader):Tree (Lf EE.T × Option (PR ah)):=.leaf (.go (Br c) (Bm x3 x4 Zf),f x3 x4 Zf)
def Gl(c:Code)(f:(List (List VPiece))->(List VPiece)->VReader->Option (PR ah))(x3:List (List VPiece))(x4:List VPiece)(Zf:VReader):Tree (Lf EE.T × Option (PR ah)):=.leaf (.go (uh c) (t6 x3 x4 Zf),f x3 x4 Zf)
def G4(c:Code)(f:(List (List VPiece))->VReader->Option (PR ah))(x3:List (List VPiece))(Zf:VReader):Tree (Lf EE.T × Option (PR ah)):=.leaf (.go (nN c) (nU x3 Zf),f x3 Zf)
abbrev jb(N:RecC3)(r:PR ah)(k:List It2)(s:TS EE.T):Prop:=fL (Y:=TT) EE (LR N) T4 Sp (fun u=>u=od r) k s
def xk(x:PR ah):Tree (Lf EE.T × Option (PR ah)):=.leaf (.done (od x),some x)
def vU{N:RecC3}{r:PR ah}{k4:(List (List VPiece))->(List VPiece)->VReader->Option (PR ah)}{k2:(List (List VPiece))->VReader->Option (PR ah)}(hk4:∀x3 x4 Zf,k4 x3 x4 Zf=some r->jb N r (uh (aa 0 Try.f23)) (t6 x3 x4 Zf))(hk2:∀x3 Zf,k2 x3 Zf=some r->jb N r (nN (aa 0 Try.f23)) (nU x3 Zf))(n:Nat)(x3:List (List VPiece))(x4:List VPiece)(b5:VPiece)(Zf:VReader)(h:bb N k4 k2 n x3 x4 b5 Zf=some r):jb N r (Ch (aa 0 Try.f23)) (BU x3 x4 b5 Zf):=
 au (m:=4000) (t:=
 .bnd (ie 72 x4 ([(VPiece.mk b5.Group b5.Set b5.Number b5.Rows b5.Sign)] :List VPiece)) fun z11=>
 Gl (aa 0 Try.f23) k4 x3 z11 Zf) (by kernel_rfl) (by kernel_rfl) h (fun _=>fun h=>hk4 _ _ _ h)
def uN{N:RecC3}{r:PR ah}{k4:(List (List VPiece))->(List VPiece)->VReader->Option (PR ah)}{k2:(List (List VPiece))->VReader->Option (PR ah)}(hk4:∀x3 x4 Zf,k4 x3 x4 Zf=some r->jb N r (uh (aa 0 Try.f23)) (t6 x3 x4 Zf))(hk2:∀x3 Zf,k2 x3 Zf=some r->jb N r (nN (aa 0 Try.f23)) (nU x3 Zf))(n:Nat)(x3:List (List VPiece))(x4:List VPiece)(b5:VPiece)(Zf:VReader)(h:aO N k4 k2 n x3 x4 b5 Zf=some r):jb N r (ES (aa 0 Try.f23)) (Gk x3 x4 b5 Zf):=
 au (m:=4000) (t:=
 .bnd (ci Zf.M Zf.At) fun z10=>
 vS (aa 0 Try.f23) (bb N k4 k2 n) x3 x4 (VPiece.mk b5.Group b5.Set b5.Number b5.Rows z10) ({ M:=Zf.M,At:=w64 (Zf.At+1),Groups:=Zf.Groups,F:=Zf.F }:VReader)) (by kernel_rfl) (by kernel_rfl) h (fun _=>fun h=>vU hk4 hk2 n _ _ _ _ h)
def rE{N:RecC3}{r:PR ah}{k2:(List (List VPiece))->VReader->Option (PR ah)}(hk2:∀x3 Zf,k2 x3 Zf=some r->jb N r (nN (aa 0 Try.f23)) (nU x3 Zf))(n:Nat)(x3:List (List VPiece))(x4:List VPiece)(Zf:VReader)(h:ba N k2 n x3 x4 Zf=some r):jb N r (Br (aa 0 Try.f23)) (Bm x3 x4 Zf):=
 au (m:=4000) (t:=
 .bnd (ie 24 x3 ([x4] :List (List VPiece))) fun z12=>
 .bnd (aw N.n 124 Zf) fun z13=>
 .cond (!z13.1)
 (
  xk (.ok (z12,z13.2)))
 (
  G4 (aa 0 Try.f23) k2 z12 z13.2)) (by kernel_rfl) (by kernel_rfl) h (fun _=>fun _=>⟨aE (enc:=od) rfl,fun h=>hk2 _ _ h⟩)
def mq{N:RecC3}{r:PR ah}{k2:(List (List VPiece))->VReader->Option (PR ah)}(hk2:∀x3 Zf,k2 x3 Zf=some r->jb N r (nN (aa 0 Try.f23)) (nU x3 Zf)):∀ (n:Nat) (x3:List (List VPiece)) (x4:List VPiece) (Zf:VReader),aH N k2 n x3 x4 Zf=some r->jb N r (uh (aa 0 Try.f23)) (t6 x3 x4 Zf)
 |0,_,_,_,h=>by cases h
 |n+1,x3,x4,Zf,h=>au (m:=4000) (t:=
  .cond (Zf.F.Err==0)
  (
   .cond (decide (Zf.At < (Zf.M.length:Int)))
   (
    .bnd (aX N.n 124 Zf) fun z1=>
    .cond (!z1.1)
    (
     .bnd (aX N.n 41 z1.2) fun z2=>
     .cond (!z2.1)
     (
      .bnd (bO N z2.2) fun z3=>
      .sm z3 (fun z4=>
       .cond (z4.2.F.Err==0)
       (
        .bnd (a8 N.n ([42,43,63] :List UInt8) z4.2) fun z5=>
        .cond (z5.1)
        (
         .cond (z4.1.Group)
         (
          .bnd (aX N.n 63 z5.2) fun z6=>
          .cond (!z6.1)
          (
           .bnd (kA N.n z4.1.Rows) fun z7=>
           .sm z7 (fun z8=>
            .cond (z8)
            (
             .bnd (ai N.n 4 z6.2.At z6.2) fun z9=>
             uw (aa 0 Try.f23) (aO N (aH N k2 n) k2 n) x3 x4 (VPiece.mk z4.1.Group z4.1.Set z4.1.Number z4.1.Rows z4.1.Sign) z9)
            (
             uw (aa 0 Try.f23) (aO N (aH N k2 n) k2 n) x3 x4 (VPiece.mk z4.1.Group z4.1.Set z4.1.Number z4.1.Rows z4.1.Sign) z6.2)) (fun vz7=>
            xk (.pan vz7)))
          (
           uw (aa 0 Try.f23) (aO N (aH N k2 n) k2 n) x3 x4 (VPiece.mk z4.1.Group z4.1.Set z4.1.Number z4.1.Rows z4.1.Sign) z6.2))
         (
          uw (aa 0 Try.f23) (aO N (aH N k2 n) k2 n) x3 x4 (VPiece.mk z4.1.Group z4.1.Set z4.1.Number z4.1.Rows z4.1.Sign) z5.2))
        (
         vS (aa 0 Try.f23) (bb N (aH N k2 n) k2 n) x3 x4 (VPiece.mk z4.1.Group z4.1.Set z4.1.Number z4.1.Rows z4.1.Sign) z5.2))
       (
        vS (aa 0 Try.f23) (bb N (aH N k2 n) k2 n) x3 x4 (VPiece.mk z4.1.Group z4.1.Set z4.1.Number z4.1.Rows z4.1.Sign) z4.2)) (fun vz3=>
       xk (.pan vz3)))
     (
      q8 (aa 0 Try.f23) (ba N k2 n) x3 x4 z2.2))
    (
     q8 (aa 0 Try.f23) (ba N k2 n) x3 x4 z1.2))
   (
    q8 (aa 0 Try.f23) (ba N k2 n) x3 x4 Zf))
  (
   q8 (aa 0 Try.f23) (ba N k2 n) x3 x4 Zf)) (by kernel_rfl) (by kernel_rfl) h (⟨⟨fun _=>⟨fun _=>⟨fun _=>⟨fun _=>⟨fun _=>⟨⟨fun _=>⟨fun _=>⟨fun _=>⟨fun _=>fun h=>uN (mq hk2 n) hk2 n _ _ _ _ h,fun h=>uN (mq hk2 n) hk2 n _ _ _ _ h⟩,fun _=>aE (enc:=od) rfl⟩,fun h=>uN (mq hk2 n) hk2 n _ _ _ _ h⟩,fun h=>uN (mq hk2 n) hk2 n _ _ _ _ h⟩,fun h=>vU (mq hk2 n) hk2 n _ _ _ _ h⟩,fun h=>vU (mq hk2 n) hk2 n _ _ _ _ h⟩,fun _=>aE (enc:=od) rfl⟩,fun h=>rE hk2 n _ _ _ h⟩,fun h=>rE hk2 n _ _ _ h⟩,fun h=>rE hk2 n _ _ _ h⟩,fun h=>rE hk2 n _ _ _ h⟩)
def Ft{N:RecC3}{r:PR ah}:∀ (n:Nat) (x3:List (List VPiece)) (Zf:VReader),bw N n x3 Zf=some r->jb N r (nN (aa 0 Try.f23)) (nU x3 Zf)
 |0,_,_,h=>by cases h
 |n+1,x3,Zf,h=>au (m:=4000) (t:=
  .cond (Zf.F.Err==0)
  (
   Gl (aa 0 Try.f23) (aH N (bw N n) n) x3 ([] :List VPiece) Zf)
  (
   xk (.ok (x3,Zf)))) (by kernel_rfl) (by kernel_rfl) h (⟨fun h=>mq (Ft n) n _ _ _ h,aE (enc:=od) rfl⟩)
def PS{N:RecC3}{r:PR ah}(y0:VReader)(h:gK N y0=some r):jb N r (OA (aa 0 Try.f23)) (Re y0):=
 au (m:=4000) (t:=
 G4 (aa 0 Try.f23) (bw N N.n) ([] :List (List VPiece)) y0) (by kernel_rfl) (by kernel_rfl) h (fun h=>Ft N.n _ _ h)
def JQ(y0:VReader):List (TV EE.T):=[.a (.box 100000 0)]
def CP(y0:VReader):List (Nat × TB EE.T):=[(100000,.cs (cL EE (.nam 3) y0))]
def pw{N:RecC3}(hN:oO N)(y0:VReader){r:PR ah}(h:gK N y0=some r)(I:Rn)(hi:Inj I (CP y0)):aI Try.prog 23 ((JQ y0).map (TV.to EE.toEnc I)) (hTo EE.toEnc I (CP y0)) (fun out H=>match r with|.ok z=>out=.ret ((ii z).to EE.toEnc I)/\H=hTo EE.toEnc I (CX 100000 z)|.pan v=>out=.pan v):=
 (dI (aa 0 Try.f23) 99 mixed (Pm N hN) Try.func23 (by kernel_rfl) rfl rfl rfl rfl (PS y0 h) I hi).mono fun out H h=>by cases r with|ok z=>exact cH.retH rfl rfl h|pan v=>exact cH.pan h
def pG(N:RecC3)(us:List (TV EE.T))(hs:List (Nat × TB EE.T)):XR EE.T:=
 gdX (d7 us 1) <|
 bnX (aB us 0) fun i0=>
 bnX (bS EE 3 hs i0) fun y0=>
 gdX (bx hs [i0]) <|
 .may (gK N y0) [i0] ii (CX i0)
def pi(N:RecC3)(hN:oO N):XOk Try.prog EE 23 (pG N):=fun us hs=>
 ay fun h1=>ab fun i0 h2=>ab fun y0 h3=>ay fun h4=>fun p hz=>⟨fun z e=>rfl,fun I hi=>nk (us':=JQ y0) (h0:=CP y0) (ρ':=jh I [i0]) hi h4 (by kernel_rfl) ⟨gG h2 (by kernel_rfl),bA h1⟩ ⟨(by kernel_rfl),tW h3,trivial⟩ (fun hj=>pw hN y0 hz _ hj) (fun out H h=>by cases p with|ok z=>exact⟨h.1.trans (by kernel_rfl),h.2.trans (by kernel_rfl)⟩|pan v=>exact h)⟩
def lA(n0:Nat):∀m,oO ⟨n0,aC n0 m⟩
 |0=>KT n0
 |m+1=>pi ⟨n0,aC n0 m⟩ (lA n0 m)
def lq(N:Nat):List (TV EE.T)->List (Nat × TB EE.T)->XR EE.T:=gu ⟨N,aC N N⟩
def pF(N:Nat):XOk Try.prog EE 23 (lq N):=lA N N
def pe(r:dH):TV EE.T:=.tu [.a (.d (.sl (.sl (.nam 11))) r.1),.a (.d (.int .i64) r.2.1),.ag (cL EE (.nam 2) r.2.2)]
def QL(r:dH):List (Nat × TB EE.T):=[]
def wa(r:PR dH):RL EE.T:=match r with
 |.ok z=>.ret (pe z) (QL z)
 |.pan v=>.pan v
def Yw:Lvs:=⟨[(7,⟨[(4,false),(5,false),(6,false)],[],[(4,(some 2,[])),(13,(some 3,[]))],[]⟩),(8,⟨[(4,false),(5,false)],[],[(4,(some 2,[])),(13,(some 3,[]))],[]⟩),(9,⟨[(4,false),(5,false),(6,false)],[],[(4,(some 2,[])),(13,(some 3,[]))],[]⟩)],[],[7],[],false,[(4,(some 2,[]))],[],[],[]⟩
def YQ:List ResultVar:=[.tmp 2,.tmp 3,.cell 4 28]
def YH(N:Nat):Gam EE:=⟨[],EQT,[⟨23,lq N⟩,⟨24,fT N⟩],[]⟩
def W5(N:Nat):GOk Try.prog TT EE (YH N):=GOk.consx (pF N) (GOk.consx (gF N) (GOk.nil cQ))
def ME(c:Code):List It2:=atR 7 c
def PF(x6:List (List VPiece))(b4:VFault)(b13:VReader):TS EE.T:=⟨53,[(4,.a (.box 4 0)),(5,.a (.box 13 0)),(6,.a (.d (.sl (.sl (.nam 11))) x6))],[(4,.cs (cL EE (.nam 2) b4)),(13,.cs (cL EE (.nam 3) b13))],[]⟩
def Wz(c:Code):List It2:=[.c c]
def WA(x0:List UInt8):TS EE.T:=⟨53,[(0,.a (.d .str x0))],[],[]⟩
def HM(c:Code)(f:(List (List VPiece))->VFault->VReader->Option (PR dH))(x6:List (List VPiece))(b4:VFault)(b13:VReader):Tree (Lf EE.T × Option (PR dH)):=.leaf (.go (ME c) (PF x6 b4 b13),f x6 b4 b13)
abbrev Vf(N:Nat)(r:PR dH)(k:List It2)(s:TS EE.T):Prop:=fL (Y:=TT) EE (YH N) Yw YQ (fun u=>u=wa r) k s
def JA(x:PR dH):Tree (Lf EE.T × Option (PR dH)):=.leaf (.done (wa x),some x)
def w10oR7{N:Nat}{r:PR dH}(n:Nat)(x6:List (List VPiece))(b4:VFault)(b13:VReader)(h:dR N n x6 b4 b13=some r):Vf N r (ME (aa 0 Try.f10)) (PF x6 b4 b13):=
 au (m:=4000) (t:=
 .cond (b13.F.Err != 0)
 (
  JA (.ok (([] :List (List VPiece)),0,b13.F)))
 (
  JA (.ok (x6,b13.Groups,({ Err:=0,At:=0 }:VFault))))) (by kernel_rfl) (by kernel_rfl) h (⟨aE (enc:=wa) rfl,aE (enc:=wa) rfl⟩)
def VI{N:Nat}{r:PR dH}(x0:List UInt8)(h:ji N x0=some r):Vf N r (Wz (aa 0 Try.f10)) (WA x0):=
 au (m:=4000) (t:=
 .cond (decide ((x0.length:Int) > 60))
 (
  JA (.ok (([] :List (List VPiece)),0,({ Err:=2,At:=0 }:VFault))))
 (
  .bnd (mT N ({ M:=x0,At:=0,Groups:=0,F:=({ Err:=0,At:=0 }:VFault) }:VReader)) fun z1=>
  .sm z1 (fun z2=>
   .cond (z2.2.F.Err==0)
   (
    .cond (decide (z2.2.At < (x0.length:Int)))
    (
     .bnd (ai N 1 z2.2.At z2.2) fun z3=>
     HM (aa 0 Try.f10) (dR N N) z2.1 ({ Err:=0,At:=0 }:VFault) z3)
    (
     HM (aa 0 Try.f10) (dR N N) z2.1 ({ Err:=0,At:=0 }:VFault) z2.2))
   (
    HM (aa 0 Try.f10) (dR N N) z2.1 ({ Err:=0,At:=0 }:VFault) z2.2)) (fun vz1=>
   JA (.pan vz1)))) (by kernel_rfl) (by kernel_rfl) h (⟨aE (enc:=wa) rfl,fun _=>⟨fun _=>⟨⟨fun _=>fun h=>w10oR7 N _ _ _ h,fun h=>w10oR7 N _ _ _ h⟩,fun h=>w10oR7 N _ _ _ h⟩,fun _=>aE (enc:=wa) rfl⟩⟩)
def Va(x0:List UInt8):List (TV EE.T):=[.a (.d .str x0)]
def Mr(x0:List UInt8):List (Nat × TB EE.T):=[]
def zZ{N:Nat}(x0:List UInt8){r:PR dH}(h:ji N x0=some r)(I:Rn)(hi:Inj I (Mr x0)):aI Try.prog 10 ((Va x0).map (TV.to EE.toEnc I)) (hTo EE.toEnc I (Mr x0)) (fun out H=>match r with|.ok z=>out=.ret ((pe z).to EE.toEnc I)/\H=hTo EE.toEnc I (QL z)|.pan v=>out=.pan v):=
 (dI (aa 0 Try.f10) 53 mixed (W5 N) Try.func10 (by kernel_rfl) rfl rfl rfl rfl (VI x0 h) I hi).mono fun out H h=>by cases r with|ok z=>exact cH.retH rfl rfl h|pan v=>exact cH.pan h
def tZ(N:Nat)(us:List (TV EE.T))(hs:List (Nat × TB EE.T)):XR EE.T:=
 gdX (d7 us 1) <|
 bnX (aD .str us 0) fun x0=>
 gdX (bx hs []) <|
 .may (ji N x0) [] pe (QL)
def xS(N:Nat):XOk Try.prog EE 10 (tZ N):=fun us hs=>
 ay fun h1=>ab fun x0 h2=>ay fun h3=>fun p hz=>⟨fun z e=>rfl,fun I hi=>nk (us':=Va x0) (h0:=Mr x0) (ρ':=jh I []) hi h3 (by kernel_rfl) ⟨gB h2,bA h1⟩ trivial (fun hj=>zZ x0 hz _ hj) (fun out H h=>by cases p with|ok z=>exact⟨h.1.trans (by kernel_rfl),h.2.trans (by kernel_rfl)⟩|pan v=>exact h)⟩
set_option maxRecDepth 100000
set_option maxRecDepth 1000000
variable {MM:Nat}
def noP:VPiece:=VPiece.mk false [] 0 [] 0
def Nd.vv:Nd->VPiece × List (List VPiece)
 |.set S sg=>(VPiece.mk false S 0 [] sg,[])
 |.grp n M sg=>(VPiece.mk true [] (n:Int) M.vv.2 sg,[])
 |.nil=>(noP,[[]])
 |.cons p r=>(noP,[p.vv.1::r.vv.2.headD []])
 |.alt r M=>(noP,r.vv.2.headD [] ::M.vv.2)
def Nd.fm:Nd->Prop × Prop × Prop
 |.set _ _=>(True,False,False)
 |.grp _ M _=>(M.fm.2.2,False,False)
 |.nil=>(False,True,True)
 |.cons p r=>(False,p.fm.1/\r.fm.2.1,p.fm.1/\r.fm.2.1)
 |.alt r M=>(False,False,r.fm.2.1/\M.fm.2.2)
def Nd.row_m:∀ {x:Nd},x.fm.2.1->x.fm.2.2
 |.nil,h=>h
 |.cons p r,h=>h
def Nd.row_vv:∀ {x:Nd},x.fm.2.1->x.vv.2=[x.vv.2.headD []]
 |.nil,h=>rfl
 |.cons p r,h=>rfl
def kV{m:List UInt8}:∀ (f mo i g:Nat) {x:Nd} {j g1:Nat},prs m f mo i g=.ok (x,j,g1)->(mo=0->x.fm.2.2)/\(mo=1->x.fm.2.1)/\(2<=mo->x.fm.1)
 |0,mo,i,g,x,j,g1,h=>by cases h
 |f+1,0,i,g,x,j,g1,h=>by
  refine⟨fun _=> ?_,fun h=>by omega,fun h=>by omega⟩;rw[QJ] at h;split at h
  ·cases h
  ·rename_i r j0 g0 hr;have k1:=(kV f 1 i g hr).2.1 rfl;cases hb:bQ m 124 j0 with
   |false=>rw[hb,ZF] at h;cases h;exact Nd.row_m k1
   |true=>
    rw[hb,ZG] at h;split at h
    ·cases h
    ·rename_i M k g2 hM;cases h;exact⟨k1,(kV f 0 (j0+1) g0 hM).1 rfl⟩
 |f+1,1,i,g,x,j,g1,h=>by
  refine⟨fun h=>by omega,fun _=> ?_,fun h=>by omega⟩;rw[M6] at h;split at h
  ·cases h;trivial
  ·rename_i c hc;cases h1:(b2i c==b2i 124) with
   |true=>rw[h1,ZG] at h;cases h;trivial
   |false=>
    rw[h1,ZF] at h;cases h2:(b2i c==b2i 41) with
    |true=>rw[h2,ZG] at h;cases h;trivial
    |false=>
     rw[h2,ZF] at h;split at h
     ·cases h
     ·rename_i p j0 g0 hp;split at h
      ·cases h
      ·rename_i r k g2 hr;cases h;exact⟨(kV f 2 i g hp).2.2 (by omega),(kV f 1 j0 g0 hr).2.1 rfl⟩
 |f+1,mo+2,i,g,x,j,g1,h=>by
  refine⟨fun h=>by omega,fun h=>by omega,fun _=> ?_⟩;rw[prs] at h;cases hb:bQ m 40 i with
  |true=>
   rw[hb,ZG] at h;cases h9:g==9 with
   |true=>rw[h9,ZG] at h;cases h
   |false=>
    rw[h9,ZF] at h;split at h
    ·cases h
    ·rename_i M j0 g0 hM;have k1:=(kV f 0 (i+1) (g+1) hM).1 rfl;cases h41:bQ m 41 j0 with
     |false=>rw[h41,ZF] at h;cases h
     |true=>
      rw[h41,ZG] at h;cases hs:(d9 m (j0+1)==0) with
      |true=>rw[hs,ZG] at h;cases h;exact k1
      |false=>
       rw[hs,ZF] at h;cases hz:(M.null && !(d9 m (j0+1)==63)) with
       |true=>rw[hz,ZG] at h;cases h
       |false=>rw[hz,ZF] at h;cases h;exact k1
  |false=>
   rw[hb,ZF] at h;split at h
   ·cases h
   ·rename_i S j0 hS;cases hs:(d9 m j0==0) with
    |true=>rw[hs,ZG] at h;cases h;trivial
    |false=>rw[hs,ZF] at h;cases h;trivial
def Uj{α:Type}(l r:List α)(x:α):ci (l++x::r) (l.length:Int)=some x:=by rw[ixn,ZJ (ZN _),aau];rfl
def Cy{d:Nat}(ih:∀M:Nd,M.fm.2.2->M.len < d->M.len<=500->bG (MM+3000) d M.vv.2=some (.ok M.null)){k2:(List (List VPiece))->Int->Option (PR Bool)}{rows:List (List VPiece)}{p:Nat}(hp:p<=10000){row:List VPiece}(hr:rows[p]? =some row):∀ (x:Nd) (n:Nat) (b:Bool) (done:List VPiece),x.fm.2.1->x.len<=d->x.len<=500->row=done++x.vv.2.headD [] ->done.length<=10000 - x.len->x.len+1<=n->
  a7 ⟨(MM+3000),bG (MM+3000) d⟩ k2 n rows (p:Int) b (done.length:Int)=bif b && x.null then some (.ok true) else k2 rows ((p+1:Nat):Int)
 |x,0,b,done,h1,h2,h2',h3,h4,h5=>by omega
 |.nil,n+1,b,done,h1,h2,h2',h3,h4,h5=>by
  have hl:row=done:=by rw[h3];show done++ [] =done;rw[aax]
  rw[a7,ixn,hr,ZC,Z1 (by rw[hl];omega),ZF,f9 (by omega)];cases b<;> rfl
 |.cons q r,n+1,b,done,h1,h2,h2',h3,h4,h5=>by
  have hlen:(Nd.cons q r).len=q.len+r.len:=rfl;have hq1:1<=q.len:=by
   cases q with
   |set S sg=>show 1<=1+_;omega
   |grp n M sg=>show 1<=M.len+2+_;omega
   |nil=>exact h1.1.elim
   |cons a c=>exact h1.1.elim
   |alt a c=>exact h1.1.elim
  have e3:row=done++q.vv.1::r.vv.2.headD [] :=h3;have next:∀b',bL ⟨(MM+3000),bG (MM+3000) d⟩ (a7 ⟨(MM+3000),bG (MM+3000) d⟩ k2 n) k2 n rows (p:Int) b' (done.length:Int)=bif b' && r.null then some (.ok true) else k2 rows ((p+1:Nat):Int):=fun b'=>by
   unfold bL;rw[f9 (by omega)];have:=Cy ih (k2:=k2) hp hr r n b' (done++ [q.vv.1]) h1.2 (by omega) (by omega) (by rw[e3];simp) (by simp;omega) (by omega);rw[show((done++ [q.vv.1]).length:Nat)=done.length+1 by simp] at this;exact this
  rw[a7,ixn,hr,ZC,Z0 (by rw[e3];simp;omega),ZG,ZC,e3,Uj,ZC];cases b with
  |false=>rw[ZF,next];rfl
  |true=>
   rw[ZG,abC];have key:∀sg:UInt8,(b2i sg==b2i 42)=(sg==42)/\(b2i sg==b2i 63)=(sg==63):=fun sg=>by
    constructor<;>
    ·rw[jO,jO];rw[Bool.eq_iff_iff,aaR,aaR];constructor
     ·intro h;exact UInt8.toNat_inj.1 (by omega)
     ·rintro rfl;rfl
   cases q with
   |nil=>exact h1.1.elim
   |cons a c=>exact h1.1.elim
   |alt a c=>exact h1.1.elim
   |set S sg=>
    show(bif b2i sg==b2i 42 then _ else bif b2i sg==b2i 63 then _ else bif false then _ else _)=bif sgN sg && r.null then _ else _;rw[(key sg).1,(key sg).2];unfold sgN;cases sg==42 with
    |true=>rw[ZG,next];rfl
    |false=>
     cases sg==63 with
     |true=>rw[ZF,ZG,next];rfl
     |false=>rw[ZF,ZF,ZF,next];rfl
   |grp gn M sg=>
    have hM:M.len+2+sgL sg<=d/\M.len+2+sgL sg<=500:=by have e:(Nd.grp gn M sg).len=M.len+2+sgL sg:=rfl;omega
    show(bif b2i sg==b2i 42 then _ else bif b2i sg==b2i 63 then _ else bif true then((bG (MM+3000) d M.vv.2).bind _) else _)=bif (sgN sg || M.null) && r.null then _ else _;rw[(key sg).1,(key sg).2,ih M h1.1 (by omega) (by omega),ZC];unfold sgN;cases sg==42 with
    |true=>rw[ZG,next];rfl
    |false=>
     cases sg==63 with
     |true=>rw[ZF,ZG,next];rfl
     |false=>rw[ZF,ZF,ZG];dsimp only;rw[next];rfl
def Jw{d:Nat}(ih:∀M:Nd,M.fm.2.2->M.len < d->M.len<=500->bG (MM+3000) d M.vv.2=some (.ok M.null)){rows:List (List VPiece)}:∀ (x:Nd) (n p:Nat) (done:List (List VPiece)),x.fm.2.2->x.len<=d->rows=done++x.vv.2->done.length=p->p+x.len<=500->2 * x.len+3<=n->
  bD ⟨(MM+3000),bG (MM+3000) d⟩ n rows (p:Int)=some (.ok x.null)
 |x,0,p,done,h1,h2,h3,h4,h5,h6=>by omega
 |.alt r M,n+1,p,done,h1,h2,h3,h4,h5,h6=>by
  have hlen:(Nd.alt r M).len=r.len+M.len+2:=rfl;have e3:rows=done++r.vv.2.headD [] ::M.vv.2:=h3;have hr:rows[p]? =some (r.vv.2.headD []):=by rw[e3,<- h4,ZJ (ZN _),aau];rfl
  have:=Cy ih (k2:=bD ⟨(MM+3000),bG (MM+3000) d⟩ n) (by omega) hr r n true [] h1.1 (by omega) (by omega) rfl (aad _) (by omega);rw[bD,Z0 (by rw[e3];simp;omega),ZG];refine abj this ?_;rw[abC];show _=some (PR.ok (r.null || M.null));cases r.null with
  |true=>rfl
  |false=>rw[ZF,abq];exact Jw ih M n (p+1) (done++ [r.vv.2.headD []]) h1.2 (by omega) (by rw[e3];simp) (by simp only[List.length_append,List.length_cons,List.length_nil];omega) (by omega) (by omega)
 |.nil,n+1,p,done,h1,h2,h3,h4,h5,h6=>by
  have e3:rows=done++ [[]] :=h3;have hr:rows[p]? =some [] :=by rw[e3,<- h4,ZJ (ZN _),aau];rfl
  have:=Cy ih (k2:=bD ⟨(MM+3000),bG (MM+3000) d⟩ n) (by omega) hr .nil n true [] trivial (aad _) (aad _) rfl (aad _) (by show 0+1<=n;omega);rw[bD,Z0 (by rw[e3];simp;omega),ZG];exact this
 |.cons q r,n+1,p,done,h1,h2,h3,h4,h5,h6=>by
  have e3:rows=done++ [q.vv.1::r.vv.2.headD []] :=h3;have hr:rows[p]? =some (q.vv.1::r.vv.2.headD []):=by rw[e3,<- h4,ZJ (ZN _),aau];rfl
  have:=Cy ih (k2:=bD ⟨(MM+3000),bG (MM+3000) d⟩ n) (by omega) hr (.cons q r) n true [] h1 h2 (by omega) rfl (by simp) (by omega);rw[bD,Z0 (by rw[e3];simp;omega),ZG];refine abj this ?_;rw[abC];cases (Nd.cons q r).null with
  |true=>rfl
  |false=>
   rw[ZF];obtain⟨n,rfl⟩:∃k,n=k+1:=⟨n - 1,by omega⟩
   rw[bD,Z1 (by rw[e3];simp;omega),ZF]
def sw:∀ (d:Nat) (M:Nd),M.fm.2.2->M.len < d->M.len<=500->bG (MM+3000) d M.vv.2=some (.ok M.null)
 |0,M,h2,h3,h4=>by omega
 |d+1,M,h2,h3,h4=>by have:=Jw (d:=d) (rows:=M.vv.2) (fun N hN hl hs=>sw d N hN hl hs) M (MM+3000) 0 [] h2 (by omega) rfl rfl (by omega) (by omega);exact this
set_option maxRecDepth 100000
abbrev cU:=Int × Nat × (List VSpot)
def aA(N:Nat)(x1:VSpot)(y0_0:Nat)(y1:List VSpot):Option (PR cU):=
 (lg 56 y0_0 y1 ([x1] :List VSpot)).bind fun z1=>
 some (.ok (w64 ((z1.length:Int) - 1),z1.length,z1))
structure RecC5 where
 n:Nat
 k:(List (List VPiece))->Int->Nat->(List VSpot)->Option (PR (Int × Nat × (List VSpot)))
def jE(N:RecC5)(x1:List (List VPiece))(x2:Int)(y0_0:Nat)(y1:List VSpot):Option (PR (Int × Nat × (List VSpot))):=N.k x1 x2 y0_0 y1
abbrev bE:=Int × Nat × (List VSpot)
def eD(N:RecC5)(n:Nat)(x1:VPiece)(x2:Int)(Zk:Nat)(Zh:List VSpot):Option (PR bE):=
 bif !x1.Group then
  (aA N.n ({ Kind:=1,A:=x2,B:=0,Number:=0,Set:=x1.Set }:VSpot) Zk Zh).bind fun z1=>
  match z1 with
  |.pan vz1=>some (.pan vz1)
  |.ok z2=>some (.ok (z2.1,z2.2.1,z2.2.2))
 else
  (aA N.n ({ Kind:=4,A:=x2,B:=0,Number:=x1.Number,Set:=([] :List Bool) }:VSpot) Zk Zh).bind fun z3=>
  match z3 with
  |.pan vz3=>some (.pan vz3)
  |.ok z4=>
   (jE N x1.Rows z4.1 z4.2.1 z4.2.2).bind fun z5=>
   match z5 with
   |.pan vz5=>some (.pan vz5)
   |.ok z6=>
    (aA N.n ({ Kind:=3,A:=z6.1,B:=0,Number:=x1.Number,Set:=([] :List Bool) }:VSpot) z6.2.1 z6.2.2).bind fun z7=>
    match z7 with
    |.pan vz7=>some (.pan vz7)
    |.ok z8=>some (.ok (z8.1,z8.2.1,z8.2.2))
def bU(N:RecC5)(x1:VPiece)(x2:Int)(y0_0:Nat)(y1:List VSpot):Option (PR bE):=
 eD N N.n (VPiece.mk x1.Group x1.Set x1.Number x1.Rows x1.Sign) x2 y0_0 y1
abbrev bu:=Int × Nat × (List VSpot)
def dJ(N:RecC5)(n:Nat)(x2:Int)(b4:VPiece)(Zk:Nat)(Zh:List VSpot):Option (PR bu):=
 (aA N.n ({ Kind:=2,A:=0,B:=x2,Number:=0,Set:=([] :List Bool) }:VSpot) Zk Zh).bind fun z7=>
 match z7 with
 |.pan vz7=>some (.pan vz7)
 |.ok z8=>
  (bU N (VPiece.mk b4.Group b4.Set b4.Number b4.Rows b4.Sign) z8.1 z8.2.1 z8.2.2).bind fun z9=>
  match z9 with
  |.pan vz9=>some (.pan vz9)
  |.ok z10=>
   (cf z10.2.1 z8.1).bind fun z11=>
   (z10.2.2[z11]?).bind fun z12=>
   bif (b2i b4.Sign)==(b2i 43) then
    some (.ok (z10.1,z10.2.1,List.set z10.2.2 z11 ({ Kind:=z12.Kind,A:=z10.1,B:=z12.B,Number:=z12.Number,Set:=z12.Set }:VSpot)))
   else
    some (.ok (z8.1,z10.2.1,List.set z10.2.2 z11 ({ Kind:=z12.Kind,A:=z10.1,B:=z12.B,Number:=z12.Number,Set:=z12.Set }:VSpot)))
def dN(N:RecC5)(x1:VPiece)(x2:Int)(y0_0:Nat)(y1:List VSpot):Option (PR bu):=
 bif (b2i x1.Sign)==(b2i 63) then
  (bU N (VPiece.mk x1.Group x1.Set x1.Number x1.Rows x1.Sign) x2 y0_0 y1).bind fun z1=>
  match z1 with
  |.pan vz1=>some (.pan vz1)
  |.ok z2=>
   (aA N.n ({ Kind:=2,A:=z2.1,B:=x2,Number:=0,Set:=([] :List Bool) }:VSpot) z2.2.1 z2.2.2).bind fun z3=>
   match z3 with
   |.pan vz3=>some (.pan vz3)
   |.ok z4=>some (.ok (z4.1,z4.2.1,z4.2.2))
 else
  bif (b2i x1.Sign)==(b2i 42) then
   dJ N N.n x2 (VPiece.mk x1.Group x1.Set x1.Number x1.Rows x1.Sign) y0_0 y1
  else
   bif (b2i x1.Sign)==(b2i 43) then
    dJ N N.n x2 (VPiece.mk x1.Group x1.Set x1.Number x1.Rows x1.Sign) y0_0 y1
   else
    (bU N (VPiece.mk x1.Group x1.Set x1.Number x1.Rows x1.Sign) x2 y0_0 y1).bind fun z5=>
    match z5 with
    |.pan vz5=>some (.pan vz5)
    |.ok z6=>some (.ok (z6.1,z6.2.1,z6.2.2))
abbrev ax:=Int × Nat × (List VSpot)
def eE(N:RecC5)(k3:(List (List VPiece))->Int->Int->Int->Nat->(List VSpot)->Option (PR ax))(n:Nat)(x1:List (List VPiece))(x2:Int)(x7:Int)(x8:Int)(Zk:Nat)(Zh:List VSpot):Option (PR ax):=
 k3 x1 x2 x7 (w64 (x8 - 1)) Zk Zh
def bR(N:RecC5)(k3:(List (List VPiece))->Int->Int->Int->Nat->(List VSpot)->Option (PR ax)):Nat->(List (List VPiece))->Int->Int->Int->Int->Int->Nat->(List VSpot)->Option (PR ax)
 |0,_,_,_,_,_,_,_,_=>none
 |n+1,x1,x2,x7,x8,x9,x10,Zk,Zh=>
  bif decide (x10>=0) then
   (ci x1 x8).bind fun z2=>
   (ci z2 x10).bind fun z3=>
   (dN N (VPiece.mk z3.Group z3.Set z3.Number z3.Rows z3.Sign) x9 Zk Zh).bind fun z4=>
   match z4 with
   |.pan vz4=>some (.pan vz4)
   |.ok z5=>bR N k3 n x1 x2 x7 x8 z5.1 (w64 (x10 - 1)) z5.2.1 z5.2.2
  else
   bif decide (x7 < 0) then
    eE N k3 n x1 x2 x9 x8 Zk Zh
   else
    (aA N.n ({ Kind:=2,A:=x9,B:=x7,Number:=0,Set:=([] :List Bool) }:VSpot) Zk Zh).bind fun z6=>
    match z6 with
    |.pan vz6=>some (.pan vz6)
    |.ok z7=>eE N k3 n x1 x2 z7.1 x8 z7.2.1 z7.2.2
def aR(N:RecC5):Nat->(List (List VPiece))->Int->Int->Int->Nat->(List VSpot)->Option (PR ax)
 |0,_,_,_,_,_,_=>none
 |n+1,x1,x2,x7,x8,Zk,Zh=>
  bif decide (x8>=0) then
   (ci x1 x8).bind fun z1=>
   bR N (aR N n) n x1 x2 x7 x8 x2 (w64 ((z1.length:Int) - 1)) Zk Zh
  else
   some (.ok (x7,Zk,Zh))
def gP(N:RecC5)(x1:List (List VPiece))(x2:Int)(y0_0:Nat)(y1:List VSpot):Option (PR ax):=
 aR N N.n x1 x2 (-1) (w64 ((x1.length:Int) - 1)) y0_0 y1
def ek(n0:Nat):Nat->(List (List VPiece))->Int->Nat->(List VSpot)->Option (PR (Int × Nat × (List VSpot)))
 |0,_,_,_,_=>none
 |m+1,x1,x2,y0_0,y1=>gP ⟨n0,ek n0 m⟩ x1 x2 y0_0 y1
def jF(N:Nat)(x1:List (List VPiece))(x2:Int)(y0_0:Nat)(y1:List VSpot):Option (PR (Int × Nat × (List VSpot))):=ek N N x1 x2 y0_0 y1
set_option maxRecDepth 1000000
variable {MM:Nat}
def G7:VSpot:=⟨0,0,0,0,[]⟩
def tkP(S:List Bool)(a:Nat):VSpot:=⟨1,(a:Int),0,0,S⟩
def fkP(a b:Nat):VSpot:=⟨2,(a:Int),(b:Int),0,[]⟩
def bgP(n a:Nat):VSpot:=⟨3,(a:Int),0,(n:Int),[]⟩
def enP(n a:Nat):VSpot:=⟨4,(a:Int),0,(n:Int),[]⟩
def gr(sp:List VSpot)(q:Nat):Option Nod:=match sp[q]? with
 |none=>none
 |some s=>if s.Kind=0 then some .fin else if s.Kind=1 then some (.tk s.Set s.A.toNat) else if s.Kind=2 then some (.fk s.A.toNat s.B.toNat) else if s.Kind=3 then some (.sv (2 * s.Number.toNat) s.A.toNat) else some (.sv (2 * s.Number.toNat+1) s.A.toNat)
inductive SpOk (n G:Nat):VSpot->Prop
 |fin:SpOk n G G7
 |tk {S:List Bool} {a:Nat} (h1:S.length=256) (h2:a < n):SpOk n G (tkP S a)
 |fk {a b:Nat} (h1:a < n) (h2:b < n):SpOk n G (fkP a b)
 |bg {k a:Nat} (h1:k<=G) (h2:a < n):SpOk n G (bgP k a)
 |en {k a:Nat} (h1:k<=G) (h2:a < n):SpOk n G (enP k a)
def SpOk.mono{n n' G:Nat}(h:n<=n'){s:VSpot}(hs:SpOk n G s):SpOk n' G s:=by
 cases hs with
 |fin=>exact .fin
 |tk h1 h2=>exact .tk h1 (by omega)
 |fk h1 h2=>exact .fk (by omega) (by omega)
 |bg h1 h2=>exact .bg h1 (by omega)
 |en h1 h2=>exact .en h1 (by omega)
section
variable {sp:List VSpot} {q:Nat}
def HS(h:sp[q]? =some G7):gr sp q=some .fin:=by unfold gr;rw[h];rfl
def Mp{S:List Bool}{a:Nat}(h:sp[q]? =some (tkP S a)):gr sp q=some (.tk S a):=by unfold gr;rw[h];rfl
def Fh{a b:Nat}(h:sp[q]? =some (fkP a b)):gr sp q=some (.fk a b):=by unfold gr;rw[h];rfl
def Rt{n a:Nat}(h:sp[q]? =some (bgP n a)):gr sp q=some (.sv (2 * n) a):=by unfold gr;rw[h];rfl
def PM{n a:Nat}(h:sp[q]? =some (enP n a)):gr sp q=some (.sv (2 * n+1) a):=by unfold gr;rw[h];rfl
end
structure LayP (nu:Bool) (D:List UInt8->DnT) (sz G next:Nat) (l l':List VSpot) (b:Nat):Prop where
 le:l.length<=l'.length
 sz:l'.length<=l.length+sz
 keep:∀q,q < l.length->l'[q]? =l[q]?
 lt:b < l'.length
 den:∀L:List VSpot,(∀q,l.length<=q->q < l'.length->L[q]? =l'[q]?)->∀tx,Dn (gr L) tx nu b next (D tx)
 ok:∀q s,l.length<=q->l'[q]? =some s->SpOk l'.length G s
def qm(l:List VSpot)(s:VSpot):(l++ [s])[l.length]? =some s:=by rw[ZJ (ZN _),aau];rfl
def lb{l:List VSpot}{s:VSpot}{q:Nat}(h:q < l.length):(l++ [s])[q]? =l[q]? :=ZO h
section
variable {nu n1 n2:Bool} {D D1 D2:List UInt8->DnT} {sz s1 s2 G next b b1 b2 n:Nat} {l l1 l2:List VSpot} {S:List Bool}
def DE{s:VSpot}(h:∀q s',l.length<=q->l1[q]? =some s'->SpOk l1.length G s')(hs:SpOk (l1.length+1) G s):∀q s',l.length<=q->(l1++ [s])[q]? =some s'->SpOk (l1++ [s]).length G s':=fun q s' h1 h2=>by
 rw[ZR,aa3];by_cases e:q < l1.length
 ·rw[lb e] at h2;exact(h q s' h1 h2).mono (by omega)
 ·have:=(ZD.1 h2).1;rw[ZR,aa3] at this;have:q=l1.length:=by omega
  subst this;rw[qm] at h2;cases h2;exact hs
def U1:∀q s',l.length<=q->l[q]? =some s'->SpOk l.length G s':=fun q s' h1 h2=>by have:=(ZD.1 h2).1;omega
def UE(hS:S.length=256)(hn:next < l.length):LayP false (fun tx=>KR tx S) 1 G next l (l++ [tkP S next]) l.length:=
 ⟨by simp,by simp,fun q h=>lb h,by simp,fun L h tx=>JX (Mp (by rw[h _ (ZN _) (by simp),qm])),DE U1 (.tk hS (by omega))⟩
def TD(h:LayP nu D sz G next l l1 b)(hn:next < l.length):LayP true (fun tx K i=>D tx K i++K i) (sz+1) G next l (l1++ [fkP b next]) l1.length:=by have h1:=h.le;have h2:=h.sz;have h3:=h.lt;refine⟨by simp;omega,by simp;omega,fun q hq=>by rw[lb (by omega),h.keep q hq],by simp,fun L hL tx=> ?_,DE h.ok (.fk (by omega) (by omega))⟩;exact JP (Fh (by rw[hL _ h1 (by simp),qm])) (h.den L (fun q g1 g2=>by rw[hL q g1 (by simp;omega),lb g2]) tx)
def F2(h:LayP nu D sz G l.length (l++ [fkP 0 next]) l1 b):l1[l.length]? =some (fkP 0 next):=by rw[h.keep _ (by simp),qm]
def DQ{a:Nat}{x:VSpot}{q:Nat}(h:q≠a):(l1.set a x)[q]? =l1[q]? :=aaB (fun e=>h e.symm)
def NN{a:Nat}{x:VSpot}(h:a < l1.length):(l1.set a x)[a]? =some x:=by rw[aat (by simpa using h)]
def F5(h:LayP false D sz G l.length (l++ [fkP 0 next]) l1 b)(hn:next < l.length):l.length<=(l1.set l.length (fkP b next)).length/\(l1.set l.length (fkP b next)).length<=l.length+ (sz+1)/\(∀q,q < l.length->(l1.set l.length (fkP b next))[q]? =l[q]?)/\b < (l1.set l.length (fkP b next)).length/\l.length < (l1.set l.length (fkP b next)).length/\(∀L:List VSpot,(∀q,l.length<=q->q < (l1.set l.length (fkP b next)).length->L[q]? =(l1.set l.length (fkP b next))[q]?)->∀tx,gr L l.length=some (.fk b next)/\Dn (gr L) tx false b l.length (D tx))/\(∀q s,l.length<=q->(l1.set l.length (fkP b next))[q]? =some s->SpOk (l1.set l.length (fkP b next)).length G s):=by
 have h1:=h.le;have h2:=h.sz;have h3:=h.lt;simp only[List.length_append,List.length_singleton] at h1 h2;rw[aaA];refine⟨by omega,by omega,fun q hq=> ?_,h3,by omega,fun L hL tx=>⟨?_,?_⟩,fun q s g1 g2=> ?_⟩
 ·rw[DQ (by omega),h.keep q (by simp;omega),lb hq]
 ·exact Fh (by rw[hL _ (ZN _) (by omega),NN (by omega)])
 ·exact h.den L (fun q g1 g2=>by simp at g1;rw[hL q (by omega) g2,DQ (by omega)]) tx
 ·by_cases e:q=l.length
  ·subst e;rw[NN (by omega)] at g2;cases g2;exact .fk (by omega) (by omega)
  ·rw[DQ e] at g2;exact h.ok q s (by simp;omega) g2
def Rq(h:LayP false D sz G l.length (l++ [fkP 0 next]) l1 b)(hn:next < l.length):LayP true (fun tx K=>wE (D tx) K (tx.length+1)) (sz+1) G next l (l1.set l.length (fkP b next)) l.length:=by obtain⟨k1,k2,k3,k4,k5,k6,k7⟩:=F5 h hn;exact⟨k1,k2,k3,k5,fun L hL tx=>F4 (k6 L hL tx).1 (k6 L hL tx).2,k7⟩
def Ri(h:LayP false D sz G l.length (l++ [fkP 0 next]) l1 b)(hn:next < l.length):LayP false (fun tx K=>D tx (wE (D tx) K (tx.length+1))) (sz+1) G next l (l1.set l.length (fkP b next)) b:=by obtain⟨k1,k2,k3,k4,k5,k6,k7⟩:=F5 h hn;exact⟨k1,k2,k3,k4,fun L hL tx=>Hw (k6 L hL tx).1 (k6 L hL tx).2,k7⟩
def Sq(h:LayP nu D sz G l.length (l++ [enP n next]) l1 b)(hn:next < l.length)(hG:n<=G):LayP nu (fun tx=>Ub n (D tx)) (sz+2) G next l (l1++ [bgP n b]) l1.length:=by
 have h1:=h.le;have h2:=h.sz;have h3:=h.lt;simp only[List.length_append,List.length_singleton] at h1 h2;have hok:∀q s,l.length<=q->l1[q]? =some s->SpOk l1.length G s:=fun q s g1 g2=>by
  by_cases e:q=l.length
  ·subst e;rw[h.keep _ (by simp),qm] at g2;cases g2;exact .en hG (by omega)
  ·exact h.ok q s (by simp;omega) g2
 refine⟨by simp;omega,by simp;omega,fun q hq=>by rw[lb (by omega),h.keep q (by simp;omega),lb hq],by simp,fun L hL tx=> ?_,DE hok (.bg hG (by omega))⟩
 exact JT (Rt (by rw[hL _ (by omega) (by simp),qm])) (PM (by rw[hL _ (ZN _) (by simp;omega),lb (by omega),h.keep _ (by simp),qm])) (h.den L (fun q g1 g2=>by simp at g1;rw[hL q (by omega) (by simp;omega),lb g2]) tx)
def T7(hn:next < l.length):LayP true (fun _ K=>K) 0 G next l l next:=
 ⟨ZN _,ZN _,fun q h=>rfl,hn,fun L h tx=>Kx,U1⟩
def Ov(h2:LayP n2 D2 s2 G next l l1 b2)(h1:LayP n1 D1 s1 G b2 l1 l2 b1):LayP (n1 && n2) (fun tx K=>D1 tx (D2 tx K)) (s1+s2) G next l l2 b1:=by
 have a1:=h1.le;have a2:=h2.le;have a3:=h1.sz;have a4:=h2.sz;refine⟨by omega,by omega,fun q hq=>by rw[h1.keep q (by omega),h2.keep q hq],h1.lt,fun L hL tx=>F7 (h1.den L (fun q g1 g2=>hL q (by omega) g2) tx) (h2.den L (fun q g1 g2=>by rw[hL q g1 (by omega),h1.keep q g2]) tx),fun q s g1 g2=> ?_⟩;by_cases e:l1.length<=q
 ·exact h1.ok q s e g2
 ·rw[h1.keep q (by omega)] at g2;exact(h2.ok q s g1 g2).mono a1
def R7(h2:LayP n2 D2 s2 G next l l1 b2)(h1:LayP n1 D1 s1 G next l1 l2 b1):LayP (n1 || n2) (fun tx K i=>D1 tx K i++D2 tx K i) (s1+s2+2) G next l (l2++ [fkP b1 b2]) l2.length:=by
 have a1:=h1.le;have a2:=h2.le;have a3:=h1.sz;have a4:=h2.sz;have a5:=h1.lt;have a6:=h2.lt;have hok:∀q s,l.length<=q->l2[q]? =some s->SpOk l2.length G s:=fun q s g1 g2=>by
  by_cases e:l1.length<=q
  ·exact h1.ok q s e g2
  ·rw[h1.keep q (by omega)] at g2;exact(h2.ok q s g1 g2).mono a1
 refine⟨by simp;omega,by simp;omega,fun q hq=>by rw[lb (by omega),h1.keep q (by omega),h2.keep q hq],by simp,fun L hL tx=> ?_,DE hok (.fk (by omega) (by omega))⟩
 exact Kv (Fh (by rw[hL _ (by omega) (by simp),qm])) (h1.den L (fun q g1 g2=>by rw[hL q (by omega) (by simp;omega),lb g2]) tx) (h2.den L (fun q g1 g2=>by rw[hL q g1 (by simp;omega),lb (by omega),h1.keep q g2]) tx)
end
def F3(N:Nat)(s:VSpot)(l:List VSpot)(h:l.length<=1000):aA N s l.length l=some (.ok ((l.length:Int),(l++ [s]).length,l++ [s])):=by
 unfold aA;have hv:lg 56 l.length l [s] =some (l++ [s]):=by unfold lg;rw[ZI ⟨rfl,by simp,by simp;omega⟩]
 have e:w64 (((l++ [s]).length:Int) - 1)=(l.length:Int):=by rw[ZR,aa3,kX (by omega) (by omega)];omega
 rw[hv,ZC,e]
def Ks(k:(List (List VPiece))->Int->Nat->(List VSpot)->Option (PR (Int × Nat × (List VSpot))))(G:Nat)(M:Nd):Prop:=
 ∀ (next:Nat) (l:List VSpot),next < l.length->l.length+M.len<=900->∃ (l':List VSpot) (b:Nat),k M.vv.2 (next:Int) l.length l=some (.ok ((b:Int),l'.length,l'))/\LayP M.null (fun tx=>M.dn tx) M.len G next l l' b
def Nd.nu0:Nd->Bool
 |.grp _ M _=>M.null
 |_=>false
def Nd.dn0(tx:List UInt8):Nd->DnT
 |.set S _=>KR tx S
 |.grp n M _=>Ub n (M.dn tx)
 |_=>fun K=>K
def Nd.len0:Nd->Nat
 |.set _ _=>1
 |.grp _ M _=>M.len+2
 |_=>0
def Nd.sg:Nd->UInt8
 |.set _ sg=>sg
 |.grp _ _ sg=>sg
 |_=>0
def Xy{k}{G:Nat}:∀ (x:Nd),x.fm.1->x.Ok G->(∀n M sg,x=.grp n M sg->Ks k G M)->∀ (next:Nat) (l:List VSpot),next < l.length->l.length+x.len0<=900->∃ (l':List VSpot) (b:Nat),bU ⟨MM+3000,k⟩ x.vv.1 (next:Int) l.length l=some (.ok ((b:Int),l'.length,l'))/\LayP x.nu0 (fun tx=>x.dn0 tx) x.len0 G next l l' b
 |.set S sg,hf,hok,hk,next,l,hn,hl=>by refine⟨_,_,?_,UE hok.1 hn⟩;unfold bU eD;show((aA (MM+3000) (tkP S next) l.length l).bind _)=_;rw[F3 _ _ _ (by omega),ZC]
 |.grp n M sg,hf,hok,hk,next,l,hn,hl=>by
  have hl:l.length+ (M.len+2)<=900:=hl;obtain⟨l1,b,e,hP⟩:=hk n M sg rfl l.length (l++ [enP n next]) (by simp) (by simp;omega);have h2:=hP.sz;have h1:=hP.le;simp only[List.length_append,List.length_singleton] at h1 h2;refine⟨_,_,?_,Sq hP hn hok.2.2.2⟩;unfold bU eD;show((aA (MM+3000) (enP n next) l.length l).bind _)=_
  rw[F3 _ _ _ (by omega),ZC];show((k M.vv.2 (l.length:Int) (l++ [enP n next]).length (l++ [enP n next])).bind _)=_;rw[e,ZC];show((aA (MM+3000) (bgP n b) l1.length l1).bind _)=_;rw[F3 _ _ _ (by omega),ZC]
 |.nil,hf,_,_,_,_,_,_=>hf.elim
 |.cons _ _,hf,_,_,_,_,_,_=>hf.elim
 |.alt _ _,hf,_,_,_,_,_,_=>hf.elim
def Po(x:Nd):VPiece.mk x.vv.1.Group x.vv.1.Set x.vv.1.Number x.vv.1.Rows x.vv.1.Sign=x.vv.1:=by cases x<;> rfl
def Nd.sign_is:∀ (x:Nd),x.vv.1.Sign=x.sg
 |.set _ _|.grp _ _ _|.nil|.cons _ _|.alt _ _=>rfl
def Nd.piece_parts{G:Nat}:∀ (x:Nd),x.fm.1->x.Ok G->KU x.sg/\((x.sg=42\/x.sg=43)->x.nu0=false)/\x.null=(sgN x.sg || x.nu0)/\(∀tx,x.dn tx=AN tx x.sg (x.dn0 tx))/\x.len=x.len0+sgL x.sg
 |.set S sg,hf,hok=>⟨hok.2,fun _=>rfl,by show sgN sg=_;simp[Nd.nu0,Nd.sg],fun _=>rfl,rfl⟩
 |.grp n M sg,hf,hok=>⟨hok.2.1,hok.2.2.1,rfl,fun _=>rfl,rfl⟩
 |.nil,hf,_=>hf.elim
 |.cons _ _,hf,_=>hf.elim
 |.alt _ _,hf,_=>hf.elim
def VV{k}{G:Nat}(x:Nd)(hf:x.fm.1)(hok:x.Ok G)(hk:∀n M sg,x=.grp n M sg->Ks k G M)(next:Nat)(l:List VSpot)(hn:next < l.length)(hl:l.length+x.len<=900):∃ (l':List VSpot) (b:Nat),dN ⟨MM+3000,k⟩ x.vv.1 (next:Int) l.length l=some (.ok ((b:Int),l'.length,l'))/\LayP x.null (fun tx=>x.dn tx) x.len G next l l' b:=by
 obtain⟨p1,p2,p3,p4,p5⟩:=x.piece_parts hf hok;have ho:=Xy (MM:=MM) (k:=k) x hf hok hk;have hs:=x.sign_is;generalize x.sg=sg at p1 p2 p3 p4 p5 hs
 have fin:∀ {l' b},LayP (sgN sg || x.nu0) (fun tx=>AN tx sg (x.dn0 tx)) (x.len0+sgL sg) G next l l' b->LayP x.null (fun tx=>x.dn tx) x.len G next l l' b:=fun h=>by rw[p3,p5,show(fun tx=>x.dn tx)=fun tx=>AN tx sg (x.dn0 tx) from funext p4];exact h
 unfold dN dJ;rw[Po,hs];have six:(sg=42\/sg=43)->∃ (l1:List VSpot) (b1:Nat),bU ⟨MM+3000,k⟩ x.vv.1 (l.length:Int) (l++ [fkP 0 next]).length (l++ [fkP 0 next])=some (.ok ((b1:Int),l1.length,l1))/\LayP false (fun tx=>x.dn0 tx) x.len0 G l.length (l++ [fkP 0 next]) l1 b1:=fun h=>by
  have:=ho l.length (l++ [fkP 0 next]) (by simp) (by
   have:1<=sgL sg:=by rcases h with rfl|rfl<;> decide
   simp;omega)
  rw[p2 h] at this;exact this
 rcases p1 with rfl|rfl|rfl|rfl
 ·obtain⟨l1,b1,e,hP⟩:=ho next l hn (by omega)
  refine⟨l1,b1,?_,fin hP⟩;rw[show(b2i 0==b2i 63)=false from rfl,show(b2i 0==b2i 42)=false from rfl,show(b2i 0==b2i 43)=false from rfl,ZF,ZF,ZF,e,ZC]
 ·obtain⟨l1,b1,e,hP⟩:=six (.inl rfl)
  have hL:=Rq hP hn;have hg:=F2 hP;have hlt:=(ZD.1 hg).1;refine⟨_,_,?_,fin ⟨hL.le,aaM hL.sz (by show _<=l.length+ (x.len0+2);omega),hL.keep,hL.lt,hL.den,hL.ok⟩⟩;rw[show(b2i 42==b2i 63)=false from rfl,show(b2i 42==b2i 42)=true from rfl,show(b2i 42==b2i 43)=false from rfl,ZF,ZG];show((aA (MM+3000) (fkP 0 next) l.length l).bind _)=_
  rw[F3 _ _ _ (by omega),ZC];dsimp only;rw[e,ZC];dsimp only;rw[dT hlt,ZC,hg,ZC,ZF,aaA];rfl
 ·obtain⟨l1,b1,e,hP⟩:=six (.inr rfl);have hL:=Ri hP hn;have hg:=F2 hP;have hlt:=(ZD.1 hg).1;have hnu:(sgN 43 || x.nu0)=false:=by rw[p2 (.inr rfl)];rfl
  rw[hnu] at fin;refine⟨_,_,?_,fin hL⟩;rw[show(b2i 43==b2i 63)=false from rfl,show(b2i 43==b2i 42)=false from rfl,show(b2i 43==b2i 43)=true from rfl,ZF,ZF,ZG];show((aA (MM+3000) (fkP 0 next) l.length l).bind _)=_;rw[F3 _ _ _ (by omega),ZC];dsimp only;rw[e,ZC];dsimp only;rw[dT hlt,ZC,hg,ZC,ZG,aaA];rfl
 ·obtain⟨l1,b1,e,hP⟩:=ho next l hn (by omega)
  have hL:=TD hP hn;have h2:=hP.sz;refine⟨_,_,?_,fin hL⟩;rw[show(b2i 63==b2i 63)=true from rfl,ZG,e,ZC];show((aA (MM+3000) (fkP b1 next) l1.length l1).bind _)=_;have hs63:sgL 63=1:=rfl;rw[F3 _ _ _ (by omega),ZC]
set_option maxRecDepth 1000000
variable {MM:Nat}
def Nd.ps(r:Nd):List VPiece:=r.vv.2.headD []
def ri{α:Type}{l:List α}{i:Nat}{x:α}(h:l[i]? =some x):ci l (i:Int)=some x:=by rw[ixn,h]
def H6{α:Type}(l r:List α)(x:α):(l++x::r)[l.length]? =some x:=by rw[ZJ (ZN _),aau];rfl
def JG(k:(List (List VPiece))->Int->Nat->(List VSpot)->Option (PR (Int × Nat × (List VSpot))))(G m:Nat):Prop:=∀M:Nd,M.len < m->M.fm.2.2->M.Ok G->Ks k G M
def Bj:∀ (p:Nd),p.fm.1->1<=p.len
 |.set S sg,h=>by show 1<=1+sgL sg;omega
 |.grp n M sg,h=>by show 1<=M.len+2+sgL sg;omega
 |.nil,h=>h.elim
 |.cons _ _,h=>h.elim
 |.alt _ _,h=>h.elim
section
variable {k:(List (List VPiece))->Int->Nat->(List VSpot)->Option (PR (Int × Nat × (List VSpot)))} {G m:Nat}
def Vk(hk:JG k G m){k3:(List (List VPiece))->Int->Int->Int->Nat->(List VSpot)->Option (PR ax)}{X:List (List VPiece)}{i:Nat}(x7:Int)(next:Nat):∀ (r:Nd),r.fm.2.1->r.Ok G->r.len<=m->∀ (pre:List VPiece),X[i]? =some (pre++r.ps)->pre.length+r.len<=100000->∀ (l:List VSpot) (n:Nat),next < l.length->l.length+r.len<=900->∃ (l':List VSpot) (b:Nat),bR ⟨MM+3000,k⟩ k3 (n+r.ps.length) X (next:Int) x7 (i:Int) (next:Int) (((pre.length+r.ps.length:Nat):Int) - 1) l.length l=bR ⟨MM+3000,k⟩ k3 n X (next:Int) x7 (i:Int) (b:Int) ((pre.length:Int) - 1) l'.length l'/\LayP r.null (fun tx=>r.dn tx) r.len G next l l' b
 |.nil,hf,hok,hm,pre,hX,hp,l,n,hn,hl=>⟨l,next,rfl,T7 hn⟩
 |.cons p r,hf,hok,hm,pre,hX,hp,l,n,hn,hl=>by
  have hm:p.len+r.len<=m:=hm;have hl:l.length+ (p.len+r.len)<=900:=hl;have hp:pre.length+ (p.len+r.len)<=100000:=hp;have h1p:=Bj p hf.1;have hps:(Nd.cons p r).ps=p.vv.1::r.ps:=rfl;rw[hps] at hX ⊢;obtain⟨l1,b1,e1,hP1⟩:=Vk hk (k3:=k3) x7 next r hf.2 hok.2 (by omega) (pre++ [p.vv.1]) (by rw[hX];simp) (by
   have:(pre++ [p.vv.1]).length=pre.length+1:=by simp
   omega) l (n+1) hn (by omega)
  have h2:=hP1.sz;have hrc:∀n' M sg,p=.grp n' M sg->Ks k G M:=fun n' M sg e=>by subst e;have:M.len+2+sgL sg+r.len<=m:=hm;exact hk M (by omega) hf.1 hok.1.1
  obtain⟨l2,b2,e2,hP2⟩:=VV (MM:=MM) p hf.1 hok.1 hrc b1 l1 hP1.lt (by omega);refine⟨l2,b2,?_,?_⟩
  ·rw[ZR,aa3,show n+1+r.ps.length=n+ (p.vv.1::r.ps).length by simp;omega,show pre.length+1+r.ps.length=pre.length+ (p.vv.1::r.ps).length by simp;omega] at e1;rw[e1,bR,show(((pre.length+1:Nat):Int) - 1)=(pre.length:Int) by omega,Z0 (by omega),ZG,ri hX,ZC,ri (H6 _ _ _),ZC,Po,e2,ZC];dsimp only;rw[kX (by omega) (by omega)]
  ·have:=Ov hP1 hP2;have hs:r.len+p.len=p.len+r.len:=abO _ _;exact⟨this.le,by have:=this.sz;show _<=l.length+ (p.len+r.len);omega,this.keep,this.lt,this.den,this.ok⟩
def Rv (k3 : (List (List VPiece)) -> Int -> Int -> Int -> Nat -> (List VSpot) -> Option (PR ax)) (n : Nat) (X : List (List VPiece)) (next x7 i b : Int) (l : List VSpot) : bR ⟨MM + 3000, k⟩ k3 (n + 1) X next x7 i b (((0 : Nat) : Int) - 1) l.length l = bif decide (x7 < 0) then k3 X next b (w64 (i - 1)) l.length l else (aA (MM + 3000) (⟨2, b, x7, 0, []⟩ : VSpot) l.length l).bind fun z6 =>
        match z6 with
        |.pan vz6=>some (.pan vz6)
        |.ok z7=>k3 X next z7.1 (w64 (i - 1)) z7.2.1 z7.2.2:=by
 rw[bR,Z1 (by omega),ZF];rfl
def Rg:∀ (r:Nd),r.fm.2.1->r.ps.length<=r.len
 |.set _ _,h=>h.elim
 |.grp _ _ _,h=>h.elim
 |.nil,_=>ZN _
 |.cons p r,h=>by have:=Rg r h.2;have:=Bj p h.1;show(p.vv.1::r.ps).length<=p.len+r.len;simp;omega
 |.alt r M,h=>h.elim
def Tm{r:Nd}(h:r.fm.2.1):r.vv.2=[r.ps] :=Nd.row_vv h
def G0:∀ (M:Nd),M.fm.2.2->M.vv.2.length<=M.len+1
 |.set _ _,h=>h.elim
 |.grp _ _ _,h=>h.elim
 |.nil,_=>ZN _
 |.cons p r,h=>by show 1<=_;omega
 |.alt r M,h=>by have:=G0 M h.2;show(r.ps::M.vv.2).length<=r.len+M.len+2+1;simp;omega
def Vo (hk : JG k G m) {X : List (List VPiece)} {i : Nat} (hi : i <= 100000) (x7 : Int) (next : Nat) (r : Nd) (hf : r.fm.2.1) (hok : r.Ok G) (hm : r.len <= m) (hX : X[i]? = some r.ps) (l : List VSpot) (n : Nat) (hn : next < l.length) (hl : l.length + r.len <= 900) (hfu : 1000 <= n) : ∃ (l' : List VSpot) (b : Nat), aR ⟨MM + 3000, k⟩ (n + 1) X (next : Int) x7 (i : Int) l.length l = (bif decide (x7 < 0) then aR ⟨MM + 3000, k⟩ n X next (b : Int) ((i : Int) - 1) l'.length l' else (aA (MM + 3000) (⟨2, (b : Int), x7, 0, []⟩ : VSpot) l'.length l').bind fun z6 =>
        match z6 with
        |.pan vz6=>some (.pan vz6)
        |.ok z7=>aR ⟨MM+3000,k⟩ n X next z7.1 ((i:Int) - 1) z7.2.1 z7.2.2)/\LayP r.null (fun tx=>r.dn tx) r.len G next l l' b:=by
 have hp:=Rg r hf;obtain⟨n',rfl⟩:∃n',n=n'+1+r.ps.length:=⟨n - 1 - r.ps.length,by omega⟩
 obtain⟨l',b,e,hP⟩:=Vk (MM:=MM) hk (k3:=aR ⟨MM+3000,k⟩ (n'+1+r.ps.length)) (i:=i) x7 next r hf hok hm [] (by rw[hX];rfl) (by simp;omega) l (n'+1) hn hl
 refine⟨l',b,?_,hP⟩;rw[aR,Z0 (by omega),ZG,ri hX,ZC,kX (by omega) (by omega)];rw[show([] :List VPiece).length+r.ps.length=r.ps.length by simp] at e;rw[e];show bR _ _ (n'+1) X next x7 i b (((0:Nat):Int) - 1) l'.length l'=_
 rw[Rv,kX (by omega) (by omega)]
def Wf(hk:JG k G m){X:List (List VPiece)}(next:Nat):∀ (M:Nd),M.fm.2.2->M.Ok G->M.len<=m->∀ (pre:List (List VPiece)),X=pre++M.vv.2->pre.length+M.len<=90000->∀ (l:List VSpot) (n:Nat),next < l.length->l.length+M.len<=900->1000<=n->∃ (l':List VSpot) (b:Nat),aR ⟨MM+3000,k⟩ (n+M.vv.2.length) X (next:Int) (-1) (((pre.length+M.vv.2.length:Nat):Int) - 1) l.length l=aR ⟨MM+3000,k⟩ n X (next:Int) (b:Int) ((pre.length:Int) - 1) l'.length l'/\LayP M.null (fun tx=>M.dn tx) M.len G next l l' b:=by
 have one:∀ (r:Nd),r.fm.2.1->r.Ok G->r.len<=m->∀ (pre:List (List VPiece)),X=pre++r.vv.2->pre.length+r.len<=90000->∀ (l:List VSpot) (n:Nat),next < l.length->l.length+r.len<=900->1000<=n->∃ (l':List VSpot) (b:Nat),aR ⟨MM+3000,k⟩ (n+r.vv.2.length) X (next:Int) (-1) (((pre.length+r.vv.2.length:Nat):Int) - 1) l.length l=aR ⟨MM+3000,k⟩ n X (next:Int) (b:Int) ((pre.length:Int) - 1) l'.length l'/\LayP r.null (fun tx=>r.dn tx) r.len G next l l' b:=fun r hf hok hm pre hX hp l n hn hl hfu=>by
  rw[Tm hf] at hX ⊢;obtain⟨l',b,e,hP⟩:=Vo (MM:=MM) hk (X:=X) (i:=pre.length) (by omega) (-1) next r hf hok hm (by rw[hX];exact H6 _ _ _) l n hn hl hfu
  refine⟨l',b,?_,hP⟩;show aR _ (n+1) X next (-1) (((pre.length+1:Nat):Int) - 1) l.length l=_
  rw[show(((pre.length+1:Nat):Int) - 1)=(pre.length:Int) by omega,e,Z0 (by omega),ZG]
 intro M
 induction M with
 |set S sg=>intro hf;exact hf.elim
 |grp n M sg _=>intro hf;exact hf.elim
 |nil=>intro hf;exact one .nil trivial
 |cons p r _ _=>intro hf;exact one (.cons p r) hf
 |alt r M _ ih=>
  intro hf hok hm pre hX hp l n hn hl hfu;have hm:r.len+M.len+2<=m:=hm;have hp:pre.length+ (r.len+M.len+2)<=90000:=hp;have hl:l.length+ (r.len+M.len+2)<=900:=hl;have hX:X=pre++r.ps::M.vv.2:=hX;obtain⟨l1,b1,e1,hP1⟩:=ih hf.2 hok.2 (by omega) (pre++ [r.ps]) (by rw[hX];simp) (by simp;omega) l (n+1) hn (by omega) (by omega)
  have s1:=hP1.sz;have t1:=hP1.le;obtain⟨l2,b2,e2,hP2⟩:=Vo (MM:=MM) hk (X:=X) (i:=pre.length) (by omega) (b1:Int) next r hf.1 hok.1 (by omega) (by rw[hX];exact H6 _ _ _) l1 n (by omega) (by omega) hfu
  have s2:=hP2.sz;refine⟨_,_,?_,R7 hP1 hP2⟩;show aR _ (n+ (M.vv.2.length+1)) X next (-1) (((pre.length+ (M.vv.2.length+1):Nat):Int) - 1) l.length l=_
  rw[ZR,aa3,show n+1+M.vv.2.length=n+ (M.vv.2.length+1) by omega,show pre.length+1+M.vv.2.length=pre.length+ (M.vv.2.length+1) by omega] at e1;rw[e1,show(((pre.length+1:Nat):Int) - 1)=(pre.length:Int) by omega,e2,Z1 (by omega),ZF];show((aA (MM+3000) (fkP b2 b1) l2.length l2).bind _)=_;rw[F3 _ _ _ (by omega),ZC]
end
def N7{G:Nat}:∀ (m:Nat),JG (ek (MM+3000) m) G m
 |0=>fun M h=>by omega
 |m+1=>fun M h hf hok next l hn hl=>by
  have hr:=G0 M hf;obtain⟨n',hn'⟩:∃n',MM+3000=(n'+1)+M.vv.2.length:=⟨MM+3000 - 1 - M.vv.2.length,by omega⟩
  obtain⟨l',b,e,hP⟩:=Wf (MM:=MM) (N7 m) (X:=M.vv.2) next M hf hok (by omega) [] rfl (by simp;omega) l (n'+1) hn hl (by omega)
  refine⟨l',b,?_,hP⟩;show aR ⟨MM+3000,ek (MM+3000) m⟩ (MM+3000) M.vv.2 next (-1) (w64 ((M.vv.2.length:Int) - 1)) l.length l=_
  rw[kX (by omega) (by omega)];rw[<- hn',show([] :List (List VPiece)).length+M.vv.2.length=M.vv.2.length by simp] at e;rw[e,aR,show((([] :List (List VPiece)).length:Int) - 1)= -1 from rfl,Z1 (by omega),ZF]
set_option maxRecDepth 100000
def gl(i0:Nat)(i1:Nat)(r:cU):TV EE.T:=.a (.d (.int .i64) r.1)
def wY(i0:Nat)(i1:Nat)(r:cU):List (Nat × TB EE.T):=[(i0,.cs [.vec (.nam 4) i1 r.2.1]),(i1,.vec i1 (.nam 4) r.2.2)]
def uU(r:PR cU):RL EE.T:=mM (gl 100000 200001) (wY 100000 200001) r
def Ui:Lvs:=⟨[(1,⟨[(0,false),(3,false)],[],[(3,(some 4,[])),(100000,(none,[])),(200001,(none,[]))],[]⟩)],[],[],[],false,[(100000,(none,[]))],[100000,200001],[],[(12,200001)]⟩
def Sa:List ResultVar:=[.tmp 4]
def Qn(N:Nat):Gam EE:=⟨[],EQT,[],[]⟩
def NI(N:Nat):GOk Try.prog TT EE (Qn N):=GOk.nil cQ
def N6(c:Code):List It2:=[.c c]
def Qb(x1:VSpot)(y0_0:Nat)(y1:List VSpot):TS EE.T:=⟨21,[(0,.a (.box 100000 0)),(1,.ag (cL EE (.nam 4) x1))],[(100000,.cs [.vec (.nam 4) 200001 y0_0]),(200001,.vec 200001 (.nam 4) y1)],[]⟩
abbrev SU(N:Nat)(r:PR cU)(k:List It2)(s:TS EE.T):Prop:=fL (Y:=TT) EE (Qn N) Ui Sa (fun u=>u=uU r) k s
def UH(x:PR cU):Tree (Lf EE.T × Option (PR cU)):=.leaf (.done (uU x),some x)
def OP{N:Nat}{r:PR cU}(x1:VSpot)(y0_0:Nat)(y1:List VSpot)(h:aA N x1 y0_0 y1=some r):SU N r (N6 (aa 0 Try.f26)) (Qb x1 y0_0 y1):=
 au (m:=4000) (t:=
 .bnd (lg 56 y0_0 y1 ([x1] :List VSpot)) fun z1=>
 UH (.ok (w64 ((z1.length:Int) - 1),z1.length,z1))) (by kernel_rfl) (by kernel_rfl) h (fun _=>aE (enc:=uU) rfl)
def Ke(x1:VSpot)(y0_0:Nat)(y1:List VSpot):List (TV EE.T):=[.a (.box 100000 0),.ag (cL EE (.nam 4) x1)]
def Dv(x1:VSpot)(y0_0:Nat)(y1:List VSpot):List (Nat × TB EE.T):=[(100000,.cs [.vec (.nam 4) 200001 y0_0]),(200001,.vec 200001 (.nam 4) y1)]
def pU{N:Nat}(x1:VSpot)(y0_0:Nat)(y1:List VSpot){r:PR cU}(h:aA N x1 y0_0 y1=some r)(I:Rn)(hi:Inj I (Dv x1 y0_0 y1)):aI Try.prog 26 ((Ke x1 y0_0 y1).map (TV.to EE.toEnc I)) (hTo EE.toEnc I (Dv x1 y0_0 y1)) (cH EE I fun u=>u=uU r):=
 dI (aa 0 Try.f26) 21 mixed (NI N) Try.func26 (by kernel_rfl) rfl rfl rfl rfl (OP x1 y0_0 y1 h) I hi
def fj(N:Nat)(us:List (TV EE.T))(hs:List (Nat × TB EE.T)):XR EE.T:=
 gdX (d7 us 2) <|
 bnX (aB us 0) fun i0=>
 bnX (aS EE 4 us 1) fun x1=>
 bnX (bC hs i0) fun l0=>
 gdX (d7 l0 1) <|
 bnX (cVi (.nam 4) l0 0) fun i1=>
 bnX (cVn (.nam 4) l0 0) fun y0_0=>
 bnX (bV (.nam 4) hs i1) fun y1=>
 gdX (bx hs [i0,i1]) <|
 gdX (ip [i0,i1]) <|
 .mv (aA N x1 y0_0 y1) [i0,i1] (mvL [i0,i1] [100000,200001]) 0 (gl i0 i1) (wY i0 i1)
def fQ(N:Nat):XOk Try.prog EE 26 (fj N):=fun us hs=>
 ay fun h1=>ab fun i0 h2=>ab fun x1 h3=>ab fun l0 h4=>ay fun h5=>ab fun i1 h6=>ab fun y0_0 h7=>ab fun y1 h8=>ay fun h9=>ay fun h10=>fun p hz I hi=>gh (ex:=[]) (ks:=[100000,200001]) (us':=Ke x1 y0_0 y1) (h0:=Dv x1 y0_0 y1) (ρ':=jh I [i0,i1]) (uc:=gl 100000 200001) (u:=gl i0 i1) (hc:=wY 100000 200001) (h:=wY i0 i1) hi h9 (by kernel_rfl) ⟨gG h2 (by kernel_rfl),Bq h3,bA h1⟩ ⟨(by kernel_rfl),jD h4 ⟨gi h6 h7 (by kernel_rfl),bA h5⟩,(by kernel_rfl),iw h8 (by kernel_rfl),trivial⟩ ⟨.inr rfl,.inl rfl,trivial⟩ h10 (fun hj=>pU x1 y0_0 y1 hz _ hj) (fun z=>⟨by kernel_rfl,by kernel_rfl,by kernel_rfl,by kernel_rfl⟩)
def rV(i0:Nat)(i1:Nat)(r:Int × Nat × (List VSpot)):TV EE.T:=.a (.d (.int .i64) r.1)
def qj(i0:Nat)(i1:Nat)(r:Int × Nat × (List VSpot)):List (Nat × TB EE.T):=[(i0,.cs [.vec (.nam 4) i1 r.2.1]),(i1,.vec i1 (.nam 4) r.2.2)]
def gt(N:RecC5)(us:List (TV EE.T))(hs:List (Nat × TB EE.T)):XR EE.T:=
 gdX (d7 us 3) <|
 bnX (aB us 0) fun i0=>
 bnX (aD (.sl (.sl (.nam 11))) us 1) fun x1=>
 bnX (aD (.int .i64) us 2) fun x2=>
 bnX (bC hs i0) fun l0=>
 gdX (d7 l0 1) <|
 bnX (cVi (.nam 4) l0 0) fun i1=>
 bnX (cVn (.nam 4) l0 0) fun y0_0=>
 bnX (bV (.nam 4) hs i1) fun y1=>
 gdX (bx hs [i0,i1]) <|
 gdX (ip [i0,i1]) <|
 .mv (jE N x1 x2 y0_0 y1) [i0,i1] (mvL [i0,i1] [100000,200001]) 0 (rV i0 i1) (qj i0 i1)
def lh(N:RecC5):Prop:=XOk Try.prog EE 25 (gt N)
def pz(N:RecC5)(hN:lh N):XOk Try.prog EE 25 (gt N):=hN
def Lz(n:Nat):lh ⟨n,fun _ _ _ _=>none⟩:=fun us hs=>
 ay fun h1=>ab fun i0 h2=>ab fun x1 h3=>ab fun x2 h4=>ab fun l0 h5=>ay fun h6=>ab fun i1 h7=>ab fun y0_0 h8=>ab fun y1 h9=>ay fun h10=>ay fun h11=>fun p hz=>by cases hz
def f8(i0:Nat)(i1:Nat)(r:bE):TV EE.T:=.a (.d (.int .i64) r.1)
def xG(i0:Nat)(i1:Nat)(r:bE):List (Nat × TB EE.T):=[(i0,.cs [.vec (.nam 4) i1 r.2.1]),(i1,.vec i1 (.nam 4) r.2.2)]
def jY(r:PR bE):RL EE.T:=mM (f8 100000 200001) (xG 100000 200001) r
def S2:Lvs:=⟨[(0,⟨[(0,false),(1,false),(2,false)],[(1,11)],[(100000,(none,[])),(200001,(none,[]))],[]⟩),(4,⟨[(0,false),(4,false),(7,false)],[],[(4,(some 11,[])),(100000,(none,[])),(200001,(none,[]))],[]⟩)],[],[0],[],false,[(100000,(none,[]))],[100000,200001],[],[]⟩
def Sl:List ResultVar:=[.tmp 6]
def Pj(N:RecC5):Gam EE:=⟨[],EQT,[⟨26,fj N.n⟩,⟨25,gt N⟩],[]⟩
def Px(N:RecC5)(hN:lh N):GOk Try.prog TT EE (Pj N):=GOk.consx (fQ N.n) (GOk.consx (pz N hN) (GOk.nil cQ))
def EK(c:Code):List It2:=atR 0 c
def Fl(x1:VPiece)(x2:Int)(Zk:Nat)(Zh:List VSpot):TS EE.T:=⟨33,[(0,.a (.box 100000 0)),(1,.ag (cL EE (.nam 11) x1)),(2,.a (.d (.int .i64) x2))],[(100000,.cs [.vec (.nam 4) 200001 Zk]),(200001,.vec 200001 (.nam 4) Zh)],[]⟩
def Pg(c:Code):List It2:=[.c c]
def NM(x1:VPiece)(x2:Int)(y0_0:Nat)(y1:List VSpot):TS EE.T:=⟨33,[(0,.a (.box 100000 0)),(1,.ag (cL EE (.nam 11) x1)),(2,.a (.d (.int .i64) x2))],[(100000,.cs [.vec (.nam 4) 200001 y0_0]),(200001,.vec 200001 (.nam 4) y1)],[]⟩
def Pd(c:Code)(f:VPiece->Int->Nat->(List VSpot)->Option (PR bE))(x1:VPiece)(x2:Int)(Zk:Nat)(Zh:List VSpot):Tree (Lf EE.T × Option (PR bE)):=.leaf (.go (EK c) (Fl x1 x2 Zk Zh),f x1 x2 Zk Zh)
abbrev Km(N:RecC5)(r:PR bE)(k:List It2)(s:TS EE.T):Prop:=fL (Y:=TT) EE (Pj N) S2 Sl (fun u=>u=jY r) k s
def rc(x:PR bE):Tree (Lf EE.T × Option (PR bE)):=.leaf (.done (jY x),some x)
def RD{N:RecC5}{r:PR bE}(n:Nat)(x1:VPiece)(x2:Int)(Zk:Nat)(Zh:List VSpot)(h:eD N n x1 x2 Zk Zh=some r):Km N r (EK (aa 0 Try.f58)) (Fl x1 x2 Zk Zh):=
 au (m:=4000) (t:=
 .cond (!x1.Group)
 (
  .bnd (aA N.n ({ Kind:=1,A:=x2,B:=0,Number:=0,Set:=x1.Set }:VSpot) Zk Zh) fun z1=>
  .sm z1 (fun z2=>
   rc (.ok (z2.1,z2.2.1,z2.2.2))) (fun vz1=>
   rc (.pan vz1)))
 (
  .bnd (aA N.n ({ Kind:=4,A:=x2,B:=0,Number:=x1.Number,Set:=([] :List Bool) }:VSpot) Zk Zh) fun z3=>
  .sm z3 (fun z4=>
   nlR 2 (
    .bnd (jE N x1.Rows z4.1 z4.2.1 z4.2.2) fun z5=>
    .sm z5 (fun z6=>
     .bnd (aA N.n ({ Kind:=3,A:=z6.1,B:=0,Number:=x1.Number,Set:=([] :List Bool) }:VSpot) z6.2.1 z6.2.2) fun z7=>
     .sm z7 (fun z8=>
      rc (.ok (z8.1,z8.2.1,z8.2.2))) (fun vz7=>
      rc (.pan vz7))) (fun vz5=>
     rc (.pan vz5)))) (fun vz3=>
   rc (.pan vz3)))) (by kernel_rfl) (by kernel_rfl) h (⟨fun _=>⟨fun _=>aE (enc:=jY) rfl,fun _=>aE (enc:=jY) rfl⟩,fun _=>⟨fun _=>xc (fun _=>⟨fun _=>fun _=>⟨fun _=>aE (enc:=jY) rfl,fun _=>aE (enc:=jY) rfl⟩,fun _=>aE (enc:=jY) rfl⟩),fun _=>aE (enc:=jY) rfl⟩⟩)
def Rx{N:RecC5}{r:PR bE}(x1:VPiece)(x2:Int)(y0_0:Nat)(y1:List VSpot)(h:bU N x1 x2 y0_0 y1=some r):Km N r (Pg (aa 0 Try.f58)) (NM x1 x2 y0_0 y1):=
 au (m:=4000) (t:=
 Pd (aa 0 Try.f58) (eD N N.n) (VPiece.mk x1.Group x1.Set x1.Number x1.Rows x1.Sign) x2 y0_0 y1) (by kernel_rfl) (by kernel_rfl) h (fun h=>RD N.n _ _ _ _ h)
def JM(x1:VPiece)(x2:Int)(y0_0:Nat)(y1:List VSpot):List (TV EE.T):=[.a (.box 100000 0),.ag (cL EE (.nam 11) x1),.a (.d (.int .i64) x2)]
def Dz(x1:VPiece)(x2:Int)(y0_0:Nat)(y1:List VSpot):List (Nat × TB EE.T):=[(100000,.cs [.vec (.nam 4) 200001 y0_0]),(200001,.vec 200001 (.nam 4) y1)]
def pv{N:RecC5}(hN:lh N)(x1:VPiece)(x2:Int)(y0_0:Nat)(y1:List VSpot){r:PR bE}(h:bU N x1 x2 y0_0 y1=some r)(I:Rn)(hi:Inj I (Dz x1 x2 y0_0 y1)):aI Try.prog 58 ((JM x1 x2 y0_0 y1).map (TV.to EE.toEnc I)) (hTo EE.toEnc I (Dz x1 x2 y0_0 y1)) (cH EE I fun u=>u=jY r):=
 dI (aa 0 Try.f58) 33 mixed (Px N hN) Try.func58 (by kernel_rfl) rfl rfl rfl rfl (Rx x1 x2 y0_0 y1 h) I hi
def kS(N:RecC5)(us:List (TV EE.T))(hs:List (Nat × TB EE.T)):XR EE.T:=
 gdX (d7 us 3) <|
 bnX (aB us 0) fun i0=>
 bnX (aS EE 11 us 1) fun x1=>
 bnX (aD (.int .i64) us 2) fun x2=>
 bnX (bC hs i0) fun l0=>
 gdX (d7 l0 1) <|
 bnX (cVi (.nam 4) l0 0) fun i1=>
 bnX (cVn (.nam 4) l0 0) fun y0_0=>
 bnX (bV (.nam 4) hs i1) fun y1=>
 gdX (bx hs [i0,i1]) <|
 gdX (ip [i0,i1]) <|
 .mv (bU N x1 x2 y0_0 y1) [i0,i1] (mvL [i0,i1] [100000,200001]) 0 (f8 i0 i1) (xG i0 i1)
def oB(N:RecC5)(hN:lh N):XOk Try.prog EE 58 (kS N):=fun us hs=>
 ay fun h1=>ab fun i0 h2=>ab fun x1 h3=>ab fun x2 h4=>ab fun l0 h5=>ay fun h6=>ab fun i1 h7=>ab fun y0_0 h8=>ab fun y1 h9=>ay fun h10=>ay fun h11=>fun p hz I hi=>gh (ex:=[]) (ks:=[100000,200001]) (us':=JM x1 x2 y0_0 y1) (h0:=Dz x1 x2 y0_0 y1) (ρ':=jh I [i0,i1]) (uc:=f8 100000 200001) (u:=f8 i0 i1) (hc:=xG 100000 200001) (h:=xG i0 i1) hi h10 (by kernel_rfl) ⟨gG h2 (by kernel_rfl),Bq h3,gB h4,bA h1⟩ ⟨(by kernel_rfl),jD h5 ⟨gi h7 h8 (by kernel_rfl),bA h6⟩,(by kernel_rfl),iw h9 (by kernel_rfl),trivial⟩ ⟨.inr rfl,.inl rfl,trivial⟩ h11 (fun hj=>pv hN x1 x2 y0_0 y1 hz _ hj) (fun z=>⟨by kernel_rfl,by kernel_rfl,by kernel_rfl,by kernel_rfl⟩)
def fS(i0:Nat)(i1:Nat)(r:bu):TV EE.T:=.a (.d (.int .i64) r.1)
def xL(i0:Nat)(i1:Nat)(r:bu):List (Nat × TB EE.T):=[(i0,.cs [.vec (.nam 4) i1 r.2.1]),(i1,.vec i1 (.nam 4) r.2.2)]
def gW(r:PR bu):RL EE.T:=mM (fS 100000 200001) (xL 100000 200001) r
def Ti:Lvs:=⟨[(6,⟨[(0,false),(2,false),(4,false)],[],[(4,(some 11,[])),(100000,(none,[])),(200001,(none,[]))],[]⟩)],[],[6],[],false,[(100000,(none,[]))],[100000,200001],[],[]⟩
def T0:List ResultVar:=[.tmp 6]
def PD(N:RecC5):Gam EE:=⟨[],EQT,[⟨26,fj N.n⟩,⟨58,kS N⟩],[]⟩
def PG(N:RecC5)(hN:lh N):GOk Try.prog TT EE (PD N):=GOk.consx (fQ N.n) (GOk.consx (oB N hN) (GOk.nil cQ))
def Gd(c:Code):List It2:=atR 6 c
def Gj(x2:Int)(b4:VPiece)(Zk:Nat)(Zh:List VSpot):TS EE.T:=⟨49,[(0,.a (.box 100000 0)),(2,.a (.d (.int .i64) x2)),(4,.a (.box 4 0))],[(4,.cs (cL EE (.nam 11) b4)),(100000,.cs [.vec (.nam 4) 200001 Zk]),(200001,.vec 200001 (.nam 4) Zh)],[]⟩
def Qg(c:Code):List It2:=[.c c]
def Qp(x1:VPiece)(x2:Int)(y0_0:Nat)(y1:List VSpot):TS EE.T:=⟨49,[(0,.a (.box 100000 0)),(1,.ag (cL EE (.nam 11) x1)),(2,.a (.d (.int .i64) x2))],[(100000,.cs [.vec (.nam 4) 200001 y0_0]),(200001,.vec 200001 (.nam 4) y1)],[]⟩
def Fq(c:Code)(f:Int->VPiece->Nat->(List VSpot)->Option (PR bu))(x2:Int)(b4:VPiece)(Zk:Nat)(Zh:List VSpot):Tree (Lf EE.T × Option (PR bu)):=.leaf (.go (Gd c) (Gj x2 b4 Zk Zh),f x2 b4 Zk Zh)
abbrev Je(N:RecC5)(r:PR bu)(k:List It2)(s:TS EE.T):Prop:=fL (Y:=TT) EE (PD N) Ti T0 (fun u=>u=gW r) k s
def lG(x:PR bu):Tree (Lf EE.T × Option (PR bu)):=.leaf (.done (gW x),some x)
def Hn{N:RecC5}{r:PR bu}(n:Nat)(x2:Int)(b4:VPiece)(Zk:Nat)(Zh:List VSpot)(h:dJ N n x2 b4 Zk Zh=some r):Je N r (Gd (aa 0 Try.f45)) (Gj x2 b4 Zk Zh):=
 au (m:=4000) (t:=
 .bnd (aA N.n ({ Kind:=2,A:=0,B:=x2,Number:=0,Set:=([] :List Bool) }:VSpot) Zk Zh) fun z7=>
 .sm z7 (fun z8=>
  .bnd (bU N (VPiece.mk b4.Group b4.Set b4.Number b4.Rows b4.Sign) z8.1 z8.2.1 z8.2.2) fun z9=>
  .sm z9 (fun z10=>
   .bnd (cf z10.2.1 z8.1) fun z11=>
   .bnd (z10.2.2[z11]?) fun z12=>
   .cond ((b2i b4.Sign)==(b2i 43))
   (
    lG (.ok (z10.1,z10.2.1,List.set z10.2.2 z11 ({ Kind:=z12.Kind,A:=z10.1,B:=z12.B,Number:=z12.Number,Set:=z12.Set }:VSpot))))
   (
    lG (.ok (z8.1,z10.2.1,List.set z10.2.2 z11 ({ Kind:=z12.Kind,A:=z10.1,B:=z12.B,Number:=z12.Number,Set:=z12.Set }:VSpot))))) (fun vz9=>
   lG (.pan vz9))) (fun vz7=>
  lG (.pan vz7))) (by kernel_rfl) (by kernel_rfl) h (fun _=>⟨fun _=>fun _=>⟨fun _=>fun _=>fun _=>⟨aE (enc:=gW) rfl,aE (enc:=gW) rfl⟩,fun _=>aE (enc:=gW) rfl⟩,fun _=>aE (enc:=gW) rfl⟩)
def No{N:RecC5}{r:PR bu}(x1:VPiece)(x2:Int)(y0_0:Nat)(y1:List VSpot)(h:dN N x1 x2 y0_0 y1=some r):Je N r (Qg (aa 0 Try.f45)) (Qp x1 x2 y0_0 y1):=
 au (m:=4000) (t:=
 .cond ((b2i x1.Sign)==(b2i 63))
 (
  .bnd (bU N (VPiece.mk x1.Group x1.Set x1.Number x1.Rows x1.Sign) x2 y0_0 y1) fun z1=>
  .sm z1 (fun z2=>
   .bnd (aA N.n ({ Kind:=2,A:=z2.1,B:=x2,Number:=0,Set:=([] :List Bool) }:VSpot) z2.2.1 z2.2.2) fun z3=>
   .sm z3 (fun z4=>
    lG (.ok (z4.1,z4.2.1,z4.2.2))) (fun vz3=>
    lG (.pan vz3))) (fun vz1=>
   lG (.pan vz1)))
 (
  .cond ((b2i x1.Sign)==(b2i 42))
  (
   Fq (aa 0 Try.f45) (dJ N N.n) x2 (VPiece.mk x1.Group x1.Set x1.Number x1.Rows x1.Sign) y0_0 y1)
  (
   .cond ((b2i x1.Sign)==(b2i 43))
   (
    Fq (aa 0 Try.f45) (dJ N N.n) x2 (VPiece.mk x1.Group x1.Set x1.Number x1.Rows x1.Sign) y0_0 y1)
   (
    .bnd (bU N (VPiece.mk x1.Group x1.Set x1.Number x1.Rows x1.Sign) x2 y0_0 y1) fun z5=>
    .sm z5 (fun z6=>
     lG (.ok (z6.1,z6.2.1,z6.2.2))) (fun vz5=>
     lG (.pan vz5)))))) (by kernel_rfl) (by kernel_rfl) h (⟨fun _=>⟨fun _=>fun _=>⟨fun _=>aE (enc:=gW) rfl,fun _=>aE (enc:=gW) rfl⟩,fun _=>aE (enc:=gW) rfl⟩,⟨fun h=>Hn N.n _ _ _ _ h,⟨fun h=>Hn N.n _ _ _ _ h,fun _=>⟨fun _=>aE (enc:=gW) rfl,fun _=>aE (enc:=gW) rfl⟩⟩⟩⟩)
def J7(x1:VPiece)(x2:Int)(y0_0:Nat)(y1:List VSpot):List (TV EE.T):=[.a (.box 100000 0),.ag (cL EE (.nam 11) x1),.a (.d (.int .i64) x2)]
def C0(x1:VPiece)(x2:Int)(y0_0:Nat)(y1:List VSpot):List (Nat × TB EE.T):=[(100000,.cs [.vec (.nam 4) 200001 y0_0]),(200001,.vec 200001 (.nam 4) y1)]
def pf{N:RecC5}(hN:lh N)(x1:VPiece)(x2:Int)(y0_0:Nat)(y1:List VSpot){r:PR bu}(h:dN N x1 x2 y0_0 y1=some r)(I:Rn)(hi:Inj I (C0 x1 x2 y0_0 y1)):aI Try.prog 45 ((J7 x1 x2 y0_0 y1).map (TV.to EE.toEnc I)) (hTo EE.toEnc I (C0 x1 x2 y0_0 y1)) (cH EE I fun u=>u=gW r):=
 dI (aa 0 Try.f45) 49 mixed (PG N hN) Try.func45 (by kernel_rfl) rfl rfl rfl rfl (No x1 x2 y0_0 y1 h) I hi
def kc(N:RecC5)(us:List (TV EE.T))(hs:List (Nat × TB EE.T)):XR EE.T:=
 gdX (d7 us 3) <|
 bnX (aB us 0) fun i0=>
 bnX (aS EE 11 us 1) fun x1=>
 bnX (aD (.int .i64) us 2) fun x2=>
 bnX (bC hs i0) fun l0=>
 gdX (d7 l0 1) <|
 bnX (cVi (.nam 4) l0 0) fun i1=>
 bnX (cVn (.nam 4) l0 0) fun y0_0=>
 bnX (bV (.nam 4) hs i1) fun y1=>
 gdX (bx hs [i0,i1]) <|
 gdX (ip [i0,i1]) <|
 .mv (dN N x1 x2 y0_0 y1) [i0,i1] (mvL [i0,i1] [100000,200001]) 0 (fS i0 i1) (xL i0 i1)
def nD(N:RecC5)(hN:lh N):XOk Try.prog EE 45 (kc N):=fun us hs=>
 ay fun h1=>ab fun i0 h2=>ab fun x1 h3=>ab fun x2 h4=>ab fun l0 h5=>ay fun h6=>ab fun i1 h7=>ab fun y0_0 h8=>ab fun y1 h9=>ay fun h10=>ay fun h11=>fun p hz I hi=>gh (ex:=[]) (ks:=[100000,200001]) (us':=J7 x1 x2 y0_0 y1) (h0:=C0 x1 x2 y0_0 y1) (ρ':=jh I [i0,i1]) (uc:=fS 100000 200001) (u:=fS i0 i1) (hc:=xL 100000 200001) (h:=xL i0 i1) hi h10 (by kernel_rfl) ⟨gG h2 (by kernel_rfl),Bq h3,gB h4,bA h1⟩ ⟨(by kernel_rfl),jD h5 ⟨gi h7 h8 (by kernel_rfl),bA h6⟩,(by kernel_rfl),iw h9 (by kernel_rfl),trivial⟩ ⟨.inr rfl,.inl rfl,trivial⟩ h11 (fun hj=>pf hN x1 x2 y0_0 y1 hz _ hj) (fun z=>⟨by kernel_rfl,by kernel_rfl,by kernel_rfl,by kernel_rfl⟩)
def fX(i0:Nat)(i1:Nat)(r:ax):TV EE.T:=.a (.d (.int .i64) r.1)
def wX(i0:Nat)(i1:Nat)(r:ax):List (Nat × TB EE.T):=[(i0,.cs [.vec (.nam 4) i1 r.2.1]),(i1,.vec i1 (.nam 4) r.2.2)]
def nM(r:PR ax):RL EE.T:=mM (fX 100000 200001) (wX 100000 200001) r
def Tx:Lvs:=⟨[(4,⟨[(0,false),(1,false),(2,false),(7,false),(8,false)],[],[(100000,(none,[])),(200001,(none,[]))],[]⟩)],[(3,⟨[(0,false),(1,false),(2,false),(7,false),(8,false)],[],[(100000,(none,[])),(200001,(none,[]))],[]⟩),(7,⟨[(0,false),(1,false),(2,false),(7,false),(8,false),(9,false),(10,false)],[],[(100000,(none,[])),(200001,(none,[]))],[]⟩)],[4],[],false,[(100000,(none,[]))],[100000,200001],[],[]⟩
def Sf:List ResultVar:=[.tmp 6]
def Rr(N:RecC5):Gam EE:=⟨[],EQT,[⟨26,fj N.n⟩,⟨45,kc N⟩],[]⟩
def MB(N:RecC5)(hN:lh N):GOk Try.prog TT EE (Rr N):=GOk.consx (fQ N.n) (GOk.consx (nD N hN) (GOk.nil cQ))
def F0(c:Code):List It2:=atR 4 c
def EH(x1:List (List VPiece))(x2:Int)(x7:Int)(x8:Int)(Zk:Nat)(Zh:List VSpot):TS EE.T:=⟨48,[(0,.a (.box 100000 0)),(1,.a (.d (.sl (.sl (.nam 11))) x1)),(2,.a (.d (.int .i64) x2)),(7,.a (.d (.int .i64) x7)),(8,.a (.d (.int .i64) x8))],[(100000,.cs [.vec (.nam 4) 200001 Zk]),(200001,.vec 200001 (.nam 4) Zh)],[]⟩
def GN(c:Code):List It2:=atL 7 c
def GK(x1:List (List VPiece))(x2:Int)(x7:Int)(x8:Int)(x9:Int)(x10:Int)(Zk:Nat)(Zh:List VSpot):TS EE.T:=⟨48,[(0,.a (.box 100000 0)),(1,.a (.d (.sl (.sl (.nam 11))) x1)),(2,.a (.d (.int .i64) x2)),(7,.a (.d (.int .i64) x7)),(8,.a (.d (.int .i64) x8)),(9,.a (.d (.int .i64) x9)),(10,.a (.d (.int .i64) x10))],[(100000,.cs [.vec (.nam 4) 200001 Zk]),(200001,.vec 200001 (.nam 4) Zh)],[]⟩
def uB(c:Code):List It2:=atL 3 c
def uK(x1:List (List VPiece))(x2:Int)(x7:Int)(x8:Int)(Zk:Nat)(Zh:List VSpot):TS EE.T:=⟨48,[(0,.a (.box 100000 0)),(1,.a (.d (.sl (.sl (.nam 11))) x1)),(2,.a (.d (.int .i64) x2)),(7,.a (.d (.int .i64) x7)),(8,.a (.d (.int .i64) x8))],[(100000,.cs [.vec (.nam 4) 200001 Zk]),(200001,.vec 200001 (.nam 4) Zh)],[]⟩
def PK(c:Code):List It2:=[.c c]
def M3(x1:List (List VPiece))(x2:Int)(y0_0:Nat)(y1:List VSpot):TS EE.T:=⟨48,[(0,.a (.box 100000 0)),(1,.a (.d (.sl (.sl (.nam 11))) x1)),(2,.a (.d (.int .i64) x2))],[(100000,.cs [.vec (.nam 4) 200001 y0_0]),(200001,.vec 200001 (.nam 4) y1)],[]⟩
def FO(c:Code)(f:(List (List VPiece))->Int->Int->Int->Nat->(List VSpot)->Option (PR ax))(x1:List (List VPiece))(x2:Int)(x7:Int)(x8:Int)(Zk:Nat)(Zh:List VSpot):Tree (Lf EE.T × Option (PR ax)):=.leaf (.go (F0 c) (EH x1 x2 x7 x8 Zk Zh),f x1 x2 x7 x8 Zk Zh)
def GI(c:Code)(f:(List (List VPiece))->Int->Int->Int->Int->Int->Nat->(List VSpot)->Option (PR ax))(x1:List (List VPiece))(x2:Int)(x7:Int)(x8:Int)(x9:Int)(x10:Int)(Zk:Nat)(Zh:List VSpot):Tree (Lf EE.T × Option (PR ax)):=.leaf (.go (GN c) (GK x1 x2 x7 x8 x9 x10 Zk Zh),f x1 x2 x7 x8 x9 x10 Zk Zh)
def Fi(c:Code)(f:(List (List VPiece))->Int->Int->Int->Nat->(List VSpot)->Option (PR ax))(x1:List (List VPiece))(x2:Int)(x7:Int)(x8:Int)(Zk:Nat)(Zh:List VSpot):Tree (Lf EE.T × Option (PR ax)):=.leaf (.go (uB c) (uK x1 x2 x7 x8 Zk Zh),f x1 x2 x7 x8 Zk Zh)
abbrev q7(N:RecC5)(r:PR ax)(k:List It2)(s:TS EE.T):Prop:=fL (Y:=TT) EE (Rr N) Tx Sf (fun u=>u=nM r) k s
def Cz(x:PR ax):Tree (Lf EE.T × Option (PR ax)):=.leaf (.done (nM x),some x)
def Hl{N:RecC5}{r:PR ax}{k3:(List (List VPiece))->Int->Int->Int->Nat->(List VSpot)->Option (PR ax)}(hk3:∀x1 x2 x7 x8 Zk Zh,k3 x1 x2 x7 x8 Zk Zh=some r->q7 N r (uB (aa 0 Try.f25)) (uK x1 x2 x7 x8 Zk Zh))(n:Nat)(x1:List (List VPiece))(x2:Int)(x7:Int)(x8:Int)(Zk:Nat)(Zh:List VSpot)(h:eE N k3 n x1 x2 x7 x8 Zk Zh=some r):q7 N r (F0 (aa 0 Try.f25)) (EH x1 x2 x7 x8 Zk Zh):=
 au (m:=4000) (t:=
 Fi (aa 0 Try.f25) k3 x1 x2 x7 (w64 (x8 - 1)) Zk Zh) (by kernel_rfl) (by kernel_rfl) h (fun h=>hk3 _ _ _ _ _ _ h)
def Fb{N:RecC5}{r:PR ax}{k3:(List (List VPiece))->Int->Int->Int->Nat->(List VSpot)->Option (PR ax)}(hk3:∀x1 x2 x7 x8 Zk Zh,k3 x1 x2 x7 x8 Zk Zh=some r->q7 N r (uB (aa 0 Try.f25)) (uK x1 x2 x7 x8 Zk Zh)):∀ (n:Nat) (x1:List (List VPiece)) (x2:Int) (x7:Int) (x8:Int) (x9:Int) (x10:Int) (Zk:Nat) (Zh:List VSpot),bR N k3 n x1 x2 x7 x8 x9 x10 Zk Zh=some r->q7 N r (GN (aa 0 Try.f25)) (GK x1 x2 x7 x8 x9 x10 Zk Zh)
 |0,_,_,_,_,_,_,_,_,h=>by cases h
 |n+1,x1,x2,x7,x8,x9,x10,Zk,Zh,h=>au (m:=4000) (t:=
  .cond (decide (x10>=0))
  (
   .bnd (ci x1 x8) fun z2=>
   .bnd (ci z2 x10) fun z3=>
   .bnd (dN N (VPiece.mk z3.Group z3.Set z3.Number z3.Rows z3.Sign) x9 Zk Zh) fun z4=>
   .sm z4 (fun z5=>
    GI (aa 0 Try.f25) (bR N k3 n) x1 x2 x7 x8 z5.1 (w64 (x10 - 1)) z5.2.1 z5.2.2) (fun vz4=>
    Cz (.pan vz4)))
  (
   .cond (decide (x7 < 0))
   (
    FO (aa 0 Try.f25) (eE N k3 n) x1 x2 x9 x8 Zk Zh)
   (
    .bnd (aA N.n ({ Kind:=2,A:=x9,B:=x7,Number:=0,Set:=([] :List Bool) }:VSpot) Zk Zh) fun z6=>
    .sm z6 (fun z7=>
     FO (aa 0 Try.f25) (eE N k3 n) x1 x2 z7.1 x8 z7.2.1 z7.2.2) (fun vz6=>
     Cz (.pan vz6))))) (by kernel_rfl) (by kernel_rfl) h (⟨fun _=>fun _=>fun _=>⟨fun _=>fun h=>(Fb hk3 n) _ _ _ _ _ _ _ _ h,fun _=>aE (enc:=nM) rfl⟩,⟨fun h=>Hl hk3 n _ _ _ _ _ _ h,fun _=>⟨fun _=>fun h=>Hl hk3 n _ _ _ _ _ _ h,fun _=>aE (enc:=nM) rfl⟩⟩⟩)
def Fr{N:RecC5}{r:PR ax}:∀ (n:Nat) (x1:List (List VPiece)) (x2:Int) (x7:Int) (x8:Int) (Zk:Nat) (Zh:List VSpot),aR N n x1 x2 x7 x8 Zk Zh=some r->q7 N r (uB (aa 0 Try.f25)) (uK x1 x2 x7 x8 Zk Zh)
 |0,_,_,_,_,_,_,h=>by cases h
 |n+1,x1,x2,x7,x8,Zk,Zh,h=>au (m:=4000) (t:=
  .cond (decide (x8>=0))
  (
   .bnd (ci x1 x8) fun z1=>
   GI (aa 0 Try.f25) (bR N (aR N n) n) x1 x2 x7 x8 x2 (w64 ((z1.length:Int) - 1)) Zk Zh)
  (
   Cz (.ok (x7,Zk,Zh)))) (by kernel_rfl) (by kernel_rfl) h (⟨fun _=>fun h=>Fb (Fr n) n _ _ _ _ _ _ _ _ h,aE (enc:=nM) rfl⟩)
def O3{N:RecC5}{r:PR ax}(x1:List (List VPiece))(x2:Int)(y0_0:Nat)(y1:List VSpot)(h:gP N x1 x2 y0_0 y1=some r):q7 N r (PK (aa 0 Try.f25)) (M3 x1 x2 y0_0 y1):=
 au (m:=4000) (t:=
 Fi (aa 0 Try.f25) (aR N N.n) x1 x2 (-1) (w64 ((x1.length:Int) - 1)) y0_0 y1) (by kernel_rfl) (by kernel_rfl) h (fun h=>Fr N.n _ _ _ _ _ _ h)
def Kd(x1:List (List VPiece))(x2:Int)(y0_0:Nat)(y1:List VSpot):List (TV EE.T):=[.a (.box 100000 0),.a (.d (.sl (.sl (.nam 11))) x1),.a (.d (.int .i64) x2)]
def CH(x1:List (List VPiece))(x2:Int)(y0_0:Nat)(y1:List VSpot):List (Nat × TB EE.T):=[(100000,.cs [.vec (.nam 4) 200001 y0_0]),(200001,.vec 200001 (.nam 4) y1)]
def pB{N:RecC5}(hN:lh N)(x1:List (List VPiece))(x2:Int)(y0_0:Nat)(y1:List VSpot){r:PR ax}(h:gP N x1 x2 y0_0 y1=some r)(I:Rn)(hi:Inj I (CH x1 x2 y0_0 y1)):aI Try.prog 25 ((Kd x1 x2 y0_0 y1).map (TV.to EE.toEnc I)) (hTo EE.toEnc I (CH x1 x2 y0_0 y1)) (cH EE I fun u=>u=nM r):=
 dI (aa 0 Try.f25) 48 mixed (MB N hN) Try.func25 (by kernel_rfl) rfl rfl rfl rfl (O3 x1 x2 y0_0 y1 h) I hi
def qM(N:RecC5)(us:List (TV EE.T))(hs:List (Nat × TB EE.T)):XR EE.T:=
 gdX (d7 us 3) <|
 bnX (aB us 0) fun i0=>
 bnX (aD (.sl (.sl (.nam 11))) us 1) fun x1=>
 bnX (aD (.int .i64) us 2) fun x2=>
 bnX (bC hs i0) fun l0=>
 gdX (d7 l0 1) <|
 bnX (cVi (.nam 4) l0 0) fun i1=>
 bnX (cVn (.nam 4) l0 0) fun y0_0=>
 bnX (bV (.nam 4) hs i1) fun y1=>
 gdX (bx hs [i0,i1]) <|
 gdX (ip [i0,i1]) <|
 .mv (gP N x1 x2 y0_0 y1) [i0,i1] (mvL [i0,i1] [100000,200001]) 0 (fX i0 i1) (wX i0 i1)
def oP(N:RecC5)(hN:lh N):XOk Try.prog EE 25 (qM N):=fun us hs=>
 ay fun h1=>ab fun i0 h2=>ab fun x1 h3=>ab fun x2 h4=>ab fun l0 h5=>ay fun h6=>ab fun i1 h7=>ab fun y0_0 h8=>ab fun y1 h9=>ay fun h10=>ay fun h11=>fun p hz I hi=>gh (ex:=[]) (ks:=[100000,200001]) (us':=Kd x1 x2 y0_0 y1) (h0:=CH x1 x2 y0_0 y1) (ρ':=jh I [i0,i1]) (uc:=fX 100000 200001) (u:=fX i0 i1) (hc:=wX 100000 200001) (h:=wX i0 i1) hi h10 (by kernel_rfl) ⟨gG h2 (by kernel_rfl),gB h3,gB h4,bA h1⟩ ⟨(by kernel_rfl),jD h5 ⟨gi h7 h8 (by kernel_rfl),bA h6⟩,(by kernel_rfl),iw h9 (by kernel_rfl),trivial⟩ ⟨.inr rfl,.inl rfl,trivial⟩ h11 (fun hj=>pB hN x1 x2 y0_0 y1 hz _ hj) (fun z=>⟨by kernel_rfl,by kernel_rfl,by kernel_rfl,by kernel_rfl⟩)
def lx(n0:Nat):∀m,lh ⟨n0,ek n0 m⟩
 |0=>Lz n0
 |m+1=>oP ⟨n0,ek n0 m⟩ (lx n0 m)
def ly(N:Nat):List (TV EE.T)->List (Nat × TB EE.T)->XR EE.T:=gt ⟨N,ek N N⟩
def pE(N:Nat):XOk Try.prog EE 25 (ly N):=lx N N
set_option maxRecDepth 100000
structure RecC6 where
 n:Nat
 k:Int->Int->(List UInt8)->Nat->Nat->Nat->Nat->(List Bool)->(List Int)->(List Int)->(List VSpot)->Option (PR (Bool × (List UInt8) × Nat × Nat × Nat × Nat × (List Bool) × (List Int) × (List Int) × (List VSpot)))
def bB(N:RecC6)(x1:Int)(x2:Int)(y0_1:List UInt8)(y0_2:Nat)(y0_3:Nat)(y0_4:Nat)(y1_0:Nat)(y2:List Bool)(y3:List Int)(y4:List Int)(y5:List VSpot):Option (PR (Bool × (List UInt8) × Nat × Nat × Nat × Nat × (List Bool) × (List Int) × (List Int) × (List VSpot))):=N.k x1 x2 y0_1 y0_2 y0_3 y0_4 y1_0 y2 y3 y4 y5
abbrev bF:=Bool × (List UInt8) × Nat × Nat × Nat × Nat × (List Bool) × (List Int) × (List Int) × (List VSpot)
def av(N:RecC6)(n:Nat)(x7:Int)(x9:Bool)(Zg:List UInt8)(Zr:Nat)(Ze:Nat)(Zs:Nat)(Zt:Nat)(Zx:List Bool)(Zy:List Int)(Zz:List Int)(ZA:List VSpot):Option (PR bF):=
 (cf Zr x7).bind fun z31=>
 (Zx[z31]?).bind fun z32=>
 some (.ok (x9,Zg,Zr,Ze,Zs,Zt,List.set Zx z31 (!x9),Zy,Zz,ZA))
def eF(N:RecC6)(x1:Int)(x2:Int)(y0_1:List UInt8)(y0_2:Nat)(y0_3:Nat)(y0_4:Nat)(y1_0:Nat)(y2:List Bool)(y3:List Int)(y4:List Int)(y5:List VSpot):Option (PR bF):=
 (cf y0_2 (w64 ((w64 (x1 * (w64 ((y0_1.length:Int)+1))))+x2))).bind fun z1=>
 (y2[z1]?).bind fun z2=>
 bif z2 then
  some (.ok (false,y0_1,y0_2,y0_3,y0_4,y1_0,y2,y3,y4,y5))
 else
  (cf y1_0 x1).bind fun z3=>
  (y5[z3]?).bind fun z4=>
  bif z4.Kind==0 then
   av N N.n (w64 ((w64 (x1 * (w64 ((y0_1.length:Int)+1))))+x2)) (x2==(y0_1.length:Int)) y0_1 y0_2 y0_3 y0_4 y1_0 y2 y3 y4 y5
  else
   bif z4.Kind==1 then
    bif decide (x2 < (y0_1.length:Int)) then
     (ci y0_1 x2).bind fun z5=>
     (ci z4.Set (b2i z5)).bind fun z6=>
     bif z6 then
      (bB N z4.A (w64 (x2+1)) y0_1 y0_2 y0_3 y0_4 y1_0 y2 y3 y4 y5).bind fun z7=>
      match z7 with
      |.pan vz7=>some (.pan vz7)
      |.ok z8=>av N N.n (w64 ((w64 (x1 * (w64 ((y0_1.length:Int)+1))))+x2)) z8.1 z8.2.1 z8.2.2.1 z8.2.2.2.1 z8.2.2.2.2.1 z8.2.2.2.2.2.1 z8.2.2.2.2.2.2.1 z8.2.2.2.2.2.2.2.1 z8.2.2.2.2.2.2.2.2.1 z8.2.2.2.2.2.2.2.2.2
     else
      av N N.n (w64 ((w64 (x1 * (w64 ((y0_1.length:Int)+1))))+x2)) false y0_1 y0_2 y0_3 y0_4 y1_0 y2 y3 y4 y5
    else
     av N N.n (w64 ((w64 (x1 * (w64 ((y0_1.length:Int)+1))))+x2)) false y0_1 y0_2 y0_3 y0_4 y1_0 y2 y3 y4 y5
   else
    bif z4.Kind==2 then
     (cf y0_2 (w64 ((w64 (x1 * (w64 ((y0_1.length:Int)+1))))+x2))).bind fun z9=>
     (y2[z9]?).bind fun z10=>
     (bB N z4.A x2 y0_1 y0_2 y0_3 y0_4 y1_0 (List.set y2 z9 true) y3 y4 y5).bind fun z11=>
     match z11 with
     |.pan vz11=>some (.pan vz11)
     |.ok z12=>
      bif z12.1 then
       av N N.n (w64 ((w64 (x1 * (w64 ((y0_1.length:Int)+1))))+x2)) true z12.2.1 z12.2.2.1 z12.2.2.2.1 z12.2.2.2.2.1 z12.2.2.2.2.2.1 z12.2.2.2.2.2.2.1 z12.2.2.2.2.2.2.2.1 z12.2.2.2.2.2.2.2.2.1 z12.2.2.2.2.2.2.2.2.2
      else
       (bB N z4.B x2 z12.2.1 z12.2.2.1 z12.2.2.2.1 z12.2.2.2.2.1 z12.2.2.2.2.2.1 z12.2.2.2.2.2.2.1 z12.2.2.2.2.2.2.2.1 z12.2.2.2.2.2.2.2.2.1 z12.2.2.2.2.2.2.2.2.2).bind fun z13=>
       match z13 with
       |.pan vz13=>some (.pan vz13)
       |.ok z14=>av N N.n (w64 ((w64 (x1 * (w64 ((y0_1.length:Int)+1))))+x2)) z14.1 z14.2.1 z14.2.2.1 z14.2.2.2.1 z14.2.2.2.2.1 z14.2.2.2.2.2.1 z14.2.2.2.2.2.2.1 z14.2.2.2.2.2.2.2.1 z14.2.2.2.2.2.2.2.2.1 z14.2.2.2.2.2.2.2.2.2
    else
     bif z4.Kind==3 then
      (cf y0_3 z4.Number).bind fun z15=>
      (y3[z15]?).bind fun z16=>
      (cf y0_3 z4.Number).bind fun z17=>
      (y3[z17]?).bind fun z18=>
      (bB N z4.A x2 y0_1 y0_2 y0_3 y0_4 y1_0 y2 (List.set y3 z17 x2) y4 y5).bind fun z19=>
      match z19 with
      |.pan vz19=>some (.pan vz19)
      |.ok z20=>
       bif !z20.1 then
        (cf z20.2.2.2.1 z4.Number).bind fun z21=>
        (z20.2.2.2.2.2.2.2.1[z21]?).bind fun z22=>
        av N N.n (w64 ((w64 (x1 * (w64 ((y0_1.length:Int)+1))))+x2)) z20.1 z20.2.1 z20.2.2.1 z20.2.2.2.1 z20.2.2.2.2.1 z20.2.2.2.2.2.1 z20.2.2.2.2.2.2.1 (List.set z20.2.2.2.2.2.2.2.1 z21 z16) z20.2.2.2.2.2.2.2.2.1 z20.2.2.2.2.2.2.2.2.2
       else
        av N N.n (w64 ((w64 (x1 * (w64 ((y0_1.length:Int)+1))))+x2)) z20.1 z20.2.1 z20.2.2.1 z20.2.2.2.1 z20.2.2.2.2.1 z20.2.2.2.2.2.1 z20.2.2.2.2.2.2.1 z20.2.2.2.2.2.2.2.1 z20.2.2.2.2.2.2.2.2.1 z20.2.2.2.2.2.2.2.2.2
     else
      bif z4.Kind==4 then
       (cf y0_4 z4.Number).bind fun z23=>
       (y4[z23]?).bind fun z24=>
       (cf y0_4 z4.Number).bind fun z25=>
       (y4[z25]?).bind fun z26=>
       (bB N z4.A x2 y0_1 y0_2 y0_3 y0_4 y1_0 y2 y3 (List.set y4 z25 x2) y5).bind fun z27=>
       match z27 with
       |.pan vz27=>some (.pan vz27)
       |.ok z28=>
        bif !z28.1 then
         (cf z28.2.2.2.2.1 z4.Number).bind fun z29=>
         (z28.2.2.2.2.2.2.2.2.1[z29]?).bind fun z30=>
         av N N.n (w64 ((w64 (x1 * (w64 ((y0_1.length:Int)+1))))+x2)) z28.1 z28.2.1 z28.2.2.1 z28.2.2.2.1 z28.2.2.2.2.1 z28.2.2.2.2.2.1 z28.2.2.2.2.2.2.1 z28.2.2.2.2.2.2.2.1 (List.set z28.2.2.2.2.2.2.2.2.1 z29 z24) z28.2.2.2.2.2.2.2.2.2
        else
         av N N.n (w64 ((w64 (x1 * (w64 ((y0_1.length:Int)+1))))+x2)) z28.1 z28.2.1 z28.2.2.1 z28.2.2.2.1 z28.2.2.2.2.1 z28.2.2.2.2.2.1 z28.2.2.2.2.2.2.1 z28.2.2.2.2.2.2.2.1 z28.2.2.2.2.2.2.2.2.1 z28.2.2.2.2.2.2.2.2.2
      else
       av N N.n (w64 ((w64 (x1 * (w64 ((y0_1.length:Int)+1))))+x2)) false y0_1 y0_2 y0_3 y0_4 y1_0 y2 y3 y4 y5
def aK(n0:Nat):Nat->Int->Int->(List UInt8)->Nat->Nat->Nat->Nat->(List Bool)->(List Int)->(List Int)->(List VSpot)->Option (PR (Bool × (List UInt8) × Nat × Nat × Nat × Nat × (List Bool) × (List Int) × (List Int) × (List VSpot)))
 |0,_,_,_,_,_,_,_,_,_,_,_=>none
 |m+1,x1,x2,y0_1,y0_2,y0_3,y0_4,y1_0,y2,y3,y4,y5=>eF ⟨n0,aK n0 m⟩ x1 x2 y0_1 y0_2 y0_3 y0_4 y1_0 y2 y3 y4 y5
def hY(N:Nat)(x1:Int)(x2:Int)(y0_1:List UInt8)(y0_2:Nat)(y0_3:Nat)(y0_4:Nat)(y1_0:Nat)(y2:List Bool)(y3:List Int)(y4:List Int)(y5:List VSpot):Option (PR (Bool × (List UInt8) × Nat × Nat × Nat × Nat × (List Bool) × (List Int) × (List Int) × (List VSpot))):=aK N N x1 x2 y0_1 y0_2 y0_3 y0_4 y1_0 y2 y3 y4 y5
set_option maxRecDepth 1000000
variable {MM:Nat}
def rZ(fr:List Int)(w:Rte):List Int:=w.foldl (fun s p=>if p.1 % 2=0 then s.set (p.1 / 2) (p.2:Int) else s) fr
def r9(to:List Int)(w:Rte):List Int:=w.foldl (fun s p=>if p.1 % 2=0 then s else s.set (p.1 / 2) (p.2:Int)) to
def xV(fr:List Int):List Rte->List Int
 | [] =>fr
 |w::_=>rZ fr w
def zK(to:List Int):List Rte->List Int
 | [] =>to
 |w::_=>r9 to w
def nB(L:List Rte):Bool:= !L.isEmpty
def Np(w:Rte):∀fr,(rZ fr w).length=fr.length:=by
 induction w with
 |nil=>intro fr;rfl
 |cons p r ih=>
  intro fr;show(rZ _ r).length=_;rw[ih];dsimp only;split
  ·simp
  ·rfl
def QQ(w:Rte):∀fr,(r9 fr w).length=fr.length:=by
 induction w with
 |nil=>intro fr;rfl
 |cons p r ih=>
  intro fr;show(r9 _ r).length=_;rw[ih];dsimp only;split
  ·rfl
  ·simp
def NJ(fr:List Int)(A B:List Rte):xV fr (A++B)=if nB A=true then xV fr A else xV fr B:=by cases A<;> rfl
def Rf(fr:List Int)(A B:List Rte):zK fr (A++B)=if nB A=true then zK fr A else zK fr B:=by cases A<;> rfl
def qJ(A B:List Rte):nB (A++B)=(nB A || nB B):=by cases A<;> rfl
def xH{A:List Rte}(h:nB A=false):A=[] :=by
 cases A with
 |nil=>rfl
 |cons w r=>cases h
def ox(A:List Rte)(f:Rte->Rte):nB (A.map f)=nB A:=by cases A<;> rfl
def VE(n i:Nat)(w:Rte)(fr to:List Int):rZ fr ((2 * n,i)::w)=rZ (fr.set n (i:Int)) w/\r9 to ((2 * n,i)::w)=r9 to w:=by
 have h1:(2 * n) % 2=0:=by omega
 have h2:(2 * n) / 2=n:=by omega
 constructor
 ·show rZ (if(2 * n) % 2=0 then fr.set (2 * n / 2) (i:Int) else fr) w=_;rw[ZI h1,h2]
 ·show r9 (if(2 * n) % 2=0 then to else _) w=_;rw[ZI h1]
def WK(n i:Nat)(w:Rte)(fr to:List Int):rZ fr ((2 * n+1,i)::w)=rZ fr w/\r9 to ((2 * n+1,i)::w)=r9 (to.set n (i:Int)) w:=by
 have h1:¬(2 * n+1) % 2=0:=by omega
 have h2:(2 * n+1) / 2=n:=by omega
 constructor
 ·show rZ (if(2 * n+1) % 2=0 then _ else fr) w=_;rw[ZH h1]
 ·show r9 (if(2 * n+1) % 2=0 then to else to.set ((2 * n+1) / 2) (i:Int)) w=_;rw[ZH h1,h2]
section
variable {sp:List VSpot} {tx:List UInt8} {G:Nat}
structure BadI (sp:List VSpot) (tx:List UInt8) (A:List (Nat × Nat)) (bad:List Bool):Prop where
 len:bad.length=sp.length * (tx.length+1)
 no:∀q i,q < sp.length->i<=tx.length->bad[q * (tx.length+1)+i]? =some true->(q,i)∈A\/WW (gr sp) tx q i []
def Ec{q i n t:Nat}(hq:q < n)(hi:i<=t):q * (t+1)+i < n * (t+1):=by have:(q+1) * (t+1)<=n * (t+1):=aaa _ hq;rw[aae] at this;omega
def Dw{q i q' i' t:Nat}(hi:i<=t)(hi':i'<=t)(h:q * (t+1)+i=q' * (t+1)+i'):q=q'/\i=i':=by
 have h1:(q * (t+1)+i) / (t+1)=q:=by rw[aa5,Nat.mul_add_div (by omega),abr (by omega)];omega
 have h2:(q' * (t+1)+i') / (t+1)=q':=by rw[aa5,Nat.mul_add_div (by omega),abr (by omega)];omega
 have h3:q=q':=by rw[<- h1,<- h2,h]
 subst h3;exact⟨rfl,by omega⟩
def BadI.more{A:List (Nat × Nat)}{bad:List Bool}(h:BadI sp tx A bad)(a:Nat × Nat):BadI sp tx (a::A) bad:=
 ⟨h.len,fun q i h1 h2 h3=>(h.no q i h1 h2 h3).imp (fun h=>ZM _ h) id⟩
def BadI.mark{A:List (Nat × Nat)}{bad:List Bool}(h:BadI sp tx A bad){q i:Nat}(hq:q < sp.length)(hi:i<=tx.length):BadI sp tx ((q,i)::A) (bad.set (q * (tx.length+1)+i) true):=by
 refine⟨by rw[aaA,h.len],fun q' i' h1 h2 h3=> ?_⟩;by_cases e:q' * (tx.length+1)+i'=q * (tx.length+1)+i
 ·obtain⟨rfl,rfl⟩:=Dw h2 hi e;exact .inl ZP
 ·rw[aaB (fun e'=>e e'.symm)] at h3;exact(h.no q' i' h1 h2 h3).imp (fun h=>ZM _ h) id
def BadI.fin{A:List (Nat × Nat)}{bad:List Bool}{q i:Nat}(h:BadI sp tx ((q,i)::A) bad)(hq:q < sp.length)(hi:i<=tx.length){L:List Rte}(hL:WW (gr sp) tx q i L):BadI sp tx A (bad.set (q * (tx.length+1)+i) (!nB L)):=by
 refine⟨by rw[aaA,h.len],fun q' i' h1 h2 h3=> ?_⟩;by_cases e:q' * (tx.length+1)+i'=q * (tx.length+1)+i
 ·obtain⟨rfl,rfl⟩:=Dw h2 hi e;rw[aat (by rw[h.len];exact Ec hq hi)] at h3;have:=ZZ h3;cases hl:nB L with
  |true=>rw[hl] at this;cases this
  |false=>rw[xH hl] at hL;exact .inr hL
 ·rw[aaB (fun e'=>e e'.symm)] at h3;rcases h.no q' i' h1 h2 h3 with h4|h4
  ·rcases ZY.1 h4 with h5|h5
   ·obtain⟨rfl,rfl⟩:=Prod.mk.injEq .. ▸ h5;exact absurd rfl e
   ·exact .inl h5
  ·exact .inr h4
def sf(tx:List UInt8)(sp:List VSpot)(bad':List Bool)(fr to:List Int)(L:List Rte):Option (PR (Bool × (List UInt8) × Nat × Nat × Nat × Nat × (List Bool) × (List Int) × (List Int) × (List VSpot))):=
 some (.ok (nB L,tx,bad'.length,fr.length,to.length,sp.length,bad',xV fr L,zK to L,sp))
def r26(N:RecC6)(n:Nat){A:List (Nat × Nat)}{bad:List Bool}{q i:Nat}(h:BadI sp tx ((q,i)::A) bad)(hq:q < sp.length)(hi:i<=tx.length){L:List Rte}(hL:WW (gr sp) tx q i L)(ok:Bool)(hok:ok=nB L)(nb nf nt:Nat)(hnb:nb=bad.length)(fr to:List Int):∃bad',av N n ((q * (tx.length+1)+i:Nat):Int) ok tx nb nf nt sp.length bad fr to sp=some (.ok (nB L,tx,bad'.length,nf,nt,sp.length,bad',fr,to,sp))/\BadI sp tx A bad':=by subst hok hnb;have hk:=Ec (t:=tx.length) hq hi;rw[<- h.len] at hk;refine⟨_,?_,h.fin hq hi hL⟩;unfold av;rw[dT hk,ZC,ZE hk,ZC,aaA]
def Lu(n0 k:Nat)(x1 x2:Int)(a b c d bad fr to):aK n0 (k+1) x1 x2 tx a b c d bad fr to sp=eF ⟨n0,aK n0 k⟩ x1 x2 tx a b c d bad fr to sp:=rfl
def J9{l:List Int}{n:Nat}{v x:Int}(h:l[n]? =some v):(l.set n x).set n v=l:=by
 rw[List.set_set];apply aa9;intro m;by_cases e:n=m
 ·subst e;rw[h,aat (ZD.1 h).1]
 ·rw[aaB e]
def rO(hS:∀ (q:Nat) (s:VSpot),sp[q]? =some s->SpOk sp.length G s)(hsp:sp.length<=1000)(htx:tx.length<=2000)(hG:G<=9)(n0:Nat):∀ (k q i f:Nat) (L:List Rte) (A:List (Nat × Nat)) (bad:List Bool) (fr to:List Int),f<=k->q < sp.length->i<=tx.length->W (gr sp) tx f q i=some L->(∀a∈A,W (gr sp) tx f a.1 a.2=none)->BadI sp tx A bad->fr.length=G+1->to.length=G+1->
  ∃bad',aK n0 k (q:Int) (i:Int) tx bad.length fr.length to.length sp.length bad fr to sp=sf tx sp bad' fr to L/\BadI sp tx A bad'
 |0,q,i,f,L,A,bad,fr,to,h1,h2,h3,h4,h5,h6,h7,h8=>by
  have:f=0:=by omega
  subst this;cases h4
 |k+1,q,i,f,L,A,bad,fr,to,h1,h2,h3,h4,h5,h6,h7,h8=>by
  have hk:=Ec (t:=tx.length) h2 h3;have hkb:=hk;rw[<- h6.len] at hkb;have hmul:sp.length * (tx.length+1)<=1000 * 2001:=Nat.mul_le_mul hsp (by omega);have e0:w64 ((w64 ((q:Int) * (w64 ((tx.length:Int)+1))))+ (i:Int))=((q * (tx.length+1)+i:Nat):Int):=by
   have e1:w64 ((tx.length:Int)+1)=((tx.length+1:Nat):Int):=f9 (by omega);have e2:(q:Int) * ((tx.length+1:Nat):Int)=((q * (tx.length+1):Nat):Int):=by simp
   rw[e1,e2];generalize hz:q * (tx.length+1)=z at *;have e3:w64 (z:Int)=(z:Int):=kX (by omega) (by omega);rw[e3,kX (by omega) (by omega)];omega
  rw[Lu];unfold eF;rw[e0,dT hkb,ZC,ZE hkb,ZC];cases hb:bad[q * (tx.length+1)+i] with
  |true=>
   have hL:L=[] :=by
    rcases h6.no q i h2 h3 (by rw[ZE hkb,hb]) with h| ⟨f',h⟩
    ·rw[h5 _ h] at h4;cases h4
    ·exact QM h4 h
   subst hL;exact⟨bad,rfl,h6⟩
  |false=>
   have hs:=ZE h2;have hok:=hS q _ hs;rw[ZF,dT h2,ZC,hs,ZC];generalize sp[q] =s at hs hok;obtain⟨f1,hf1,hno,hyes⟩:=Ky h4;have hWW:WW (gr sp) tx q i L:=⟨_,h4⟩
   have hA:∀a∈A,W (gr sp) tx f1 a.1 a.2=none:=fun a ha=>VF (h5 a ha) (by omega);rw[W] at hyes;cases hok with
   |fin=>
    rw[HS hs] at hyes;dsimp only at hyes;rw[show(G7.Kind==0)=true from rfl,ZG];have hh:((i:Int)==(tx.length:Int))=nB L:=by
     rw[<- ZZ hyes];by_cases e:i=tx.length
     ·rw[ZI e,e];simp[nB]
     ·rw[ZH e];have:((i:Int)==(tx.length:Int))=false:=Z9.2 (by omega);rw[this];rfl
    obtain⟨bad',e,hB⟩:=r26 ⟨n0,aK n0 k⟩ n0 (h6.more (q,i)) h2 h3 hWW _ hh bad.length fr.length to.length rfl fr to;refine⟨bad',?_,hB⟩;refine abj e ?_;rw[<- ZZ hyes];unfold sf;by_cases e:i=tx.length
    ·rw[ZI e];rfl
    ·rw[ZH e];rfl
   | @tk S a g1 g2=>
     rw[Mp hs] at hyes;dsimp only at hyes;rw[show((tkP S a).Kind==0)=false from rfl,show((tkP S a).Kind==1)=true from rfl,ZF,ZG]
     have no:L=[] ->∃bad',av ⟨n0,aK n0 k⟩ n0 ((q * (tx.length+1)+i:Nat):Int) false tx bad.length fr.length to.length sp.length bad fr to sp=sf tx sp bad' fr to L/\BadI sp tx A bad':=fun hL=>by subst hL;obtain⟨bad',e,hB⟩:=r26 ⟨n0,aK n0 k⟩ n0 (h6.more (q,i)) h2 h3 hWW false rfl bad.length fr.length to.length rfl fr to;exact⟨bad',e,hB⟩
     by_cases hil:i < tx.length
     ·have hc:=ZE hil;have hcl:=(tx[i]).toNat_lt;rw[hc] at hyes;dsimp only at hyes;rw[Z0 (by omega),ZG,ri hc,ZC];have hSc:ci (tkP S a).Set (b2i tx[i])=some (inS S tx[i]):=by rw[jO];refine ri ?_;show S[_]? =some (S.getD _ false);rw[ZE (by omega),Z5,ZE (by omega)];rfl
      rw[hSc,ZC];cases hv:inS S tx[i] with
      |false=>rw[hv,ZH (by decide)] at hyes;rw[ZF];exact no (ZZ hyes).symm
      |true=>
       rw[hv,ZI rfl] at hyes;rw[ZG,f9 (by omega)];obtain⟨bad1,e1,hB1⟩:=rO hS hsp htx hG n0 k a (i+1) f1 L A bad fr to (by omega) g2 (by omega) hyes hA h6 h7 h8;have e1':bB ⟨n0,aK n0 k⟩ (tkP S a).A ((i+1:Nat):Int) tx bad.length fr.length to.length sp.length bad fr to sp=_:=e1;rw[e1'];unfold sf;rw[ZC];dsimp only
       obtain⟨bad2,e2,hB2⟩:=r26 ⟨n0,aK n0 k⟩ n0 (hB1.more (q,i)) h2 h3 hWW (nB L) rfl bad1.length fr.length to.length rfl (xV fr L) (zK to L);exact⟨bad2,e2,hB2⟩
     ·rw[aak.2 (by omega)] at hyes;rw[Z1 (by omega),ZF];exact no (ZZ hyes).symm
   | @fk a b g1 g2=>
     rw[Fh hs] at hyes;dsimp only at hyes;obtain⟨LA,ha,hyes⟩:=aaz.1 hyes;obtain⟨LB,hbb,rfl⟩:=Z4.1 hyes;have hA':∀x∈(q,i)::A,W (gr sp) tx f1 x.1 x.2=none:=fun x hx=>by
      rcases ZY.1 hx with rfl|hx
      ·exact hno
      ·exact hA x hx
     rw[show((fkP a b).Kind==0)=false from rfl,show((fkP a b).Kind==1)=false from rfl,show((fkP a b).Kind==2)=true from rfl,ZF,ZF,ZG];rw[ZC,ZE hkb,ZC];obtain⟨bad1,e1,hB1⟩:=rO hS hsp htx hG n0 k a i f1 LA ((q,i)::A) (bad.set (q * (tx.length+1)+i) true) fr to (by omega) g1 h3 ha hA' (h6.mark h2 h3) h7 h8;rw[aaA] at e1
     have e1':bB ⟨n0,aK n0 k⟩ (fkP a b).A (i:Int) tx bad.length fr.length to.length sp.length (bad.set (q * (tx.length+1)+i) true) fr to sp=_:=e1;rw[e1'];unfold sf;rw[ZC];dsimp only;rw[qJ,NJ,Rf];cases hA1:nB LA with
     |true=>rw[ZG,ZI rfl,ZI rfl,Bool.true_or];obtain⟨bad2,e2,hB2⟩:=r26 ⟨n0,aK n0 k⟩ n0 hB1 h2 h3 hWW true (by rw[qJ,hA1];rfl) bad1.length fr.length to.length rfl (xV fr LA) (zK to LA);rw[qJ,hA1] at e2;exact⟨bad2,e2,hB2⟩
     |false=>
      have hn:=xH hA1;subst hn;rw[ZF,ZH (by decide),ZH (by decide),abq];obtain⟨bad2,e2,hB2⟩:=rO hS hsp htx hG n0 k b i f1 LB ((q,i)::A) bad1 fr to (by omega) g2 h3 hbb hA' hB1 h7 h8;have e2':bB ⟨n0,aK n0 k⟩ (fkP a b).B (i:Int) tx bad1.length fr.length to.length sp.length bad1 (xV fr []) (zK to []) sp=_:=e2;rw[e2'];unfold sf;rw[ZC]
      dsimp only;obtain⟨bad3,e3,hB3⟩:=r26 ⟨n0,aK n0 k⟩ n0 hB2 h2 h3 hWW (nB LB) (by rw[qJ];rfl) bad2.length fr.length to.length rfl (xV fr LB) (zK to LB);rw[qJ] at e3;exact⟨bad3,e3,hB3⟩
   | @bg n a g1 g2=>
     rw[Rt hs] at hyes;dsimp only at hyes;obtain⟨LA,ha,rfl⟩:=Z4.1 hyes;rw[show((bgP n a).Kind==0)=false from rfl,show((bgP n a).Kind==1)=false from rfl,show((bgP n a).Kind==2)=false from rfl,show((bgP n a).Kind==3)=true from rfl,ZF,ZF,ZF,ZG];have hn:n < fr.length:=by omega
     have hfn:=ZE hn;have en:cf fr.length (bgP n a).Number=some n:=dT hn;generalize fr[n] =was at hfn;rw[en,ZC,hfn,ZC,ZC,hfn,ZC];obtain⟨bad1,e1,hB1⟩:=rO hS hsp htx hG n0 k a i f1 LA A bad (fr.set n (i:Int)) to (by omega) g2 h3 ha hA h6 (by simpa using h7) h8;rw[aaA] at e1
     have e1':bB ⟨n0,aK n0 k⟩ (bgP n a).A (i:Int) tx bad.length fr.length to.length sp.length bad (fr.set n (i:Int)) to sp=_:=e1;rw[e1'];unfold sf;rw[ZC];dsimp only;rw[aaA,ox];cases hA1:nB LA with
     |true=>
      rw[aaE,ZF];obtain⟨bad2,e2,hB2⟩:=r26 ⟨n0,aK n0 k⟩ n0 (hB1.more (q,i)) h2 h3 hWW true (by rw[ox,hA1]) bad1.length fr.length to.length rfl (xV (fr.set n (i:Int)) LA) (zK to LA);rw[ox,hA1] at e2;refine⟨bad2,abj e2 ?_,hB2⟩;cases LA with
      |nil=>cases hA1
      |cons w r=>have:=VE n i w fr to;show some (PR.ok (true,tx,bad2.length,fr.length,to.length,sp.length,bad2,rZ (fr.set n (i:Int)) w,r9 to w,sp))=some (PR.ok (true,tx,bad2.length,fr.length,to.length,sp.length,bad2,rZ fr ((2 * n,i)::w),r9 to ((2 * n,i)::w),sp));rw[this.1,this.2]
     |false=>
      have hno':=xH hA1;subst hno';rw[aaG,ZG,en,ZC];have hw:(xV (fr.set n (i:Int)) [])[n]? =some (i:Int):=aat hn;rw[hw,ZC];show ∃bad',av ⟨n0,aK n0 k⟩ n0 _ _ _ _ _ _ _ _ ((fr.set n (i:Int)).set n was) _ _=_/\_;rw[J9 hfn]
      obtain⟨bad2,e2,hB2⟩:=r26 ⟨n0,aK n0 k⟩ n0 (hB1.more (q,i)) h2 h3 hWW false rfl bad1.length fr.length to.length rfl fr to;exact⟨bad2,e2,hB2⟩
   | @en n a g1 g2=>
     rw[PM hs] at hyes;dsimp only at hyes;obtain⟨LA,ha,rfl⟩:=Z4.1 hyes;rw[show((enP n a).Kind==0)=false from rfl,show((enP n a).Kind==1)=false from rfl,show((enP n a).Kind==2)=false from rfl,show((enP n a).Kind==3)=false from rfl,show((enP n a).Kind==4)=true from rfl,ZF,ZF,ZF,ZF,ZG];have hn:n < to.length:=by omega
     have hfn:=ZE hn;have en:cf to.length (enP n a).Number=some n:=dT hn;generalize to[n] =was at hfn;rw[en,ZC,hfn,ZC,ZC,hfn,ZC];obtain⟨bad1,e1,hB1⟩:=rO hS hsp htx hG n0 k a i f1 LA A bad fr (to.set n (i:Int)) (by omega) g2 h3 ha hA h6 h7 (by simpa using h8);rw[aaA] at e1
     have e1':bB ⟨n0,aK n0 k⟩ (enP n a).A (i:Int) tx bad.length fr.length to.length sp.length bad fr (to.set n (i:Int)) sp=_:=e1;rw[e1'];unfold sf;rw[ZC];dsimp only;rw[aaA,ox];cases hA1:nB LA with
     |true=>
      rw[aaE,ZF];obtain⟨bad2,e2,hB2⟩:=r26 ⟨n0,aK n0 k⟩ n0 (hB1.more (q,i)) h2 h3 hWW true (by rw[ox,hA1]) bad1.length fr.length to.length rfl (xV fr LA) (zK (to.set n (i:Int)) LA);rw[ox,hA1] at e2;refine⟨bad2,abj e2 ?_,hB2⟩;cases LA with
      |nil=>cases hA1
      |cons w r=>have:=WK n i w fr to;show some (PR.ok (true,tx,bad2.length,fr.length,to.length,sp.length,bad2,rZ fr w,r9 (to.set n (i:Int)) w,sp))=some (PR.ok (true,tx,bad2.length,fr.length,to.length,sp.length,bad2,rZ fr ((2 * n+1,i)::w),r9 to ((2 * n+1,i)::w),sp));rw[this.1,this.2]
     |false=>
      have hno':=xH hA1;subst hno';rw[aaG,ZG,en,ZC];have hw:(zK (to.set n (i:Int)) [])[n]? =some (i:Int):=aat hn;rw[hw,ZC];show ∃bad',av ⟨n0,aK n0 k⟩ n0 _ _ _ _ _ _ _ _ _ ((to.set n (i:Int)).set n was) _=_/\_;rw[J9 hfn]
      obtain⟨bad2,e2,hB2⟩:=r26 ⟨n0,aK n0 k⟩ n0 (hB1.more (q,i)) h2 h3 hWW false rfl bad1.length fr.length to.length rfl fr to;exact⟨bad2,e2,hB2⟩
end
set_option maxRecDepth 1000000
variable {MM:Nat}
def DL(tx:List UInt8)(a b:Int):List UInt8:=if 0<=a/\a<=b then(tx.take b.toNat).drop a.toNat else []
def sT(tx:List UInt8)(sl:List Int)(k:Nat):List UInt8:=DL tx (sl.getD (2 * (k+1)) 0) (sl.getD (2 * (k+1)+1) 0)
def OW{tx:List UInt8}{a b:Int}(h1:0<=a)(h2:a<=b)(h3:b<=tx.length):mI tx a b=some (DL tx a b):=by unfold mI DL;rw[ZI ⟨h1,h2,h3⟩,ZI ⟨h1,h2⟩]
def xq{tx:List UInt8}{a b:Int}(h:¬(0<=a/\a<=b)):DL tx a b=[] :=by unfold DL;rw[if_neg h]
def UT{out:List (List UInt8)}(h:out.length<=1000)(s:List UInt8):ie 16 out [s] =some (out++ [s]):=by unfold ie;rw[ZI (by simp only[List.length_cons,List.length_nil];omega)]
def FX{st:List Vstep}{G:Nat}(hG:G<=9){tx:List UInt8}(htx:tx.length<=2000){sl:List Int}(hsl:vH G tx.length sl):∀ (d n k:Nat),k+d=G->d+1<=n->bn (MM+3000) n tx sl ((List.range k).map (sT tx sl)) ((k+1:Nat):Int) ⟨(G:Int),st⟩=some ((List.range G).map (sT tx sl),⟨(G:Int),st⟩)
 |d,0,k,h1,h2=>by omega
 |0,n+1,k,h1,h2=>by
  have:k=G:=by omega
  subst this;rw[bn,Z1 (by show ¬(((k+1:Nat):Int)<=(k:Int));omega),ZF]
 |d+1,n+1,k,h1,h2=>by
  have hl:=hsl.1;have e1:w64 (2 * ((k+1:Nat):Int))=((2 * (k+1):Nat):Int):=by rw[kX (by omega) (by omega)];omega
  have e2:w64 (((2 * (k+1):Nat):Int)+1)=((2 * (k+1)+1:Nat):Int):=f9 (by omega);have g1:sl[2 * (k+1)]? =some (sl[2 * (k+1)]'(by omega)):=ZE (by omega);have g2:sl[2 * (k+1)+1]? =some (sl[2 * (k+1)+1]'(by omega)):=ZE (by omega);have b2:=hsl.2 _ (aaD (show 2 * (k+1)+1 < sl.length by omega))
  generalize (sl[2 * (k+1)]'(by omega))=v1 at g1;generalize (sl[2 * (k+1)+1]'(by omega))=v2 at g2 b2;have hg:sT tx sl k=DL tx v1 v2:=by unfold sT;rw[Z5,Z5,g1,g2];rfl
  have r8:∀s,s=DL tx v1 v2->cw (MM+3000) (bn (MM+3000) n) n tx sl ((List.range k).map (sT tx sl)) ((k+1:Nat):Int) s ⟨(G:Int),st⟩=some ((List.range G).map (sT tx sl),⟨(G:Int),st⟩):=fun s hs=>by
   unfold cw;rw[UT (by simp;omega),ZC,f9 (by omega),hs,<- hg];have:=FX (st:=st) hG htx hsl d n (k+1) (by omega) (by omega);rw[List.range_succ,aah] at this;exact this
  rw[bn,Z0 (by show(((k+1:Nat):Int)<=(G:Int));omega),ZG,e1,ixn,g1,ZC];by_cases h0:v1>=0
  ·rw[Z0 h0,ZG,e2,ixn,g2,ZC,ZC];by_cases h5:v2>=v1
   ·rw[Z0 h5,ZG,ZC,ZC,OW h0 h5 b2.2,ZC];exact r8 _ rfl
   ·rw[Z1 h5,ZF];exact r8 _ (xq (by omega)).symm
  ·rw[Z1 h0,ZF];exact r8 _ (xq (by omega)).symm
def VO{S:List Bool}(c:UInt8):AE 256 (some S) (b2i c)=some (inS S c):=by have hb:=c.toNat_lt;unfold AE cf;rw[ZC,jO,ZI (by omega)];rfl
section
variable {st:List Vstep} {G:Nat} {tx:List UInt8} {wf:Nat->Nat->List Rte}
def FB{T:List Vthread}{i j q:Nat}(hj:j < T.length)(hq:T[j].at_=(q:Int)):bsT wf (T.take (j+1)) i=(bsT wf (T.take j) i).or ((wf q i).head?.map (lj T[j].slots)):=by
 rw[List.take_succ_eq_append_getElem hj,Dg]
 congr 1
 have:T[j] =⟨(q:Int),T[j].slots⟩:=by rw[<- hq]
 rw[this,Jx]
structure RQ (wf:Nat->Nat->List Rte) (st:List Vstep) (G:Nat) (tx:List UInt8) (T:List Vthread) (i j:Nat) (next:List Vthread) (met:List (Int × Bool)):Prop where
 hb:bsT wf next (i+1)=bsT wf (T.take j) i
 hi:Ik wf next met [] (i+1)
 ht:TQ st G tx next (i+1)
 hs:next.length+cnt st.length met<=st.length
def DB(hM:MOk st G)(htx:tx.length<=2000)(hw:∀f q i L,W (gp st) tx f q i=some L->wf q i=L){T:List Vthread}{i:Nat}{c:UInt8}(hT:TQ st G tx T i)(hTl:T.length<=200)(hc:tx[i]? =some c){k4:(List UInt8)->Nat->Int->Int->VMask->(List Vthread)->Option (PR ap)}{Gi:Int}(x30 x31:Int):∀ (d j n:Nat) (next:List Vthread) (met:List (Int × Bool)),j+d=T.length->d+1<=n->RQ wf st G tx T i j next met->
  ∃next' met',cT (MM+3000) k4 n tx (i:Int) next.length x30 x31 T.length (T.length:Int) (j:Int) met ⟨Gi,st⟩ T next=k4 tx next'.length x30 (w64 (x31+1)) ⟨Gi,st⟩ next'/\RQ wf st G tx T i T.length next' met'
 |d,j,0,next,met,h1,h2,hI=>by omega
 |0,j,n+1,next,met,h1,h2,hI=>by
  have hj:j=T.length:=by omega
  subst hj;refine⟨next,met,?_,hI⟩;rw[cT,Z1 (by omega),ZF]
 |d+1,j,n+1,next,met,h1,h2,hI=>by
  have hil:=(ZD.1 hc).1;have hjl:j < T.length:=by omega
  have hTj:=ZE hjl;obtain⟨q,hq,hstop,hqn,hsl,f,L,hW⟩:=hT T[j] (aaD hjl);have htk:=FB (wf:=wf) (i:=i) hjl hq;rw[hw _ _ _ _ hW] at htk;rw[cT,Z0 (by omega),ZG,dT hjl,ZC,hTj,ZC,hq,ixn]
  have skip:L=[] ->∃next' met',cy (MM+3000) (cT (MM+3000) k4 n) k4 n tx (i:Int) next.length x30 x31 T.length (T.length:Int) (j:Int) met ⟨Gi,st⟩ T next=k4 tx next'.length x30 (w64 (x31+1)) ⟨Gi,st⟩ next'/\RQ wf st G tx T i T.length next' met':=fun hL=>by
   unfold cy;rw[f9 (by omega)];refine DB hM htx hw hT hTl hc x30 x31 d (j+1) n next met (by omega) (by omega) ⟨?_,hI.hi,hI.ht,hI.hs⟩
   rw[hI.hb,htk,hL];simp
  cases f with
  |zero=>cases hW
  |succ f=>
  rw[W] at hW;rcases hstop with ⟨S,hs⟩|hs
  ·rw[Qw hs] at hW;dsimp only at hW;rw[hc] at hW;dsimp only at hW;rw[hs,ZC];unfold eV;rw[show((tkS S).kind==0)=true from rfl,ZG,ixn,hc,ZC];show ∃next' met',((AE 256 (some S) (b2i c)).bind _)=_/\_
   rw[VO,ZC];cases hv:inS S c with
   |false=>rw[hv,ZH (by decide)] at hW;rw[ZF];exact skip (ZZ hW).symm
   |true=>
    rw[hv,ZI rfl] at hW;rw[ZG];have hok:=hM.1 q _ hs;have hq1:q+1 < st.length:=by
     generalize hg:tkS S=sg at hok;cases hok with
     |tk _ h=>exact h
     |fk _ _=>cases hg
     |jp _=>cases hg
     |sv _ _=>cases hg
     |dn=>cases hg
    have hsz:=hM.2.1;have h4:=hI.hs;have hcn:=HZ st.length met;obtain⟨l',met',e,b1,i1,t1,s1,m1⟩:=rr (MM:=MM) (Gi:=Gi) hM hw (i+1) (by omega) (MM+3000) (q+1) T[j].slots next met f L [] hq1 hsl (by omega) (by omega) hW (fun a ha=>by cases ha) hI.hi hI.ht
    have e':bY (MM+3000) next.length ⟨((q+1:Nat):Int),T[j].slots⟩ ((i+1:Nat):Int) ⟨Gi,st⟩ next met=_:=e
    rw[hq,f9 (by omega),f9 (by omega),e',ZC];dsimp only;unfold cy;rw[f9 (by omega)];exact DB hM htx hw hT hTl hc x30 x31 d (j+1) n l' met' (by omega) (by omega) ⟨by rw[b1,hI.hb,htk],i1,t1,by omega⟩
  ·rw[PC hs] at hW;dsimp only at hW;rw[ZH (by omega)] at hW;rw[hs,ZC];unfold eV;rw[show(dnS.kind==0)=false from rfl,ZF];exact skip (ZZ hW).symm
def VK(G:Nat)(st:List Vstep)(tx:List UInt8):Option (List Int)->PR ap
 |none=>.ok (false,[],⟨(G:Int),st⟩)
 |some sl=>.ok (true,(List.range G).map (sT tx sl),⟨(G:Int),st⟩)
def QC(hM:MOk st G)(htx:tx.length<=2000)(hw:∀f q i L,W (gp st) tx f q i=some L->wf q i=L){T:List Vthread}(hT:TQ st G tx T tx.length)(hTl:T.length<=200):∀ (d j n:Nat),j+d=T.length->d+1<=n->bsT wf (T.take j) tx.length=none->
  dc (MM+3000) n tx T.length (T.length:Int) (j:Int) ⟨(G:Int),st⟩ T=some (VK G st tx (bsT wf T tx.length))
 |d,j,0,h1,h2,h3=>by omega
 |0,j,n+1,h1,h2,h3=>by rw[aan (by omega)] at h3;rw[dc,Z1 (by omega),ZF,h3];rfl
 |d+1,j,n+1,h1,h2,h3=>by
  have hjl:j < T.length:=by omega
  have hTj:=ZE hjl;obtain⟨q,hq,hstop,hqn,hsl,f,L,hW⟩:=hT T[j] (aaD hjl);have htk:=FB (wf:=wf) (i:=tx.length) hjl hq;rw[hw _ _ _ _ hW,h3] at htk;rw[dc,Z0 (by omega),ZG,dT hjl,ZC,hTj,ZC,hq,ixn];cases f with
  |zero=>cases hW
  |succ f=>
  rw[W] at hW;rcases hstop with ⟨S,hs⟩|hs
  ·rw[Qw hs] at hW;dsimp only at hW;rw[aak.2 (ZN _)] at hW;have hL:=(ZZ hW).symm;rw[hs,ZC,show((tkS S).kind==4)=false from rfl,ZF,f9 (by omega)];exact QC hM htx hw hT hTl d (j+1) n (by omega) (by omega) (by rw[htk,hL];rfl)
  ·rw[PC hs] at hW;dsimp only at hW;rw[ZI rfl] at hW;have hL:=(ZZ hW).symm;rw[hs,ZC,show(dnS.kind==4)=true from rfl,ZG];have hl':ey (MM+3000) tx T[j].slots ⟨(G:Int),st⟩=some ((List.range G).map (sT tx T[j].slots),⟨(G:Int),st⟩):=FX (st:=st) hM.2.2 htx hsl G (MM+3000) 0 (by omega) (by have:=hM.2.2;omega);rw[hl',ZC]
   have hb:bsT wf T tx.length=some T[j].slots:=by have:=Dg (wf:=wf) (l:=T.take (j+1)) (l':=T.drop (j+1)) (i:=tx.length);rw[List.take_append_drop,htk,hL] at this;rw[this];rfl
   rw[hb];rfl
def LX(hM:MOk st G)(htx:tx.length<=2000)(hw:∀f q i L,W (gp st) tx f q i=some L->wf q i=L):∀ (d i n:Nat) (T:List Vthread),i+d=tx.length->d+300<=n->TQ st G tx T i->T.length<=200->
  cW (MM+3000) n tx T.length (tx.length:Int) (i:Int) ⟨(G:Int),st⟩ T=some (VK G st tx (bsT wf T i))
 |d,i,0,T,h1,h2,hT,hTl=>by omega
 |0,i,n+1,T,h1,h2,hT,hTl=>by
  have:i=tx.length:=by omega
  subst this;rw[cW,Z1 (by omega),ZF];exact QC hM htx hw hT hTl T.length 0 n (by omega) (by omega) rfl
 |d+1,i,n+1,T,h1,h2,hT,hTl=>by
  have hil:i < tx.length:=by omega
  have hcl:=HZ st.length [];rw[cW,Z0 (by omega),ZG];obtain⟨next,met,e,hR⟩:=DB (MM:=MM) (Gi:=(G:Int)) hM htx hw hT hTl (ZE hil) (k4:=cW (MM+3000) n) (tx.length:Int) (i:Int) T.length 0 n [] [] (by omega) (by omega) ⟨rfl,(fun q hq=>by cases hq),(fun t ht=>by cases ht),by simpa using hcl⟩;have hb:=hR.hb;rw[aan (ZN _)] at hb
  refine abj e ?_;rw[f9 (by omega),<- hb];exact LX hM htx hw d (i+1) n next (by omega) (by omega) hR.ht (by have:=hR.hs;have:=hM.2.1;omega)
def Yg(hM:MOk st G)(h0:0 < st.length)(htx:tx.length<=2000){f:Nat}{L:List Rte}(hW:W (gp st) tx f 0 0=some L):eI (MM+3000) tx ⟨(G:Int),st⟩=some (VK G st tx (L.head?.map (lj (List.replicate (2 * G+2) (-1))))):=by
 have hG:=hM.2.2;have hr:jl (MM+3000) ([-1] :List Int) (w64 (w64 (2 * (G:Int))+2))=some (List.replicate (2 * G+2) (-1)):=by
  have e1:w64 (w64 (2 * (G:Int))+2)=((2 * G+2:Nat):Int):=by have e0:w64 (2 * (G:Int))=2 * (G:Int):=kX (by omega) (by omega);rw[e0,kX (by omega) (by omega)];omega
  rw[e1];unfold jl;dsimp only;rw[ZI (by omega),abN]
 have hsl:vH G tx.length (List.replicate (2 * G+2) (-1)):=⟨by simp,fun v hv=>by rw[(aby.1 hv).2];omega⟩
 obtain⟨wf,hw⟩:=Xs (gp st) tx;have hcl:=HZ st.length [];obtain⟨l',met',e,b1,i1,t1,s1,m1⟩:=rr (MM:=MM) (Gi:=(G:Int)) hM hw 0 (aad _) (MM+3000+1) 0 (List.replicate (2 * G+2) (-1)) [] [] f L [] h0 hsl (by have:=hM.2.1;omega) (by have:=hM.2.1;simp;omega) hW (fun a ha=>by cases ha) (fun q hq=>by cases hq) (fun t ht=>by cases ht)
 unfold eI;show((jl (MM+3000) ([-1] :List Int) (w64 (w64 (2 * (G:Int))+2))).bind _)=_;rw[hr,ZC,Sm];have e':b7 (MM+3000) (MM+3000+1) 0 ⟨0,List.replicate (2 * G+2) (-1)⟩ 0 ⟨(G:Int),st⟩ [] [] =_:=e;rw[e',aa8,ZC];have hb:bsT wf l' 0=L.head?.map (lj (List.replicate (2 * G+2) (-1))):=b1;rw[<- hb]
 exact LX hM htx hw tx.length 0 (MM+3000) l' (by omega) (by omega) t1 (by have:=hM.2.1;simp at s1;omega)
end
set_option maxRecDepth 100000
def rX(i0:Nat)(i1:Nat)(i2:Nat)(i3:Nat)(i4:Nat)(i5:Nat)(r:Bool × (List UInt8) × Nat × Nat × Nat × Nat × (List Bool) × (List Int) × (List Int) × (List VSpot)):TV EE.T:=.a (.d .bool r.1)
def qT(i0:Nat)(i1:Nat)(i2:Nat)(i3:Nat)(i4:Nat)(i5:Nat)(r:Bool × (List UInt8) × Nat × Nat × Nat × Nat × (List Bool) × (List Int) × (List Int) × (List VSpot)):List (Nat × TB EE.T):=[(i0,.cs [.box i1 0,.d .str r.2.1,.vec .bool i2 r.2.2.1,.vec (.int .i64) i3 r.2.2.2.1,.vec (.int .i64) i4 r.2.2.2.2.1]),(i1,.cs [.vec (.nam 4) i5 r.2.2.2.2.2.1]),(i2,.vec i2 .bool r.2.2.2.2.2.2.1),(i3,.vec i3 (.int .i64) r.2.2.2.2.2.2.2.1),(i4,.vec i4 (.int .i64) r.2.2.2.2.2.2.2.2.1),(i5,.vec i5 (.nam 4) r.2.2.2.2.2.2.2.2.2)]
def gk(N:RecC6)(us:List (TV EE.T))(hs:List (Nat × TB EE.T)):XR EE.T:=
 gdX (d7 us 3) <|
 bnX (aB us 0) fun i0=>
 bnX (aD (.int .i64) us 1) fun x1=>
 bnX (aD (.int .i64) us 2) fun x2=>
 bnX (bC hs i0) fun l0=>
 gdX (d7 l0 5) <|
 bnX (cB l0 0) fun i1=>
 bnX (cD .str l0 1) fun y0_1=>
 bnX (cVi .bool l0 2) fun i2=>
 bnX (cVn .bool l0 2) fun y0_2=>
 bnX (cVi (.int .i64) l0 3) fun i3=>
 bnX (cVn (.int .i64) l0 3) fun y0_3=>
 bnX (cVi (.int .i64) l0 4) fun i4=>
 bnX (cVn (.int .i64) l0 4) fun y0_4=>
 bnX (bC hs i1) fun l1=>
 gdX (d7 l1 1) <|
 bnX (cVi (.nam 4) l1 0) fun i5=>
 bnX (cVn (.nam 4) l1 0) fun y1_0=>
 bnX (bV .bool hs i2) fun y2=>
 bnX (bV (.int .i64) hs i3) fun y3=>
 bnX (bV (.int .i64) hs i4) fun y4=>
 bnX (bV (.nam 4) hs i5) fun y5=>
 gdX (bx hs [i0,i1,i2,i3,i4,i5]) <|
 gdX (ip [i0,i1,i2,i3,i4,i5]) <|
 .mv (bB N x1 x2 y0_1 y0_2 y0_3 y0_4 y1_0 y2 y3 y4 y5) [i0,i1,i2,i3,i4,i5] (mvL [i0,i1,i2,i3,i4,i5] [100000,100001,200002,200003,200004,200005]) 0 (rX i0 i1 i2 i3 i4 i5) (qT i0 i1 i2 i3 i4 i5)
def ve(N:RecC6):Prop:=XOk Try.prog EE 27 (gk N)
def pt(N:RecC6)(hN:ve N):XOk Try.prog EE 27 (gk N):=hN
def KE(n:Nat):ve ⟨n,fun _ _ _ _ _ _ _ _ _ _ _=>none⟩:=fun us hs=>
 ay fun h1=>ab fun i0 h2=>ab fun x1 h3=>ab fun x2 h4=>ab fun l0 h5=>ay fun h6=>ab fun i1 h7=>ab fun y0_1 h8=>ab fun i2 h9=>ab fun y0_2 h10=>ab fun i3 h11=>ab fun y0_3 h12=>ab fun i4 h13=>ab fun y0_4 h14=>ab fun l1 h15=>ay fun h16=>ab fun i5 h17=>ab fun y1_0 h18=>ab fun y2 h19=>ab fun y3 h20=>ab fun y4 h21=>ab fun y5 h22=>ay fun h23=>ay fun h24=>fun p hz=>by cases hz
def fZ(i0:Nat)(i1:Nat)(i2:Nat)(i3:Nat)(i4:Nat)(i5:Nat)(r:bF):TV EE.T:=.a (.d .bool r.1)
def xb(i0:Nat)(i1:Nat)(i2:Nat)(i3:Nat)(i4:Nat)(i5:Nat)(r:bF):List (Nat × TB EE.T):=[(i0,.cs [.box i1 0,.d .str r.2.1,.vec .bool i2 r.2.2.1,.vec (.int .i64) i3 r.2.2.2.1,.vec (.int .i64) i4 r.2.2.2.2.1]),(i1,.cs [.vec (.nam 4) i5 r.2.2.2.2.2.1]),(i2,.vec i2 .bool r.2.2.2.2.2.2.1),(i3,.vec i3 (.int .i64) r.2.2.2.2.2.2.2.1),(i4,.vec i4 (.int .i64) r.2.2.2.2.2.2.2.2.1),(i5,.vec i5 (.nam 4) r.2.2.2.2.2.2.2.2.2)]
def i6(r:PR bF):RL EE.T:=mM (fZ 100000 100001 200002 200003 200004 200005) (xb 100000 100001 200002 200003 200004 200005) r
def Sw:Lvs:=⟨[(10,⟨[(0,false),(2,false),(7,false),(8,false)],[],[(8,(some 4,[])),(100000,(none,[])),(100001,(none,[])),(200002,(none,[])),(200003,(none,[])),(200004,(none,[])),(200005,(none,[]))],[]⟩),(15,⟨[(0,false),(2,false),(7,false),(8,false)],[],[(8,(some 4,[])),(100000,(none,[])),(100001,(none,[])),(200002,(none,[])),(200003,(none,[])),(200004,(none,[])),(200005,(none,[]))],[]⟩),(16,⟨[(0,false),(2,false),(7,false),(8,false),(10,false)],[],[(8,(some 4,[])),(100000,(none,[])),(100001,(none,[])),(200002,(none,[])),(200003,(none,[])),(200004,(none,[])),(200005,(none,[]))],[]⟩),(19,⟨[(0,false),(7,false),(8,false),(9,false),(10,false)],[],[(8,(some 4,[])),(100000,(none,[])),(100001,(none,[])),(200002,(none,[])),(200003,(none,[])),(200004,(none,[])),(200005,(none,[]))],[]⟩),(21,⟨[(0,false),(2,false),(7,false),(8,false)],[],[(8,(some 4,[])),(100000,(none,[])),(100001,(none,[])),(200002,(none,[])),(200003,(none,[])),(200004,(none,[])),(200005,(none,[]))],[]⟩),(22,⟨[(0,false),(2,false),(7,false),(8,false),(11,false)],[],[(8,(some 4,[])),(100000,(none,[])),(100001,(none,[])),(200002,(none,[])),(200003,(none,[])),(200004,(none,[])),(200005,(none,[]))],[]⟩),(25,⟨[(0,false),(7,false),(8,false),(9,false),(11,false)],[],[(8,(some 4,[])),(100000,(none,[])),(100001,(none,[])),(200002,(none,[])),(200003,(none,[])),(200004,(none,[])),(200005,(none,[]))],[]⟩),(26,⟨[(0,false),(7,false),(9,false)],[],[(100000,(none,[])),(100001,(none,[])),(200002,(none,[])),(200003,(none,[])),(200004,(none,[])),(200005,(none,[]))],[]⟩)],[],[26],[],false,[(100000,(none,[])),(100001,(none,[]))],[100000,100001,200002,200003,200004,200005],[],[]⟩
def Ud:List ResultVar:=[.tmp 6]
def QK(N:RecC6):Gam EE:=⟨[],EQT,[⟨27,gk N⟩],[]⟩
def P6(N:RecC6)(hN:ve N):GOk Try.prog TT EE (QK N):=GOk.consx (pt N hN) (GOk.nil cQ)
def By(c:Code):List It2:=atR 26 c
def Bs(x7:Int)(x9:Bool)(Zg:List UInt8)(Zr:Nat)(Ze:Nat)(Zs:Nat)(Zt:Nat)(Zx:List Bool)(Zy:List Int)(Zz:List Int)(ZA:List VSpot):TS EE.T:=⟨174,[(0,.a (.box 100000 0)),(7,.a (.d (.int .i64) x7)),(9,.a (.d .bool x9))],[(100000,.cs [.box 100001 0,.d .str Zg,.vec .bool 200002 Zr,.vec (.int .i64) 200003 Ze,.vec (.int .i64) 200004 Zs]),(100001,.cs [.vec (.nam 4) 200005 Zt]),(200002,.vec 200002 .bool Zx),(200003,.vec 200003 (.int .i64) Zy),(200004,.vec 200004 (.int .i64) Zz),(200005,.vec 200005 (.nam 4) ZA)],[]⟩
def OB(c:Code):List It2:=[.c c]
def Q4(x1:Int)(x2:Int)(y0_1:List UInt8)(y0_2:Nat)(y0_3:Nat)(y0_4:Nat)(y1_0:Nat)(y2:List Bool)(y3:List Int)(y4:List Int)(y5:List VSpot):TS EE.T:=⟨174,[(0,.a (.box 100000 0)),(1,.a (.d (.int .i64) x1)),(2,.a (.d (.int .i64) x2))],[(100000,.cs [.box 100001 0,.d .str y0_1,.vec .bool 200002 y0_2,.vec (.int .i64) 200003 y0_3,.vec (.int .i64) 200004 y0_4]),(100001,.cs [.vec (.nam 4) 200005 y1_0]),(200002,.vec 200002 .bool y2),(200003,.vec 200003 (.int .i64) y3),(200004,.vec 200004 (.int .i64) y4),(200005,.vec 200005 (.nam 4) y5)],[]⟩
def gw(c:Code)(f:Int->Bool->(List UInt8)->Nat->Nat->Nat->Nat->(List Bool)->(List Int)->(List Int)->(List VSpot)->Option (PR bF))(x7:Int)(x9:Bool)(Zg:List UInt8)(Zr:Nat)(Ze:Nat)(Zs:Nat)(Zt:Nat)(Zx:List Bool)(Zy:List Int)(Zz:List Int)(ZA:List VSpot):Tree (Lf EE.T × Option (PR bF)):=.leaf (.go (By c) (Bs x7 x9 Zg Zr Ze Zs Zt Zx Zy Zz ZA),f x7 x9 Zg Zr Ze Zs Zt Zx Zy Zz ZA)
abbrev Ju(N:RecC6)(r:PR bF)(k:List It2)(s:TS EE.T):Prop:=fL (Y:=TT) EE (QK N) Sw Ud (fun u=>u=i6 r) k s
def pd(x:PR bF):Tree (Lf EE.T × Option (PR bF)):=.leaf (.done (i6 x),some x)
def w27i1oR26{N:RecC6}{r:PR bF}(n:Nat)(x7:Int)(x9:Bool)(Zg:List UInt8)(Zr:Nat)(Ze:Nat)(Zs:Nat)(Zt:Nat)(Zx:List Bool)(Zy:List Int)(Zz:List Int)(ZA:List VSpot)(h:av N n x7 x9 Zg Zr Ze Zs Zt Zx Zy Zz ZA=some r):Ju N r (By (aa 0 Try.f27)) (Bs x7 x9 Zg Zr Ze Zs Zt Zx Zy Zz ZA):=
 au (m:=4000) (t:=
 .bnd (cf Zr x7) fun z31=>
 .bnd (Zx[z31]?) fun z32=>
 pd (.ok (x9,Zg,Zr,Ze,Zs,Zt,List.set Zx z31 (!x9),Zy,Zz,ZA))) (by kernel_rfl) (by kernel_rfl) h (fun _=>fun _=>aE (enc:=i6) rfl)
def RA{N:RecC6}{r:PR bF}(x1:Int)(x2:Int)(y0_1:List UInt8)(y0_2:Nat)(y0_3:Nat)(y0_4:Nat)(y1_0:Nat)(y2:List Bool)(y3:List Int)(y4:List Int)(y5:List VSpot)(h:eF N x1 x2 y0_1 y0_2 y0_3 y0_4 y1_0 y2 y3 y4 y5=some r):Ju N r (OB (aa 0 Try.f27)) (Q4 x1 x2 y0_1 y0_2 y0_3 y0_4 y1_0 y2 y3 y4 y5):=
 au (m:=4000) (t:=
 .bnd (cf y0_2 (w64 ((w64 (x1 * (w64 ((y0_1.length:Int)+1))))+x2))) fun z1=>
 .bnd (y2[z1]?) fun z2=>
 .cond (z2)
 (
  pd (.ok (false,y0_1,y0_2,y0_3,y0_4,y1_0,y2,y3,y4,y5)))
 (
  .bnd (cf y1_0 x1) fun z3=>
  .bnd (y5[z3]?) fun z4=>
  .cond (z4.Kind==0)
  (
   gw (aa 0 Try.f27) (av N N.n) (w64 ((w64 (x1 * (w64 ((y0_1.length:Int)+1))))+x2)) (x2==(y0_1.length:Int)) y0_1 y0_2 y0_3 y0_4 y1_0 y2 y3 y4 y5)
  (
   .cond (z4.Kind==1)
   (
    .cond (decide (x2 < (y0_1.length:Int)))
    (
     .bnd (ci y0_1 x2) fun z5=>
     .bnd (ci z4.Set (b2i z5)) fun z6=>
     .cond (z6)
     (
      .bnd (bB N z4.A (w64 (x2+1)) y0_1 y0_2 y0_3 y0_4 y1_0 y2 y3 y4 y5) fun z7=>
      .sm z7 (fun z8=>
       gw (aa 0 Try.f27) (av N N.n) (w64 ((w64 (x1 * (w64 ((y0_1.length:Int)+1))))+x2)) z8.1 z8.2.1 z8.2.2.1 z8.2.2.2.1 z8.2.2.2.2.1 z8.2.2.2.2.2.1 z8.2.2.2.2.2.2.1 z8.2.2.2.2.2.2.2.1 z8.2.2.2.2.2.2.2.2.1 z8.2.2.2.2.2.2.2.2.2) (fun vz7=>
       pd (.pan vz7)))
     (
      gw (aa 0 Try.f27) (av N N.n) (w64 ((w64 (x1 * (w64 ((y0_1.length:Int)+1))))+x2)) false y0_1 y0_2 y0_3 y0_4 y1_0 y2 y3 y4 y5))
    (
     gw (aa 0 Try.f27) (av N N.n) (w64 ((w64 (x1 * (w64 ((y0_1.length:Int)+1))))+x2)) false y0_1 y0_2 y0_3 y0_4 y1_0 y2 y3 y4 y5))
   (
    .cond (z4.Kind==2)
    (
     .bnd (cf y0_2 (w64 ((w64 (x1 * (w64 ((y0_1.length:Int)+1))))+x2))) fun z9=>
     .bnd (y2[z9]?) fun z10=>
     .bnd (bB N z4.A x2 y0_1 y0_2 y0_3 y0_4 y1_0 (List.set y2 z9 true) y3 y4 y5) fun z11=>
     .sm z11 (fun z12=>
      .cond (z12.1)
      (
       gw (aa 0 Try.f27) (av N N.n) (w64 ((w64 (x1 * (w64 ((y0_1.length:Int)+1))))+x2)) true z12.2.1 z12.2.2.1 z12.2.2.2.1 z12.2.2.2.2.1 z12.2.2.2.2.2.1 z12.2.2.2.2.2.2.1 z12.2.2.2.2.2.2.2.1 z12.2.2.2.2.2.2.2.2.1 z12.2.2.2.2.2.2.2.2.2)
      (
       .bnd (bB N z4.B x2 z12.2.1 z12.2.2.1 z12.2.2.2.1 z12.2.2.2.2.1 z12.2.2.2.2.2.1 z12.2.2.2.2.2.2.1 z12.2.2.2.2.2.2.2.1 z12.2.2.2.2.2.2.2.2.1 z12.2.2.2.2.2.2.2.2.2) fun z13=>
       .sm z13 (fun z14=>
        gw (aa 0 Try.f27) (av N N.n) (w64 ((w64 (x1 * (w64 ((y0_1.length:Int)+1))))+x2)) z14.1 z14.2.1 z14.2.2.1 z14.2.2.2.1 z14.2.2.2.2.1 z14.2.2.2.2.2.1 z14.2.2.2.2.2.2.1 z14.2.2.2.2.2.2.2.1 z14.2.2.2.2.2.2.2.2.1 z14.2.2.2.2.2.2.2.2.2) (fun vz13=>
        pd (.pan vz13)))) (fun vz11=>
      pd (.pan vz11)))
    (
     .cond (z4.Kind==3)
     (
      .bnd (cf y0_3 z4.Number) fun z15=>
      .bnd (y3[z15]?) fun z16=>
      .bnd (cf y0_3 z4.Number) fun z17=>
      .bnd (y3[z17]?) fun z18=>
      .bnd (bB N z4.A x2 y0_1 y0_2 y0_3 y0_4 y1_0 y2 (List.set y3 z17 x2) y4 y5) fun z19=>
      .sm z19 (fun z20=>
       .cond (!z20.1)
       (
        .bnd (cf z20.2.2.2.1 z4.Number) fun z21=>
        .bnd (z20.2.2.2.2.2.2.2.1[z21]?) fun z22=>
        gw (aa 0 Try.f27) (av N N.n) (w64 ((w64 (x1 * (w64 ((y0_1.length:Int)+1))))+x2)) z20.1 z20.2.1 z20.2.2.1 z20.2.2.2.1 z20.2.2.2.2.1 z20.2.2.2.2.2.1 z20.2.2.2.2.2.2.1 (List.set z20.2.2.2.2.2.2.2.1 z21 z16) z20.2.2.2.2.2.2.2.2.1 z20.2.2.2.2.2.2.2.2.2)
       (
        gw (aa 0 Try.f27) (av N N.n) (w64 ((w64 (x1 * (w64 ((y0_1.length:Int)+1))))+x2)) z20.1 z20.2.1 z20.2.2.1 z20.2.2.2.1 z20.2.2.2.2.1 z20.2.2.2.2.2.1 z20.2.2.2.2.2.2.1 z20.2.2.2.2.2.2.2.1 z20.2.2.2.2.2.2.2.2.1 z20.2.2.2.2.2.2.2.2.2)) (fun vz19=>
       pd (.pan vz19)))
     (
      .cond (z4.Kind==4)
      (
       .bnd (cf y0_4 z4.Number) fun z23=>
       .bnd (y4[z23]?) fun z24=>
       .bnd (cf y0_4 z4.Number) fun z25=>
       .bnd (y4[z25]?) fun z26=>
       .bnd (bB N z4.A x2 y0_1 y0_2 y0_3 y0_4 y1_0 y2 y3 (List.set y4 z25 x2) y5) fun z27=>
       .sm z27 (fun z28=>
        .cond (!z28.1)
        (
         .bnd (cf z28.2.2.2.2.1 z4.Number) fun z29=>
         .bnd (z28.2.2.2.2.2.2.2.2.1[z29]?) fun z30=>
         gw (aa 0 Try.f27) (av N N.n) (w64 ((w64 (x1 * (w64 ((y0_1.length:Int)+1))))+x2)) z28.1 z28.2.1 z28.2.2.1 z28.2.2.2.1 z28.2.2.2.2.1 z28.2.2.2.2.2.1 z28.2.2.2.2.2.2.1 z28.2.2.2.2.2.2.2.1 (List.set z28.2.2.2.2.2.2.2.2.1 z29 z24) z28.2.2.2.2.2.2.2.2.2)
        (
         gw (aa 0 Try.f27) (av N N.n) (w64 ((w64 (x1 * (w64 ((y0_1.length:Int)+1))))+x2)) z28.1 z28.2.1 z28.2.2.1 z28.2.2.2.1 z28.2.2.2.2.1 z28.2.2.2.2.2.1 z28.2.2.2.2.2.2.1 z28.2.2.2.2.2.2.2.1 z28.2.2.2.2.2.2.2.2.1 z28.2.2.2.2.2.2.2.2.2)) (fun vz27=>
        pd (.pan vz27)))
      (
       gw (aa 0 Try.f27) (av N N.n) (w64 ((w64 (x1 * (w64 ((y0_1.length:Int)+1))))+x2)) false y0_1 y0_2 y0_3 y0_4 y1_0 y2 y3 y4 y5))))))) (by kernel_rfl) (by kernel_rfl) h (fun _=>fun _=>⟨aE (enc:=i6) rfl,fun _=>fun _=>⟨fun h=>w27i1oR26 N.n _ _ _ _ _ _ _ _ _ _ _ h,⟨⟨fun _=>fun _=>⟨fun _=>⟨fun _=>fun h=>w27i1oR26 N.n _ _ _ _ _ _ _ _ _ _ _ h,fun _=>aE (enc:=i6) rfl⟩,fun h=>w27i1oR26 N.n _ _ _ _ _ _ _ _ _ _ _ h⟩,fun h=>w27i1oR26 N.n _ _ _ _ _ _ _ _ _ _ _ h⟩,⟨fun _=>fun _=>fun _=>⟨fun _=>⟨fun h=>w27i1oR26 N.n _ _ _ _ _ _ _ _ _ _ _ h,fun _=>⟨fun _=>fun h=>w27i1oR26 N.n _ _ _ _ _ _ _ _ _ _ _ h,fun _=>aE (enc:=i6) rfl⟩⟩,fun _=>aE (enc:=i6) rfl⟩,⟨fun _=>fun _=>fun _=>fun _=>fun _=>⟨fun _=>⟨fun _=>fun _=>fun h=>w27i1oR26 N.n _ _ _ _ _ _ _ _ _ _ _ h,fun h=>w27i1oR26 N.n _ _ _ _ _ _ _ _ _ _ _ h⟩,fun _=>aE (enc:=i6) rfl⟩,⟨fun _=>fun _=>fun _=>fun _=>fun _=>⟨fun _=>⟨fun _=>fun _=>fun h=>w27i1oR26 N.n _ _ _ _ _ _ _ _ _ _ _ h,fun h=>w27i1oR26 N.n _ _ _ _ _ _ _ _ _ _ _ h⟩,fun _=>aE (enc:=i6) rfl⟩,fun h=>w27i1oR26 N.n _ _ _ _ _ _ _ _ _ _ _ h⟩⟩⟩⟩⟩⟩)
def J2(x1:Int)(x2:Int)(y0_1:List UInt8)(y0_2:Nat)(y0_3:Nat)(y0_4:Nat)(y1_0:Nat)(y2:List Bool)(y3:List Int)(y4:List Int)(y5:List VSpot):List (TV EE.T):=[.a (.box 100000 0),.a (.d (.int .i64) x1),.a (.d (.int .i64) x2)]
def DM(x1:Int)(x2:Int)(y0_1:List UInt8)(y0_2:Nat)(y0_3:Nat)(y0_4:Nat)(y1_0:Nat)(y2:List Bool)(y3:List Int)(y4:List Int)(y5:List VSpot):List (Nat × TB EE.T):=[(100000,.cs [.box 100001 0,.d .str y0_1,.vec .bool 200002 y0_2,.vec (.int .i64) 200003 y0_3,.vec (.int .i64) 200004 y0_4]),(100001,.cs [.vec (.nam 4) 200005 y1_0]),(200002,.vec 200002 .bool y2),(200003,.vec 200003 (.int .i64) y3),(200004,.vec 200004 (.int .i64) y4),(200005,.vec 200005 (.nam 4) y5)]
def py{N:RecC6}(hN:ve N)(x1:Int)(x2:Int)(y0_1:List UInt8)(y0_2:Nat)(y0_3:Nat)(y0_4:Nat)(y1_0:Nat)(y2:List Bool)(y3:List Int)(y4:List Int)(y5:List VSpot){r:PR bF}(h:eF N x1 x2 y0_1 y0_2 y0_3 y0_4 y1_0 y2 y3 y4 y5=some r)(I:Rn)(hi:Inj I (DM x1 x2 y0_1 y0_2 y0_3 y0_4 y1_0 y2 y3 y4 y5)):aI Try.prog 27 ((J2 x1 x2 y0_1 y0_2 y0_3 y0_4 y1_0 y2 y3 y4 y5).map (TV.to EE.toEnc I)) (hTo EE.toEnc I (DM x1 x2 y0_1 y0_2 y0_3 y0_4 y1_0 y2 y3 y4 y5)) (cH EE I fun u=>u=i6 r):=
 dI (aa 0 Try.f27) 174 mixed (P6 N hN) Try.func27 (by kernel_rfl) rfl rfl rfl rfl (RA x1 x2 y0_1 y0_2 y0_3 y0_4 y1_0 y2 y3 y4 y5 h) I hi
def pS(N:RecC6)(us:List (TV EE.T))(hs:List (Nat × TB EE.T)):XR EE.T:=
 gdX (d7 us 3) <|
 bnX (aB us 0) fun i0=>
 bnX (aD (.int .i64) us 1) fun x1=>
 bnX (aD (.int .i64) us 2) fun x2=>
 bnX (bC hs i0) fun l0=>
 gdX (d7 l0 5) <|
 bnX (cB l0 0) fun i1=>
 bnX (cD .str l0 1) fun y0_1=>
 bnX (cVi .bool l0 2) fun i2=>
 bnX (cVn .bool l0 2) fun y0_2=>
 bnX (cVi (.int .i64) l0 3) fun i3=>
 bnX (cVn (.int .i64) l0 3) fun y0_3=>
 bnX (cVi (.int .i64) l0 4) fun i4=>
 bnX (cVn (.int .i64) l0 4) fun y0_4=>
 bnX (bC hs i1) fun l1=>
 gdX (d7 l1 1) <|
 bnX (cVi (.nam 4) l1 0) fun i5=>
 bnX (cVn (.nam 4) l1 0) fun y1_0=>
 bnX (bV .bool hs i2) fun y2=>
 bnX (bV (.int .i64) hs i3) fun y3=>
 bnX (bV (.int .i64) hs i4) fun y4=>
 bnX (bV (.nam 4) hs i5) fun y5=>
 gdX (bx hs [i0,i1,i2,i3,i4,i5]) <|
 gdX (ip [i0,i1,i2,i3,i4,i5]) <|
 .mv (eF N x1 x2 y0_1 y0_2 y0_3 y0_4 y1_0 y2 y3 y4 y5) [i0,i1,i2,i3,i4,i5] (mvL [i0,i1,i2,i3,i4,i5] [100000,100001,200002,200003,200004,200005]) 0 (fZ i0 i1 i2 i3 i4 i5) (xb i0 i1 i2 i3 i4 i5)
def oD(N:RecC6)(hN:ve N):XOk Try.prog EE 27 (pS N):=fun us hs=>
 ay fun h1=>ab fun i0 h2=>ab fun x1 h3=>ab fun x2 h4=>ab fun l0 h5=>ay fun h6=>ab fun i1 h7=>ab fun y0_1 h8=>ab fun i2 h9=>ab fun y0_2 h10=>ab fun i3 h11=>ab fun y0_3 h12=>ab fun i4 h13=>ab fun y0_4 h14=>ab fun l1 h15=>ay fun h16=>ab fun i5 h17=>ab fun y1_0 h18=>ab fun y2 h19=>ab fun y3 h20=>ab fun y4 h21=>ab fun y5 h22=>ay fun h23=>ay fun h24=>fun p hz I hi=>gh (ex:=[]) (ks:=[100000,100001,200002,200003,200004,200005]) (us':=J2 x1 x2 y0_1 y0_2 y0_3 y0_4 y1_0 y2 y3 y4 y5) (h0:=DM x1 x2 y0_1 y0_2 y0_3 y0_4 y1_0 y2 y3 y4 y5) (ρ':=jh I [i0,i1,i2,i3,i4,i5]) (uc:=fZ 100000 100001 200002 200003 200004 200005) (u:=fZ i0 i1 i2 i3 i4 i5) (hc:=xb 100000 100001 200002 200003 200004 200005) (h:=xb i0 i1 i2 i3 i4 i5) hi h23 (by kernel_rfl) ⟨gG h2 (by kernel_rfl),gB h3,gB h4,bA h1⟩ ⟨(by kernel_rfl),jD h5 ⟨Yf h7 (by kernel_rfl),ei h8,gi h9 h10 (by kernel_rfl),gi h11 h12 (by kernel_rfl),gi h13 h14 (by kernel_rfl),bA h6⟩,(by kernel_rfl),jD h15 ⟨gi h17 h18 (by kernel_rfl),bA h16⟩,(by kernel_rfl),iw h19 (by kernel_rfl),(by kernel_rfl),iw h20 (by kernel_rfl),(by kernel_rfl),iw h21 (by kernel_rfl),(by kernel_rfl),iw h22 (by kernel_rfl),trivial⟩ ⟨.inr rfl,.inr rfl,.inl rfl,.inl rfl,.inl rfl,.inl rfl,trivial⟩ h24 (fun hj=>py hN x1 x2 y0_1 y0_2 y0_3 y0_4 y1_0 y2 y3 y4 y5 hz _ hj) (fun z=>⟨by kernel_rfl,by kernel_rfl,by kernel_rfl,by kernel_rfl⟩)
def lz(n0:Nat):∀m,ve ⟨n0,aK n0 m⟩
 |0=>KE n0
 |m+1=>oD ⟨n0,aK n0 m⟩ (lz n0 m)
def lr(N:Nat):List (TV EE.T)->List (Nat × TB EE.T)->XR EE.T:=gk ⟨N,aK N N⟩
def pC(N:Nat):XOk Try.prog EE 27 (lr N):=lz N N
set_option maxRecDepth 100000
abbrev bz:=Bool × (List (List UInt8))
def eS(N:Nat)(k12:Int->(List UInt8)->(List (List UInt8))->Int->Nat->(List UInt8)->Nat->Nat->Nat->(List Bool)->(List Int)->(List Int)->(List VSpot)->Option (PR bz))(n:Nat)(x1:Int)(x2:List UInt8)(x12:List (List UInt8))(x13:Int)(x14:List UInt8)(b16_0_n:Nat)(b42_1:List UInt8)(b42_2_n:Nat)(b42_3_n:Nat)(b42_4_n:Nat)(Zo:List Bool)(Zm:List Int)(Zn:List Int)(Zp:List VSpot):Option (PR bz):=
 (ie 16 x12 ([x14] :List (List UInt8))).bind fun z25=>
 k12 x1 x2 z25 (w64 (x13+1)) b16_0_n b42_1 b42_2_n b42_3_n b42_4_n Zo Zm Zn Zp
def cZ(N:Nat):Nat->Int->(List UInt8)->(List (List UInt8))->Int->Nat->(List UInt8)->Nat->Nat->Nat->(List Bool)->(List Int)->(List Int)->(List VSpot)->Option (PR bz)
 |0,_,_,_,_,_,_,_,_,_,_,_,_,_=>none
 |n+1,x1,x2,x12,x13,b16_0_n,b42_1,b42_2_n,b42_3_n,b42_4_n,Zo,Zm,Zn,Zp=>
  bif decide (x13<=x1) then
   (cf b42_3_n x13).bind fun z14=>
   (Zm[z14]?).bind fun z15=>
   bif decide (z15>=0) then
    (cf b42_4_n x13).bind fun z16=>
    (Zn[z16]?).bind fun z17=>
    (cf b42_3_n x13).bind fun z18=>
    (Zm[z18]?).bind fun z19=>
    bif decide (z17>=z19) then
     (cf b42_3_n x13).bind fun z20=>
     (Zm[z20]?).bind fun z21=>
     (cf b42_4_n x13).bind fun z22=>
     (Zn[z22]?).bind fun z23=>
     (mI x2 z21 z23).bind fun z24=>
     eS N (cZ N n) n x1 x2 x12 x13 z24 b16_0_n b42_1 b42_2_n b42_3_n b42_4_n Zo Zm Zn Zp
    else
     eS N (cZ N n) n x1 x2 x12 x13 ([] :List UInt8) b16_0_n b42_1 b42_2_n b42_3_n b42_4_n Zo Zm Zn Zp
   else
    eS N (cZ N n) n x1 x2 x12 x13 ([] :List UInt8) b16_0_n b42_1 b42_2_n b42_3_n b42_4_n Zo Zm Zn Zp
  else
   some (.ok (true,x12))
def fY(N:Nat):Nat->Int->(List UInt8)->Int->Int->Nat->(List UInt8)->Nat->Nat->Nat->(List Bool)->(List Int)->(List Int)->(List VSpot)->Option (PR bz)
 |0,_,_,_,_,_,_,_,_,_,_,_,_,_=>none
 |n+1,x1,x2,x9,x11,b16_0_n,b42_1,b42_2_n,b42_3_n,b42_4_n,Zo,Zm,Zn,Zp=>
  bif decide (x11<=x1) then
   (cf b42_3_n x11).bind fun z8=>
   (Zm[z8]?).bind fun z9=>
   (cf b42_4_n x11).bind fun z10=>
   (Zn[z10]?).bind fun z11=>
   fY N n x1 x2 x9 (w64 (x11+1)) b16_0_n b42_1 b42_2_n b42_3_n b42_4_n Zo (List.set Zm z8 (-1)) (List.set Zn z10 (-1)) Zp
  else
   (hY N x9 0 b42_1 b42_2_n b42_3_n b42_4_n b16_0_n Zo Zm Zn Zp).bind fun z12=>
   match z12 with
   |.pan vz12=>some (.pan vz12)
   |.ok z13=>
    bif !z13.1 then
     some (.ok (false,([] :List (List UInt8))))
    else
     cZ N n x1 x2 ([] :List (List UInt8)) 1 z13.2.2.2.2.2.1 z13.2.1 z13.2.2.1 z13.2.2.2.1 z13.2.2.2.2.1 z13.2.2.2.2.2.2.1 z13.2.2.2.2.2.2.2.1 z13.2.2.2.2.2.2.2.2.1 z13.2.2.2.2.2.2.2.2.2
def lD(N:Nat)(n:Nat)(x1:Int)(x2:List UInt8)(x9:Int)(b16_0_n:Nat)(b42_1:List UInt8)(b42_2_n:Nat)(b42_3_n:Nat)(b42_4_n:Nat)(Zo:List Bool)(Zm:List Int)(Zn:List Int)(Zp:List VSpot):Option (PR bz):=
 fY N n x1 x2 x9 0 b16_0_n b42_1 b42_2_n b42_3_n b42_4_n Zo Zm Zn Zp
def kj(N:Nat)(x0:List (List VPiece))(x1:Int)(x2:List UInt8):Option (PR bz):=
 (aA N ({ Kind:=0,A:=0,B:=0,Number:=0,Set:=([] :List Bool) }:VSpot) 0 ([] :List VSpot)).bind fun z1=>
 match z1 with
 |.pan vz1=>some (.pan vz1)
 |.ok z2=>
  (jF N x0 z2.1 z2.2.1 z2.2.2).bind fun z3=>
  match z3 with
  |.pan vz3=>some (.pan vz3)
  |.ok z4=>
   (o9 8 (w64 (x1+1)) (w64 (x1+1))).bind fun z5=>
   (o9 8 (w64 (x1+1)) (w64 (x1+1))).bind fun z6=>
   (o9 1 (w64 ((z4.2.1:Int) * (w64 ((x2.length:Int)+1)))) (w64 ((z4.2.1:Int) * (w64 ((x2.length:Int)+1))))).bind fun z7=>
   lD N N x1 x2 z4.1 z4.2.1 x2 ((List.replicate z7.1 false).length) ((List.replicate z6.1 (0:Int)).length) ((List.replicate z5.1 (0:Int)).length) (List.replicate z7.1 false) (List.replicate z6.1 (0:Int)) (List.replicate z5.1 (0:Int)) z4.2.2
set_option maxRecDepth 1000000
variable {MM:Nat}
section
variable {G:Nat->Option Nod} {tx:List UInt8}
def rK:∀ (f q i:Nat) {L:List Rte},W G tx f q i=some L->i<=tx.length->∀w∈L,∀p∈w,p.2<=tx.length
 |0,q,i,L,h=>by cases h
 |f+1,q,i,L,h=>by
  intro hi w hw p hp;rw[W] at h;cases hg:G q with
  |none=>rw[hg] at h;cases h
  |some s=>
   rw[hg] at h;cases s with
   |fin=>
    cases h;by_cases e:i=tx.length
    ·rw[ZI e] at hw;rw[aaJ] at hw;subst hw;cases hp
    ·rw[ZH e] at hw;cases hw
   |tk S nx=>
    dsimp only at h;cases hc:tx[i]? with
    |none=>rw[hc] at h;cases h;cases hw
    |some c=>
     rw[hc] at h;dsimp only at h;by_cases hS:inS S c=true
     ·rw[ZI hS] at h;exact rK f nx (i+1) h (ZD.1 hc).1 w hw p hp
     ·rw[ZH hS] at h;cases h;cases hw
   |fk a b=>
    dsimp only at h;obtain⟨A,ha,h⟩:=aaz.1 h;obtain⟨B,hb,rfl⟩:=Z4.1 h;rcases aaf.1 hw with hw|hw
    ·exact rK f a i ha hi w hw p hp
    ·exact rK f b i hb hi w hw p hp
   |sv n nx=>
    dsimp only at h;obtain⟨A,ha,rfl⟩:=Z4.1 h;obtain⟨w',hw',rfl⟩:=ZW.1 hw;rcases ZY.1 hp with rfl|hp
    ·exact hi
    ·exact rK f nx i ha hi w' hw' p hp
   |jp nx=>exact rK f nx i h hi w hw p hp
end
def SlR(sl fr to:List Int):Prop:=∀n,fr[n]? =sl[2 * n]? /\to[n]? =sl[2 * n+1]?
def oQ{l:List Int}{m n:Nat}{v:Int}:(l.set m v)[n]? =if m=n then l[n]?.map fun _=>v else l[n]? :=by
 by_cases e:m=n
 ·subst e;rw[ZI rfl];by_cases h:m < l.length
  ·rw[aat h,ZE h];rfl
  ·rw[aak.2 (by simp;omega),aak.2 (by omega)];rfl
 ·rw[ZH e,aaB e]
def ID:∀ (w:Rte) {sl fr to:List Int},SlR sl fr to->SlR (lj sl w) (rZ fr w) (r9 to w)
 | [],sl,fr,to,h=>h
 | (a,b)::r,sl,fr,to,h=>by
   show SlR (lj (sl.set a (b:Int)) r) (rZ (if a % 2=0 then fr.set (a / 2) (b:Int) else fr) r) (r9 (if a % 2=0 then to else to.set (a / 2) (b:Int)) r);refine ID r fun n=> ?_;obtain⟨h1,h2⟩:=h n;by_cases e:a % 2=0
   ·rw[ZI e,ZI e,oQ,oQ,oQ,ZH (show ¬a=2 * n+1 by omega)];refine⟨?_,h2⟩;by_cases e2:a=2 * n
    ·rw[ZI (by omega),ZI e2,h1]
    ·rw[ZH (by omega),ZH e2,h1]
   ·rw[ZH e,ZH e,oQ,oQ,oQ,ZH (show ¬a=2 * n by omega)];refine⟨h1,?_⟩;by_cases e2:a=2 * n+1
    ·rw[ZI (by omega),ZI e2,h2]
    ·rw[ZH (by omega),ZH e2,h2]
def IY{G len:Nat}:∀ (w:Rte) {sl:List Int},vH G len sl->(∀p∈w,p.2<=len)->vH G len (lj sl w)
 | [],sl,h,hw=>h
 | (a,b)::r,sl,h,hw=>by have:=hw (a,b) ZP;exact IY r (h.set a (by omega) (by show(b:Int)<=len;omega)) fun p hp=>hw p (ZM _ hp)
def EX{G:Nat}(hG:G<=9){tx:List UInt8}(htx:tx.length<=2000){sl fr to:List Int}(hsl:vH G tx.length sl)(hR:SlR sl fr to)(hf:fr.length=G+1)(ht:to.length=G+1)(nsp nb:Nat)(bad:List Bool)(sp:List VSpot):∀ (d n k:Nat),k+d=G->d+1<=n->cZ (MM+3000) n (G:Int) tx ((List.range k).map (sT tx sl)) ((k+1:Nat):Int) nsp tx nb fr.length to.length bad fr to sp=some (.ok (true,(List.range G).map (sT tx sl)))
 |d,0,k,h1,h2=>by omega
 |0,n+1,k,h1,h2=>by
  have:k=G:=by omega
  subst this;rw[cZ,Z1 (by omega),ZF]
 |d+1,n+1,k,h1,h2=>by
  have hl:=hsl.1;obtain⟨r1,r2⟩:=hR (k+1);have hfk:k+1 < fr.length:=by omega
  have htk:k+1 < to.length:=by omega
  have g1:=ZE hfk;have g2:=ZE htk;have b2:to[k+1] <=(tx.length:Int):=(hsl.2 _ (List.mem_iff_getElem?.2 ⟨2 * (k+1)+1,by rw[<- r2,g2]⟩)).2;rw[g1] at r1;rw[g2] at r2;generalize fr[k+1] =v1 at g1 r1;generalize to[k+1] =v2 at g2 r2 b2;have hg:sT tx sl k=DL tx v1 v2:=by unfold sT;rw[Z5,Z5,<- r1,<- r2];rfl
  have r17:∀s,s=DL tx v1 v2->eS (MM+3000) (cZ (MM+3000) n) n (G:Int) tx ((List.range k).map (sT tx sl)) ((k+1:Nat):Int) s nsp tx nb fr.length to.length bad fr to sp=some (.ok (true,(List.range G).map (sT tx sl))):=fun s hs=>by
   unfold eS;rw[UT (by simp;omega),ZC,f9 (by omega),hs,<- hg];have:=EX hG htx hsl hR hf ht nsp nb bad sp d n (k+1) (by omega) (by omega);rw[List.range_succ,aah] at this;exact this
  rw[cZ,Z0 (by omega),ZG,dT hfk,ZC,g1,ZC];by_cases h0:v1>=0
  ·rw[Z0 h0,ZG,dT htk,ZC,g2,ZC,ZC,g1,ZC];by_cases h5:v2>=v1
   ·rw[Z0 h5,ZG,ZC,g1,ZC,ZC,g2,ZC,OW h0 h5 b2,ZC];exact r17 _ rfl
   ·rw[Z1 h5,ZF];exact r17 _ (xq (by omega)).symm
  ·rw[Z1 h0,ZF];exact r17 _ (xq (by omega)).symm
def JR{G:Nat}(i:Nat){l:List Int}(hl:l.length=G+1)(h:∀m,m < i->l[m]? =some (-1)):∀m,m < i+1->i < G+1->(l.set i (-1))[m]? =some (-1):=fun m hm hi=>by
 rw[oQ];by_cases e:i=m
 ·subst e;rw[ZI rfl,ZE (by omega)];rfl
 ·rw[ZH e];exact h m (by omega)
def IS{G:Nat}{l:List Int}(hl:l.length=G+1)(h:∀m,m < G+1->l[m]? =some (-1)):l=List.replicate (G+1) (-1):=by
 apply aa9;intro m;by_cases e:m < G+1
 ·rw[h m e,aaU,ZI e]
 ·rw[aak.2 (by omega),aak.2 (by simp;omega)]
def Vb{G:Nat}(hG:G<=9){tx:List UInt8}(b:Int)(nsp:Nat)(bad:List Bool)(sp:List VSpot):∀ (d n i:Nat) (fr to:List Int),i+d=G+1->d+1<=n->fr.length=G+1->to.length=G+1->(∀m,m < i->fr[m]? =some (-1))->(∀m,m < i->to[m]? =some (-1))->
  ∃n',fY (MM+3000) n (G:Int) tx b (i:Int) nsp tx bad.length (G+1) (G+1) bad fr to sp=((hY (MM+3000) b 0 tx bad.length (G+1) (G+1) nsp bad (List.replicate (G+1) (-1)) (List.replicate (G+1) (-1)) sp).bind fun z12=>
   match z12 with
   |.pan vz12=>some (.pan vz12)
   |.ok z13=>
    bif !z13.1 then
     some (.ok (false,([] :List (List UInt8))))
    else
     cZ (MM+3000) n' (G:Int) tx ([] :List (List UInt8)) 1 z13.2.2.2.2.2.1 z13.2.1 z13.2.2.1 z13.2.2.2.1 z13.2.2.2.2.1 z13.2.2.2.2.2.2.1 z13.2.2.2.2.2.2.2.1 z13.2.2.2.2.2.2.2.2.1 z13.2.2.2.2.2.2.2.2.2)/\n'+d+1=n
 |d,0,i,fr,to,h1,h2,h3,h4,h5,h6=>by omega
 |0,n+1,i,fr,to,h1,h2,h3,h4,h5,h6=>by
  have:i=G+1:=by omega
  subst this;have:=IS h3 h5;have:=IS h4 h6;subst fr to;refine⟨n,?_,rfl⟩;rw[fY,Z1 (by omega),ZF];all_goals rfl
 |d+1,n+1,i,fr,to,h1,h2,h3,h4,h5,h6=>by
  have hi:i < G+1:=by omega
  obtain⟨n',e,hn⟩:=Vb hG (tx:=tx) b nsp bad sp d n (i+1) (fr.set i (-1)) (to.set i (-1)) (by omega) (by omega) (by simpa using h3) (by simpa using h4) (fun m hm=>JR i h3 h5 m hm hi) (fun m hm=>JR i h4 h6 m hm hi);refine⟨n',?_,by omega⟩;rw[fY,Z0 (by omega),ZG,dT hi,ZC,ZE (by omega),ZC,ZC,ZE (by omega),ZC,f9 (by omega)];exact e
def R8(G:Nat)(tx:List UInt8):Option (List Int)->Bool × List (List UInt8)
 |none=>(false,[])
 |some sl=>(true,(List.range G).map (sT tx sl))
section
variable {sp:List VSpot} {tx:List UInt8} {G:Nat}
def H5(tx:List UInt8)(a:Nat × Nat):Nat:=a.1 * (tx.length+1)+a.2
def uD(sp:List VSpot)(tx:List UInt8)(A:List (Nat × Nat)):Nat:=((List.range (sp.length * (tx.length+1))).filter fun s=> !A.any fun a=>H5 tx a==s).length
def TM{A:List (Nat × Nat)}{q i:Nat}(hq:q < sp.length)(hi:i<=tx.length)(h:∀a∈A,H5 tx a≠H5 tx (q,i)):uD sp tx ((q,i)::A) < uD sp tx A:=by
 unfold uD;refine ny (a:=H5 tx (q,i)) _ (fun s hs h1=> ?_) (aaF.2 (Ec hq hi)) (by simp) ?_
 ·rw[List.any_cons] at h1;cases hA:A.any fun a=>H5 tx a==s with
  |true=>rw[hA,Bool.or_true] at h1;cases h1
  |false=>rfl
 ·have:(A.any fun a=>H5 tx a==H5 tx (q,i))=false:=by
   rw[List.any_eq_false];intro a ha;simp[h a ha]
  rw[this];rfl
def N3(hS:∀ (q:Nat) (s:VSpot),sp[q]? =some s->SpOk sp.length G s):∀ (c q i f:Nat) (L:List Rte) (A:List (Nat × Nat)),q < sp.length->i<=tx.length->W (gr sp) tx f q i=some L->(∀a∈A,a.2<=tx.length/\W (gr sp) tx f a.1 a.2=none)->uD sp tx A < c->W (gr sp) tx c q i=some L
 |0,q,i,f,L,A,h1,h2,h3,h4,h5=>by omega
 |c+1,q,i,f,L,A,h1,h2,h3,h4,h5=>by
  have hs:=ZE h1;have hok:=hS q _ hs;generalize sp[q] =s at hs hok;obtain⟨f1,hf1,hno,hyes⟩:=Ky h3;have hlt:uD sp tx ((q,i)::A) < uD sp tx A:=TM h1 h2 fun a ha e=>by obtain⟨k1,k2⟩:=h4 a ha;obtain⟨e1,e2⟩:=Dw k1 h2 e;rw[e1,e2,h3] at k2;cases k2
  have hA:∀a∈(q,i)::A,a.2<=tx.length/\W (gr sp) tx f1 a.1 a.2=none:=fun a ha=>by
   rcases ZY.1 ha with rfl|ha
   ·exact⟨h2,hno⟩
   ·exact⟨(h4 a ha).1,VF (h4 a ha).2 (by omega)⟩
  have ih:∀q' i' L',q' < sp.length->i'<=tx.length->W (gr sp) tx f1 q' i'=some L'->W (gr sp) tx c q' i'=some L':=fun q' i' L' k1 k2 k3=>N3 hS c q' i' f1 L' _ k1 k2 k3 hA (by omega);rw[W] at hyes ⊢;cases hok with
  |fin=>rw[HS hs] at hyes ⊢;exact hyes
  | @tk S a g1 g2=>
    rw[Mp hs] at hyes ⊢;dsimp only at hyes ⊢;cases hc:tx[i]? with
    |none=>rw[hc] at hyes;exact hyes
    |some x=>
     rw[hc] at hyes;dsimp only at hyes ⊢;by_cases hi:inS S x=true
     ·rw[ZI hi] at hyes ⊢;exact ih a (i+1) L g2 (ZD.1 hc).1 hyes
     ·rw[ZH hi] at hyes ⊢;exact hyes
  | @fk a b g1 g2=>rw[Fh hs] at hyes ⊢;dsimp only at hyes ⊢;obtain⟨LA,ha,hyes⟩:=aaz.1 hyes;obtain⟨LB,hb,hyes⟩:=Z4.1 hyes;rw[ih a i LA g1 h2 ha,ZC,ih b i LB g2 h2 hb,aa8,hyes]
  | @bg n a g1 g2=>rw[Rt hs] at hyes ⊢;dsimp only at hyes ⊢;obtain⟨LA,ha,hyes⟩:=Z4.1 hyes;rw[ih a i LA g2 h2 ha,aa8,hyes]
  | @en n a g1 g2=>rw[PM hs] at hyes ⊢;dsimp only at hyes ⊢;obtain⟨LA,ha,hyes⟩:=Z4.1 hyes;rw[ih a i LA g2 h2 ha,aa8,hyes]
end
def Vq{by_:Nat}{n:Nat}(h1:by_<=8)(h2:n<=10000000):o9 by_ (n:Int) (n:Int)=some (n,n):=by unfold o9;have h3:by_ * n<=8 * 10000000:=Nat.mul_le_mul h1 h2;rw[ZI ⟨by omega,Int.le_refl _,by rw[show(by_:Int) * (n:Int)=((by_ * n:Nat):Int) by simp];omega,by omega⟩,abN]
def Qj{x:Nd}{G:Nat}(hf:x.fm.2.2)(hok:x.Ok G)(hl:x.len<=190)(hG:G<=9){tx:List UInt8}(htx:tx.length<=2000)(hMM:400000<=MM):kj (MM+3000) x.vv.2 (G:Int) tx=some (.ok (R8 G tx ((x.ways tx).head?.map (lj (List.replicate (2 * G+2) (-1)))))):=by
 obtain⟨sp,b,e,hP⟩:=N7 (MM:=MM) (G:=G) (MM+3000) x (by omega) hf hok 0 [G7] (by simp) (by simp;omega);have hsz:=hP.sz;simp only[List.length_singleton] at hsz;have hfin:sp[0]? =some G7:=by rw[hP.keep 0 (by simp)];rfl
 have hS:∀ (q:Nat) (s:VSpot),sp[q]? =some s->SpOk sp.length G s:=fun q s h=>by
  by_cases e0:q=0
  ·subst e0;rw[hfin] at h;cases h;exact .fin
  ·exact hP.ok q s (by simp;omega) h
 obtain⟨f0,hW0⟩:WW (gr sp) tx b 0 (x.ways tx):=hP.den sp (fun q _ _=>rfl) tx _ 0 (aad _) fun j _ _=>O1 (HS hfin);have hmul:sp.length * (tx.length+1)<=191 * 2001:=Nat.mul_le_mul (by omega) (by omega);have hleft:uD sp tx [] < MM+3000:=by
  have:uD sp tx [] <=sp.length * (tx.length+1):=by unfold uD;exact aaM (aaH _ _) (by simp)
  omega
 have hW:=N3 hS (MM+3000) b 0 f0 _ [] hP.lt (aad _) hW0 (fun a ha=>by cases ha) hleft;have hB:BadI sp tx [] (List.replicate (sp.length * (tx.length+1)) false):=⟨by simp,fun q i h1 h2 h3=>by rw[aaU] at h3;split at h3<;> cases h3⟩
 obtain⟨bad',ew,hB'⟩:=rO hS (by omega) htx hG (MM+3000) (MM+3000) b 0 (MM+3000) _ [] _ (List.replicate (G+1) (-1)) (List.replicate (G+1) (-1)) (ZN _) hP.lt (aad _) hW (fun a ha=>by cases ha) hB (by simp) (by simp);have hp:=F3 (MM+3000) G7 [] (by simp);unfold kj
 have hp':aA (MM+3000) ({ Kind:=0,A:=0,B:=0,Number:=0,Set:=([] :List Bool) }:VSpot) 0 ([] :List VSpot)=some (.ok (((0:Nat):Int),1,[G7])):=hp;rw[hp',ZC];have e':jF (MM+3000) x.vv.2 ((0:Nat):Int) 1 [G7] =some (.ok ((b:Int),sp.length,sp)):=e;dsimp only;rw[e',ZC];dsimp only;have m1:w64 ((G:Int)+1)=((G+1:Nat):Int):=f9 (by omega)
 have m2:w64 ((sp.length:Int) * (w64 ((tx.length:Int)+1)))=((sp.length * (tx.length+1):Nat):Int):=by
  have e1:w64 ((tx.length:Int)+1)=((tx.length+1:Nat):Int):=f9 (by omega);have e2:(sp.length:Int) * ((tx.length+1:Nat):Int)=((sp.length * (tx.length+1):Nat):Int):=by simp
  rw[e1,e2];generalize sp.length * (tx.length+1)=z at *;exact kX (by omega) (by omega)
 rw[m1,m2,Vq (by omega) (by omega),ZC,ZC,Vq (by omega) (by omega),ZC];unfold lD;dsimp only
 obtain⟨n',el,hn⟩:=Vb (MM:=MM) hG (tx:=tx) (b:Int) sp.length (List.replicate (sp.length * (tx.length+1)) false) sp (G+1) (MM+3000) 0 (List.replicate (G+1) (0:Int)) (List.replicate (G+1) (0:Int)) (by omega) (by omega) (by simp) (by simp) (fun m h=>by omega) (fun m h=>by omega)
 have hz:(List.replicate (G+1) (0:Int)).length=G+1:=by simp
 rw[hz];refine abj el ?_
 have ew':hY (MM+3000) (b:Int) 0 tx (List.replicate (sp.length * (tx.length+1)) false).length (G+1) (G+1) sp.length (List.replicate (sp.length * (tx.length+1)) false) (List.replicate (G+1) (-1)) (List.replicate (G+1) (-1)) sp=sf tx sp bad' (List.replicate (G+1) (-1)) (List.replicate (G+1) (-1)) (x.ways tx):=by
  rw[aa4 (n:=G+1)] at ew;exact ew
 rw[ew'];unfold sf;rw[ZC];dsimp only;cases hx:x.ways tx with
 |nil=>rfl
 |cons w r=>
  rw[show nB (w::r)=true from rfl,aaE,ZF];have hsl0:vH G tx.length (List.replicate (2 * G+2) (-1)):=⟨by simp,fun v hv=>by rw[(aby.1 hv).2];omega⟩
  have hpl:=rK (MM+3000) b 0 hW (aad _) w (by rw[hx];exact ZP);have hsl:=IY w hsl0 hpl;have hR0:SlR (List.replicate (2 * G+2) (-1)) (List.replicate (G+1) (-1)) (List.replicate (G+1) (-1)):=fun n=>by
   rw[aaU,aaU,aaU];constructor
   ·by_cases h:n < G+1
    ·rw[ZI h,ZI (by omega)]
    ·rw[ZH h,ZH (by omega)]
   ·by_cases h:n < G+1
    ·rw[ZI h,ZI (by omega)]
    ·rw[ZH h,ZH (by omega)]
  have hR:=ID w hR0;have lf:(rZ (List.replicate (G+1) (-1)) w).length=G+1:=by rw[Np];simp
  have lt:(r9 (List.replicate (G+1) (-1)) w).length=G+1:=by rw[QQ];simp
  have:=EX (MM:=MM) hG htx hsl hR lf lt sp.length bad'.length bad' sp G n' 0 (by omega) (by omega);rw[lf,lt] at this;rw[aa4 (n:=G+1)];exact this
def MA(N:Nat)(x:List (List UInt8))(hx:x.length<=1000):∀ (d n i:Nat),i+d=x.length->d+1<=n->dZ N n x x (i:Int)=some true
 |d,0,i,h1,h2=>by omega
 |0,n+1,i,h1,h2=>by rw[dZ,Z1 (by omega),ZF]
 |d+1,n+1,i,h1,h2=>by rw[dZ,Z0 (by omega),ZG,ri (ZE (by omega)),ZC,ZC,Z0 rfl,aaE,ZF,f9 (by omega)];exact MA N x hx d n (i+1) (by omega) (by omega)
def Sc(x:List (List UInt8))(hx:x.length<=1000):eP (MM+3000) x x=some true:=by unfold eP;rw[show(((x.length:Int)) != (x.length:Int))=false by simp,ZF];exact MA _ x hx x.length (MM+3000) 0 (by omega) (by omega)
def RN{m:List UInt8}{x:Nd}{g:Nat}(h:rdM m=.ok (x,g))(tx:List UInt8):x.Ok g/\x.fm.2.2/\x.len<=190/\g<=9/\fO (MM+3000) m tx=if 2000 < tx.length then some (false,[],2) else some ((R8 g tx ((x.ways tx).head?.map (lj (List.replicate (2 * g+2) (-1))))).1,(R8 g tx ((x.ways tx).head?.map (lj (List.replicate (2 * g+2) (-1))))).2,0):=by
 have h':=h;unfold rdM at h';split at h'
 ·cases h'
 ·rename_i hm;split at h'
  ·cases h'
  ·rename_i x' j g' hp;split at h'
   ·cases h'
   ·cases h';have hk:=fV 400 0 0 0 hp (aad _) (by omega);have hg:=ob 400 0 0 0 hp (aad _) (by omega);have hM:=x.mok hg (by omega) hk.2.2.2.2.1;refine⟨hg,(kV 400 0 0 0 hp).1 rfl,by omega,hk.2.2.2.2.1,?_⟩;unfold fO;rw[E6,h];dsimp only;by_cases ht:2000 < tx.length
    ·rw[ZI ht,ZI ht]
    ·rw[ZH ht,ZH ht];obtain⟨f,hW⟩:=x.den_all (tx:=tx) hg;rw[Yg hM (by simp) (by omega) hW];cases (x.ways tx).head?.map (lj (List.replicate (2 * g+2) (-1)))<;> rfl
set_option maxRecDepth 1000000
variable {MM:Nat}
def rdr(m:List UInt8)(i:Nat)(g:Int)(F:VFault):VReader:=⟨m,(i:Int),g,F⟩
def f0:VFault:=⟨0,0⟩
def ris(N:Nat)(c:UInt8)(m:List UInt8)(i:Nat)(g:Int)(F:VFault):aX N c (rdr m i g F)=some (bQ m c i,rdr m i g F):=by
 unfold aX bQ;show(bif decide ((i:Int) < (m.length:Int)) then(ci m (i:Int)).bind _ else _)=_;cases h:m[i]? with
 |none=>have hl:=aak.1 h;rw[Z1 (by omega),ZF]
 |some b=>have hl:=(ZD.1 h).1;rw[Z0 (by omega),ZG,ixn,h,ZC]
def sM(N:Nat)(c:UInt8)(m:List UInt8){i:Nat}(hi:i<=1000000)(g:Int)(F:VFault):aw N c (rdr m i g F)=some (bQ m c i,rdr m (kI (bQ m c i) i) g F):=by
 unfold aw;rw[ris,ZC];dsimp only;cases bQ m c i with
 |false=>rfl
 |true=>rw[ZG];show some (true,(⟨m,w64 ((i:Int)+1),g,F⟩:VReader))=_;rw[f9 (by omega)];rfl
def li(N:Nat)(e a:Int)(m:List UInt8)(i:Nat)(g:Int):ai N e a (rdr m i g f0)=some (rdr m i g ⟨e,a⟩):=rfl
def J6(N:Nat)(m:List UInt8)(i:Nat)(g:Int)(F:VFault)(s:List UInt8)(hs:s.length<=1000):∀ (c n k:Nat),k+c=s.length->c+1<=n->cP N n s (k:Int) (rdr m i g F)=some ((s.drop k).any (fun x=>bQ m x i),rdr m i g F)
 |c,0,k,h1,h2=>by omega
 |0,n+1,k,h1,h2=>by rw[cP,Z1 (by omega),ZF,aaO (by omega)];rfl
 |c+1,n+1,k,h1,h2=>by
  have hk:k < s.length:=by omega
  rw[cP,Z0 (by omega),ZG,ixn,ZE hk,ZC,ris,ZC,aaw hk,List.any_cons];dsimp only;cases bQ m s[k] i with
  |true=>rfl
  |false=>rw[ZF,f9 (by omega),abq];exact J6 N m i g F s hs c n (k+1) (by omega) (by omega)
def ya(m:List UInt8)(i:Nat)(g:Int)(F:VFault)(s:List UInt8)(hs:s.length<=1000):a8 (MM+3000) s (rdr m i g F)=some (s.any (fun x=>bQ m x i),rdr m i g F):=
 J6 (MM+3000) m i g F s hs s.length (MM+3000) 0 (by omega) (by omega)
def ze(a b:UInt8):(b2i a==b2i b)=(a==b):=by
 rw[jO,jO,Bool.eq_iff_iff,aaR,aaR];constructor
 ·intro h;exact UInt8.toNat_inj.1 (by omega)
 ·rintro rfl;rfl
def yR{m:List UInt8}{i:Nat}{c:UInt8}(h:m[i]? =some c)(s:List UInt8):s.any (fun x=>bQ m x i)=s.contains c:=by
 rw[List.contains_eq_any_beq]
 congr 1
 funext x
 unfold bQ;rw[h];exact ze c x
def Qr(N:Nat)(c:UInt8):gY N c=some (qS c):=by
 have h1:gY N c=(cf 256 (b2i c)).bind fun z1=>(ja (List.replicate 256 false) (0+z1) true).bind fun z2=>(wJ 256 256 z2).bind fun z3=>some z3:=by kernel_rfl
 have hc:=c.toNat_lt;have e1:cf 256 (b2i c)=some c.toNat:=by unfold cf;rw[jO,ZI (by omega)];simp
 have e2:ja (List.replicate 256 false) (0+c.toNat) true=some (qS c):=by unfold ja;rw[Z6,ZI (by simp;omega)];rfl
 have e3:wJ 256 256 (qS c)=some (qS c):=by unfold wJ;rw[ZI ⟨(uT c).symm,by omega⟩]
 rw[h1,e1,ZC,e2,ZC,e3,ZC]
def Wv(x:UInt8):Bool:=match gU 0 x,ej 0 x with
 |some L,some M=>(bif L then(bif b2i x != b2i 95 then true else M) else M)==ti x
 |_,_=>false
def Om:(List.range 256).all (fun n=>Wv (UInt8.ofNat n))=true:=by kernel_rfl
def SZ(x:UInt8):Wv x=true:=by
 have h:=ZL.1 Om x.toNat (aaF.2 x.toNat_lt)
 rwa [UInt8.ofNat_toNat] at h
def Xe(x:UInt8):∃L M,(∀N,gU N x=some L)/\(∀N,ej N x=some M)/\(bif L then(bif b2i x != b2i 95 then true else M) else M)=ti x:=by
 have h:=SZ x;unfold Wv at h;split at h
 ·rename_i L M hL hM;exact⟨L,M,fun N=>hL,fun N=>hM,by simpa using h⟩
 ·cases h
def rU{α:Type}(m:List UInt8)(q:Int × Int)(r:Option (PR (α × VReader))):Prop:=∃ (p:α) (j:Nat) (g:Int),j<=m.length/\r=some (.ok (p,rdr m j g ⟨q.1,q.2⟩))
def KS(S:List Bool):VPiece:=VPiece.mk false S 0 [] 0
def lm(m:List UInt8)(g:Int)(r:Option (PR (VPiece × VReader))):Except (Int × Int) (List Bool × Nat)->Prop
 |.error q=>rU m q r
 |.ok (S,j)=>r=some (.ok (KS S,rdr m j g f0))
def Za(k)(b:VReader):dQ ⟨(MM+3000),k⟩ (MM+3000) 256 256 0 false [] 0 [] 0 (List.replicate 256 false) b=some (.ok (KS (List.replicate 256 true),b)):=by kernel_rfl
def Ir(NR:RecC3){k19}(x6:Bool)(hi:Nat)(h256:hi < 256)(b:VReader):∀ (c n x:Nat) (S:List Bool),S.length=256->x+c=hi+1->c+1<=n->b9 NR k19 n x6 256 256 (hi:Int) (x:Int) false [] 0 [] 0 S b=k19 x6 256 256 false false [] 0 [] 0 (mt S x c) b
 |c,0,x,S,h1,h2,h3=>by omega
 |0,n+1,x,S,h1,h2,h3=>by rw[b9,Z1 (by omega),ZF];rfl
 |c+1,n+1,x,S,h1,h2,h3=>by
  have e1:cf 256 (x:Int)=some x:=by unfold cf;rw[ZI (by omega)];simp
  have e2:ja S (0+x) true=some (S.set x true):=by unfold ja;rw[Z6,ZI (by omega)]
  rw[b9,Z0 (by omega),ZG,e1,ZC,e2,ZC,f9 (by omega),Ir NR x6 hi h256 b c n (x+1) _ (by simpa using h1) (by omega) (by omega)];rfl
def U0(NR:RecC3)(x6:Bool)(b:VReader)(S0:List Bool)(h0:S0.length=256):∀ (c n i:Nat) (S:List Bool),i+c=256->c+1<=n->S=(S0.take i).map (fun v=> !(v==x6))++S0.drop i->cx NR n x6 256 256 (i:Int) false [] 0 [] 0 S b=some (.ok (KS (S0.map fun v=> !(v==x6)),b))
 |c,0,i,S,h1,h2,h3=>by omega
 |0,n+1,i,S,h1,h2,h3=>by
  have hi:i=256:=by omega
  subst hi;have hS:S=S0.map fun v=> !(v==x6):=by rw[h3,aan (by omega),aaO (by omega),aax]
  rw[cx,Z1 (by omega),ZF];unfold wJ;rw[hS,ZI (by simp[h0]),ZC];rfl
 |c+1,n+1,i,S,h1,h2,h3=>by
  have hi:i < S0.length:=by omega
  have hl:S.length=256:=by rw[h3];simp;omega
  have e1:cf 256 (i:Int)=some i:=by unfold cf;rw[ZI (by omega)];simp
  have e2:S[0+i]? =some S0[i] :=by
   have e0:((S0.take i).map fun v=> !(v==x6)).length=i:=by rw[Z3,aa2];omega
   rw[h3,Z6,ZJ (by omega),e0,aau,aaq,aa6,ZE hi]
  have e3:ja S (0+i) (!(S0[i] ==x6))=some (S.set i (!(S0[i] ==x6))):=by unfold ja;rw[Z6,ZI (by omega)]
  rw[cx,Z0 (by omega),ZG,e1,ZC,e2,ZC,ZC,e3,ZC,f9 (by omega)];refine U0 NR x6 b S0 h0 c n (i+1) _ (by omega) (by omega) ?_;have e0:((S0.take i).map fun v=> !(v==x6)).length=i:=by rw[Z3,aa2];omega
  rw[h3,List.set_append_right _ _ (by omega),e0,aau,aaw hi,abL,List.take_add_one,ZE hi];show _=((S0.take i++ [S0[i]]).map _)++_;rw[aah,aac];rfl
def Oy{m:List UInt8}(hm:m.length<=60)(k)(x6:Bool)(g:Int):∀ (f n:Nat) (first:Bool) (i:Nat) (S:List Bool),i<=m.length->m.length+1<=f+i->f+400<=n->S.length=256->lm m g (bl ⟨(MM+3000),k⟩ n x6 256 256 first false [] 0 [] 0 S (rdr m i g f0)) (match sb m f first i S with
  |.error q=>.error q
  |.ok (T,j)=>.ok (T.map fun v=> !(v==x6),j))
 |0,n,first,i,S,h1,h2,h3,h4=>by omega
 |f+1,n,first,i,S,h1,h2,h3,h4=>by
  obtain⟨n,rfl⟩:∃k,n=k+1:=⟨n - 1,by omega⟩
  have hR:lm m g (di ⟨(MM+3000),k⟩ (bl ⟨(MM+3000),k⟩ n) n x6 256 256 false [] 0 [] 0 S (rdr m i g f0)) (match(match iR m i with
    |.error q=>.error q
    |.ok (a,i1)=>bif bQ m 45 i1 then
      match iR m (i1+1) with
      |.error q=>.error q
      |.ok (b,i3)=>bif decide ((b2i b) < (b2i a)) then .error (3,((i1+1:Nat):Int)) else sb m f false i3 (mt S a.toNat (b.toNat+1 - a.toNat))
     else sb m f false i1 (mt S a.toNat 1):Except (Int × Int) (List Bool × Nat)) with
    |.error q=>.error q
    |.ok (T,j)=>.ok (T.map fun v=> !(v==x6),j)):=by
   unfold di;show lm m g (bif (i:Int)==(m.length:Int) then _ else _) _;rw[show iR m i=(match m[i]? with
    |none=>.error (1,(i:Int))
    |some b=>bif ([91,93,92,94,45] :List UInt8).contains b then .error (1,(i:Int)) else .ok (b,i+1)) from rfl]
   cases ha:m[i]? with
   |none=>have hl:=aak.1 ha;rw[aaR.2 (by omega),ZG];show rU m _ ((ai (MM+3000) 1 (i:Int) (rdr m i g f0)).bind _);rw[li,ZC];exact⟨_,i,g,h1,rfl⟩
   |some a=>
    have hl:=(ZD.1 ha).1;have hab:=a.toNat_lt;rw[Z9.2 (by omega),ZF];show lm m g ((a8 (MM+3000) ([91,93,92,94,45] :List UInt8) (rdr m i g f0)).bind _) _;rw[ya _ _ _ _ _ (by decide),ZC,yR ha];dsimp only;cases ([91,93,92,94,45] :List UInt8).contains a with
    |true=>rw[ZG,ZG];show rU m _ ((ai (MM+3000) 1 (i:Int) (rdr m i g f0)).bind _);rw[li,ZC];exact⟨_,i,g,h1,rfl⟩
    |false=>
     rw[ZF,ZF];show lm m g ((ci m (i:Int)).bind fun z37=>(aw (MM+3000) 45 (⟨m,w64 ((i:Int)+1),g,f0⟩:VReader)).bind _) _;rw[ixn,ha,ZC,f9 (by omega)];show lm m g ((aw (MM+3000) 45 (rdr m (i+1) g f0)).bind _) _;rw[sM _ _ _ (by omega),ZC];dsimp only;cases hd:bQ m 45 (i+1) with
     |false=>rw[ZF,ZF];show lm m g (b9 ⟨(MM+3000),k⟩ (bl ⟨(MM+3000),k⟩ n) n x6 256 256 (w64 (b2i a)) (w64 (b2i a)) false [] 0 [] 0 S (rdr m (i+1) g f0)) _;rw[jO,kX (by omega) (by omega),Ir _ x6 a.toNat hab _ 1 n a.toNat S h4 rfl (by omega)];exact Oy hm k x6 g f n false (i+1) _ (by omega) (by omega) (by omega) (by rw[jj];exact h4)
     |true=>
      have hl1:=ee hd;rw[ZG,ZG];show lm m g (bif ((i+1+1:Nat):Int)==(m.length:Int) then _ else _) _;rw[show iR m (i+1+1)=(match m[i+1+1]? with
       |none=>.error (1,((i+1+1:Nat):Int))
       |some b=>bif ([91,93,92,94,45] :List UInt8).contains b then .error (1,((i+1+1:Nat):Int)) else .ok (b,i+1+1+1)) from rfl]
      cases hb:m[i+1+1]? with
      |none=>have hl:=aak.1 hb;rw[aaR.2 (by omega),ZG];show rU m _ ((ai (MM+3000) 1 ((i+1+1:Nat):Int) (rdr m (i+1+1) g f0)).bind _);rw[li,ZC];exact⟨_,i+1+1,g,by omega,rfl⟩
      |some b=>
       have hl:=(ZD.1 hb).1;have hbb:=b.toNat_lt;rw[Z9.2 (by omega),ZF];show lm m g ((a8 (MM+3000) ([91,93,92,94,45] :List UInt8) (rdr m (i+1+1) g f0)).bind _) _;rw[ya _ _ _ _ _ (by decide),ZC,yR hb];dsimp only;cases ([91,93,92,94,45] :List UInt8).contains b with
       |true=>rw[ZG,ZG];show rU m _ ((ai (MM+3000) 1 ((i+1+1:Nat):Int) (rdr m (i+1+1) g f0)).bind _);rw[li,ZC];exact⟨_,i+1+1,g,by omega,rfl⟩
       |false=>
        rw[ZF,ZF];show lm m g ((ci m ((i+1+1:Nat):Int)).bind _) _;rw[ixn,hb,ZC];dsimp only;rw[jO,jO,kX (by omega) (by omega),kX (by omega) (by omega)];by_cases hlt:((b.toNat:Int)) < (a.toNat:Int)
        ·rw[Z0 hlt,ZG,ZG];show rU m _ ((ai (MM+3000) 3 ((i+1+1:Nat):Int) (rdr m (i+1+1) g f0)).bind _);rw[li,ZC];exact⟨_,i+1+1,g,by omega,rfl⟩
        ·rw[Z1 hlt,ZF,ZF];show lm m g (b9 ⟨(MM+3000),k⟩ (bl ⟨(MM+3000),k⟩ n) n x6 256 256 (b.toNat:Int) (a.toNat:Int) false [] 0 [] 0 S (⟨m,w64 (((i+1+1:Nat):Int)+1),g,f0⟩:VReader)) _;rw[f9 (by omega),Ir _ x6 b.toNat hbb _ (b.toNat+1 - a.toNat) n a.toNat S h4 (by omega) (by omega)]
         exact Oy hm k x6 g f n false (i+1+1+1) _ (by omega) (by omega) (by omega) (by rw[jj];exact h4)
  rw[bl,sb];cases first with
  |true=>rw[ZG];exact hR
  |false=>
   rw[ZF];show lm m g ((aw (MM+3000) 93 (rdr m i g f0)).bind _) _;rw[sM _ _ _ (by omega),ZC];dsimp only;cases hb:bQ m 93 i with
   |false=>exact hR
   |true=>show(cx ⟨(MM+3000),k⟩ n x6 256 256 ((0:Nat):Int) false [] 0 [] 0 S (rdr m (i+1) g f0))=_;rw[U0 ⟨(MM+3000),k⟩ x6 _ S h4 256 n 0 S rfl (by omega) (by simp)]
set_option maxRecDepth 1000000
variable {MM:Nat}
def eM{m:List UInt8}{i:Nat}{c:UInt8}(h:m[i]? =some c)(x:UInt8):bQ m x i=(b2i c==b2i x):=by unfold bQ;rw[h]
def Y4 {m : List UInt8} (hm : m.length <= 60) (k) (g : Int) {i : Nat} (hi : i <= m.length) : lm m g ((aw (MM + 3000) 94 (rdr m i g f0)).bind fun z17 =>
        (o9 1 256 256).bind fun z18=>
        bl ⟨(MM+3000),k⟩ (MM+3000) z17.1 z18.1 z18.2 true false ([] :List Bool) 0 ([] :List (List VPiece)) 0 (List.replicate z18.2 false) z17.2) (Ao m i):=by
 rw[sM _ _ _ (by omega),ZC,show o9 1 256 256=some (256,256) by kernel_rfl,ZC];unfold Ao;have hs:kI (bQ m 94 i) i<=m.length/\i<=kI (bQ m 94 i) i:=by
  unfold kI;cases h:bQ m 94 i with
  |true=>have:=ee h;exact⟨by simp;omega,by simp⟩
  |false=>exact⟨hi,ZN _⟩
 exact Oy hm k (bQ m 94 i) g (m.length+1) (MM+3000) true _ (List.replicate 256 false) hs.1 (by omega) (by omega) (by simp)
def Xf{m:List UInt8}(hm:m.length<=60)(k)(g:Int){i:Nat}{c:UInt8}(hc:m[i]? =some c)(h40:bQ m 40 i=false):lm m g (bO ⟨(MM+3000),k⟩ (rdr m i g f0)) (pr m i):=by
 have hi:=(ZD.1 hc).1;unfold bO pr;show lm m g ((ci m (i:Int)).bind fun z1=>(aw (MM+3000) 46 (rdr m i g f0)).bind _) _;rw[ixn,hc,ZC,sM _ _ _ (by omega),ZC,eM hc];dsimp only;cases h46:(b2i c==b2i 46) with
 |true=>rw[ZG,ZG,show o9 1 256 256=some (256,256) by kernel_rfl,ZC];exact Za k _
 |false=>
  rw[ZF,ZF];show lm m g ((aw (MM+3000) 92 (rdr m i g f0)).bind _) _;rw[sM _ _ _ (by omega),ZC,eM hc];dsimp only;cases h92:(b2i c==b2i 92) with
  |true=>
   rw[ZG,ZG];show lm m g (bif ((i+1:Nat):Int)==(m.length:Int) then _ else _) _;cases hx:m[i+1]? with
   |none=>have hl:=aak.1 hx;rw[aaR.2 (by omega),ZG];show rU m _ ((ai (MM+3000) 1 ((i+1:Nat):Int) (rdr m (i+1) g f0)).bind _);rw[li,ZC];exact⟨_,i+1,g,by omega,rfl⟩
   |some x=>
    have hl:=(ZD.1 hx).1;rw[Z9.2 (by omega),ZF];show lm m g ((ci m ((i+1:Nat):Int)).bind _) _;rw[ixn,hx,ZC];obtain⟨L,M,hL,hM,hLM⟩:=Xe x;rw[hL,ZC];have good:ti x=false->lm m g (cN ⟨(MM+3000),k⟩ (MM+3000) false [] 0 [] 0 (rdr m (i+1) g f0)) (bif ti x then .error (1,((i+1:Nat):Int)) else .ok (qS x,i+2)):=fun h=>by
     rw[h,ZF];unfold cN;show((ci m (w64 (w64 (((i+1:Nat):Int)+1) - 1))).bind fun z31=>(gY (MM+3000) z31).bind fun z32=>some (PR.ok (VPiece.mk false z32 0 [] 0,(⟨m,w64 (((i+1:Nat):Int)+1),g,f0⟩:VReader))))=_;rw[f9 (by omega),show(((i+1+1:Nat):Int) - 1)=((i+1:Nat):Int) by omega,kX (by omega) (by omega),ixn,hx,ZC,Qr,ZC];rfl
    have bad:ti x=true->∀K:VReader->Option (PR (VPiece × VReader)),(∀r,K r=some (.ok (VPiece.mk false [] 0 [] 0,r)))->lm m g ((ai (MM+3000) 1 ((i+1:Nat):Int) (rdr m (i+1) g f0)).bind K) (bif ti x then .error (1,((i+1:Nat):Int)) else .ok (qS x,i+2)):=fun h K hK=>by rw[h,ZG,li,ZC,hK];exact⟨_,i+1,g,by omega,rfl⟩
    have num:M=ti x->∀K:VReader->Option (PR (VPiece × VReader)),(∀r,K r=some (.ok (VPiece.mk false [] 0 [] 0,r)))->lm m g ((ci m ((i+1:Nat):Int)).bind fun z13=>(ej (MM+3000) z13).bind fun z14=>bif z14 then(ai (MM+3000) 1 ((i+1:Nat):Int) (rdr m (i+1) g f0)).bind K else cN ⟨(MM+3000),k⟩ (MM+3000) false [] 0 [] 0 (rdr m (i+1) g f0)) (bif ti x then .error (1,((i+1:Nat):Int)) else .ok (qS x,i+2)):=fun h K hK=>by
     rw[ixn,hx,ZC,hM,ZC];cases M with
     |true=>exact bad h.symm K hK
     |false=>exact good h.symm
    cases L with
    |true=>
     rw[ZG] at hLM;rw[ZG];show lm m g ((ci m ((i+1:Nat):Int)).bind _) _;rw[ixn,hx,ZC];cases h95:(b2i x != b2i 95) with
     |true=>rw[h95,ZG] at hLM;rw[ZG];exact bad hLM.symm _ fun r=>rfl
     |false=>rw[h95,ZF] at hLM;rw[ZF];exact num hLM _ fun r=>rfl
    |false=>rw[ZF] at hLM;rw[ZF];exact num hLM _ fun r=>rfl
  |false=>
   rw[ZF,ZF];show lm m g ((aw (MM+3000) 91 (rdr m i g f0)).bind _) _;rw[sM _ _ _ (by omega),ZC,eM hc];dsimp only;cases h91:(b2i c==b2i 91) with
   |true=>rw[ZG,ZG];exact Y4 (i:=i+1) hm k g (by omega)
   |false=>
    rw[ZF,ZF];show lm m g ((aX (MM+3000) 40 (rdr m i g f0)).bind _) _;rw[ris,ZC,h40];dsimp only;rw[ZF];show lm m g ((a8 (MM+3000) ([42,43,63,41,124,93] :List UInt8) (rdr m i g f0)).bind _) _;rw[ya _ _ _ _ _ (by decide),ZC,yR hc];dsimp only;cases ([42,43,63,41,124,93] :List UInt8).contains c with
    |true=>rw[ZG,ZG];show rU m _ ((ai (MM+3000) 1 (i:Int) (rdr m i g f0)).bind _);rw[li,ZC];exact⟨_,i,g,by omega,rfl⟩
    |false=>rw[ZF,ZF,Qr,ZC];show some (PR.ok (KS (qS c),(⟨m,w64 ((i:Int)+1),g,f0⟩:VReader)))=_;rw[f9 (by omega)];rfl
def R2(m:List UInt8)(out:List (List VPiece))(r:Option (PR (List (List VPiece) × VReader))):Except (Int × Int) (Nd × Nat × Nat)->Prop
 |.error q=>rU m q r
 |.ok (x,j,g)=>r=some (.ok (out++x.vv.2,rdr m j g f0))
def Zd(m:List UInt8)(g:Nat):Except (Int × Int) (Nd × Nat × Nat)->Except (Int × Int) (Nd × Nat × Nat)
 |.error q=>.error q
 |.ok (M,j,g1)=>bif bQ m 41 j then .ok (.grp (g+1) M 0,j+1,g1) else .error (1,(j:Int))
def ul(m:List UInt8)(r:Option (PR (VPiece × VReader))):Except (Int × Int) (Nd × Nat × Nat)->Prop
 |.error q=>rU m q r
 |.ok (x,j,g)=>r=some (.ok (x.vv.1,rdr m j g f0))
def WN{m:List UInt8}(hm:m.length<=60){k:VReader->Option (PR (List (List VPiece) × VReader))}{g i:Nat}(h40:bQ m 40 i=true)(hg:g<=8){R:Except (Int × Int) (Nd × Nat × Nat)}(hk:R2 m [] (k (rdr m (i+1) (g+1:Nat) f0)) R)(hR:∀q,R=.error q->q.1≠0)(hj:∀x j g1,R=.ok (x,j,g1)->j<=m.length):ul m (bO ⟨(MM+3000),k⟩ (rdr m i g f0)) (Zd m g R):=by
 have hi:=ee h40;obtain⟨c,hc⟩:∃c,m[i]? =some c:=⟨_,ZE hi⟩
 have hc40:(b2i c==b2i 40)=true:=by rw[<- eM hc];exact h40
 rw[ze,aaR] at hc40;subst hc40;unfold bO;show ul m ((ci m (i:Int)).bind fun z1=>(aw (MM+3000) 46 (rdr m i g f0)).bind _) _;rw[ixn,hc,ZC,sM _ _ _ (by omega),ZC,eM hc,show(b2i 40==b2i 46)=false from rfl];show ul m ((aw (MM+3000) 92 (rdr m i g f0)).bind _) _;rw[sM _ _ _ (by omega),ZC,eM hc,show(b2i 40==b2i 92)=false from rfl]
 show ul m ((aw (MM+3000) 91 (rdr m i g f0)).bind _) _;rw[sM _ _ _ (by omega),ZC,eM hc,show(b2i 40==b2i 91)=false from rfl];show ul m ((aX (MM+3000) 40 (rdr m i g f0)).bind _) _;rw[ris,ZC,h40];show ul m (bif (g:Int)==9 then _ else((k (⟨m,w64 ((i:Int)+1),w64 ((g:Int)+1),f0⟩:VReader)).bind _)) _
 rw[Z9.2 (by omega),ZF,f9 (by omega),f9 (by omega)];cases R with
 |error q=>obtain⟨p,j,g',h1,h2⟩:=hk;have:k (⟨m,((i+1:Nat):Int),((g+1:Nat):Int),f0⟩:VReader)=_:=h2;rw[this,ZC];show rU m q (bif q.1==0 then _ else _);rw[Z9.2 (hR q rfl),ZF];exact⟨_,j,g',h1,rfl⟩
 |ok p=>
  obtain⟨M,j,g1⟩:=p;have hjl:=hj M j g1 rfl;have:k (⟨m,((i+1:Nat):Int),((g+1:Nat):Int),f0⟩:VReader)=_:=hk;rw[this,ZC];show ul m ((aw (MM+3000) 41 (rdr m j g1 f0)).bind _) (bif bQ m 41 j then _ else _);rw[sM _ _ _ (by omega),ZC];dsimp only;have eg:w64 ((rdr m i g f0).Groups+1)=((g+1:Nat):Int):=f9 (by omega);rw[eg]
  cases bQ m 41 j with
  |true=>rfl
  |false=>rw[aaG,ZG,ZF];show rU m _ ((ai (MM+3000) 1 (j:Int) (rdr m j g1 f0)).bind _);rw[li,ZC];exact⟨_,j,g1,hjl,rfl⟩
def Wg{m:List UInt8}(hm:m.length<=60){k:VReader->Option (PR (List (List VPiece) × VReader))}{i:Nat}(h40:bQ m 40 i=true):ul m (bO ⟨(MM+3000),k⟩ (rdr m i (9:Nat) f0)) (.error (2,(i:Int))):=by
 have hi:=ee h40;obtain⟨c,hc⟩:∃c,m[i]? =some c:=⟨_,ZE hi⟩
 have hc40:(b2i c==b2i 40)=true:=by rw[<- eM hc];exact h40
 rw[ze,aaR] at hc40;subst hc40;unfold bO;show ul m ((ci m (i:Int)).bind fun z1=>(aw (MM+3000) 46 (rdr m i (9:Nat) f0)).bind _) _;rw[ixn,hc,ZC,sM _ _ _ (by omega),ZC,eM hc,show(b2i 40==b2i 46)=false from rfl];show ul m ((aw (MM+3000) 92 (rdr m i (9:Nat) f0)).bind _) _
 rw[sM _ _ _ (by omega),ZC,eM hc,show(b2i 40==b2i 92)=false from rfl];show ul m ((aw (MM+3000) 91 (rdr m i (9:Nat) f0)).bind _) _;rw[sM _ _ _ (by omega),ZC,eM hc,show(b2i 40==b2i 91)=false from rfl];show ul m ((aX (MM+3000) 40 (rdr m i (9:Nat) f0)).bind _) _;rw[ris,ZC,h40];dsimp only
 rw[ZG,show((rdr m i (9:Nat) f0).Groups==9)=true from rfl,ZG];show rU m _ ((ai (MM+3000) 2 (i:Int) (rdr m i (9:Nat) f0)).bind _);rw[li,ZC];exact⟨_,i,(9:Nat),by omega,rfl⟩
end Go.Proofs.Ytlhjbhgkhpbnfaa
