import Derived.Test.YtlhjbhgkhpbnfaaCk05
import Derived.Shelf.Strings.Builder1
import Derived.Shelf.Strings.Builder2
import Derived.WalkKit
import Derived.Lib.Hide
import Derived.BigCall
import Derived.Test.YtlhjbhgkhpbnfaaProg
import Derived.Recover
import Derived.Defers
import Derived.RegionTactic
import Derived.BigRegion
set_option linter.unusedSimpArgs false
set_option linter.unusedVariables false
set_option linter.defProp false
namespace Go.Proofs.Ytlhjbhgkhpbnfaa
open Go.RowKit P
def zd{P:Program}{T:Tys P}{O:AS}{t u ty e:TypeId}{x y:Operand}{pos:String}{af:Array Edge}{g:Option (Nat × Bool)}{d by_ sz N:Nat}{us:List AV}{du:TypeDesc}(hx:opV O x=some (.cl sz []))(ht:look T.ty t=some (.slice e))(hu:look T.ty u=some du)(hnz:du=.string\/∃e',du=.slice e')(hz:look T.sz e=some (sz,by_))(hb1:1<=by_)
  (hsrc:∀F X (a:Act),SimE F X O a.tmps->∃vs,SrcA P X sz N N us (a.eval y) vs) (hN:0 < N) (hfit:N * by_<=140737488355328) (hpl:io us) (hd:Nat.ble (d+1) O.n=true)
  {R:AS->Prop} (hR:∀k' cap (vs:List Value),gy k' O.h->N<=cap->(us++vs.map AV.v).length=cap * sz->R ((O.box k' (us++vs.map AV.v)).put d (.v (.slice (some ⟨k',0,none⟩) N cap)))):dM P ⟨some d,.call { callee:=.builtin .append,args:= #[x,y],argTypes:= #[t,u] },ty,pos,af,g⟩ O R:=by
 refine wo (Fact:=fun cap sp=>N<=cap/\(us++sp).length=cap * sz/\∃vs:List Value,sp=vs.map AV.v) rfl hd (fun cap sp h v hv=> ?_) (fun F X a hs=> ?_) (fun k' cap sp hk ⟨h1,h2,vs,h3⟩=>by subst h3;exact hR k' cap vs hk h1 h2)
 ·rcases aaf.1 hv with hv|hv
  ·exact hpl v hv
  ·obtain⟨vs,rfl⟩:=h.2.2;obtain⟨z,_,rfl⟩:=ZW.1 hv;rfl
 ·have hrel:=cC hs hx;obtain⟨vs,hv⟩:=hsrc F X a hs;obtain⟨i,hi1,hi2,hi3,zv,hi4,hi5⟩:=T.szOk _ _ _ hz;generalize hxv:a.eval x=xv at hrel;cases hrel with
  |cl _ _ ad n hr=>
   have hn:n=0:=by obtain⟨a1,c1,h1⟩:=gI hr;cases h1;rfl
   subst hn;have hcge:=grownCap_ge X.w (0+N) 0 e;have hold:∀w',w'.heap=X.w.heap->(Builtin.firstCells i.size 0 (.slice ad 0 0)).run P w'=.ok ([] :List Value).toArray w':=fun w' _=>by
    cases ad with
    |none=>simp[Builtin.firstCells]
    |some b=>exact run_firstCells_some (P:=P) (w:=w') i.size 0 b 0 0 [] (by simp) (fun j v hv=>by simp at hv)
   have hrun:=im (P:=P) (ty:=ty) (sLen:=0) (sCap:=0) (a:=ad) (m:=N) (olds:=[]) (news:=vs) (x:=a.eval y) (T.tyOk _ _ ht) (T.tyOk _ _ hu) hnz hi1 hi4 ⟨hv.len,by rw[hi2];exact hv.first,by rw[hi2];exact hv.lv⟩ hold (by omega) (by rw[hi3,Z6];exact hfit) (by rw[hi3];exact hb1);rw[Z6] at hrun hcge
   refine⟨_,e,grownCap X.w N 0 e,(Builtin.zeroCells zv.cells (grownCap X.w N 0 e - N)).toList.map .v,⟨hcge,?_,_,rfl⟩,dh hxv rfl hrun,?_,fun j u0 v hu0 hv0=> ?_⟩
   ·rw[ZR,hv.lu,Z3,aaW];have:(Builtin.zeroCells zv.cells (grownCap X.w N 0 e - N)).size=(grownCap X.w N 0 e - N) * sz:=by simp[Builtin.zeroCells,hi5]
    rw[this,<- aae];congr 1;omega
   ·simp only[Array.size_append,List.size_toArray,List.length_append,hv.lu,hv.lv,List.length_map,Array.length_toList,List.length_nil,Nat.zero_add]
   ·have hl0:(([] :List Value).toArray++vs.toArray++Builtin.zeroCells zv.cells (grownCap X.w N 0 e - N))[j]? =(vs++ (Builtin.zeroCells zv.cells (grownCap X.w N 0 e - N)).toList)[j]? :=by
     rw[<- aay];simp
    rw[hl0] at hv0;refine D8 (by rw[hv.lu,hv.lv]) hv.rel (fun i u v hu hv=> ?_) j u0 v hu0 hv0;rw[aao,hv] at hu;cases hu;exact .v _
section
attribute [local irreducible] AS.nf OpV br Stk m8 Rk aI dM P2 QE Awp VY WJ YE
set_option maxHeartbeats 2000000
set_option maxRecDepth 100000 in
def Pp(n:Int)(l:List Int)(hl:l.length < 1000000):
  aI Try.prog 55 [.sl false 1 ((n::l).map fun x=>[.v (.int .i64 x)])] [] (fun out H=>∃ (k c:Nat) (vs:List Value),out=.ret (.v (.slice (some ⟨k,0,none⟩) (l.length+1) c))/\H=[(k,((n::l).map fun x=>[AV.v (.int .i64 x)]).flatten++vs.map AV.v)] /\(l.length+1)+vs.length=c):=by
 have hone:∀r∈((n::l).map fun x=>[AV.v (.int .i64 x)]),r.length=1/\∀u∈r,u.one=true/\de (some u)=none:=fun r hr=>by obtain⟨x,_,rfl⟩:=ZW.1 hr;exact⟨rfl,fun u hu=>by rw[aaJ.1 hu];exact⟨rfl,rfl⟩⟩
 have hln:((n::l).map fun x=>[AV.v (.int .i64 x)]).length=l.length+1:=by simp
 generalize hL:((n::l).map fun x=>[AV.v (.int .i64 x)])=L at hone hln ⊢;have hne:L≠[] :=fun e=>by rw[e] at hln;simp at hln
 refine Dd _ 8 [.tmp 2] Try.func55 (by kernel_rfl) rfl rfl rfl rfl ?_;dsimp only[slotsOf]
 repeat (first| ((first|apply GU);(next=>(first| (simp only[go_sem,Nat.reduceBEq,Nat.reduceEqDiff,reduceIte,reduceCtorEq,String.reduceEq,Nat.reduceAdd,Int.reduceToNat];exact rfl))))| (apply zH rfl rfl rfl rfl;(next=>(first| (refine um (T:=TT) rfl ?_;(first|exact trivial))|fail)))| (refine arO _ ?_;first| (refine arO ⟨_,.move _,_,_,_,_⟩ ?_;first|refine zy rfl rfl rfl rfl ?_|fail)|fail)|refine yU ?_| (refine arE ?_;refine tM [0,2,4] rfl ?_)|refine ot ?_|fail)
 refine l7 rfl rfl (DC (.inl ⟨rfl,rfl⟩) (TT.tyOk 38 (.slice 3) rfl) rfl rfl rfl (fun b hb=> ?_));cases b with
 |true=>exact absurd (hb rfl) hne
 |false=>
  repeat (first
   | ((first|apply GU);(next=>(first| (simp only[go_sem,Nat.reduceBEq,Nat.reduceEqDiff,reduceIte,reduceCtorEq,String.reduceEq,Nat.reduceAdd,Int.reduceToNat];exact rfl))))
   | (apply zH rfl rfl rfl rfl;(next=>exact zw (T:=TT) rfl rfl))
   | (refine arO _ ?_;first| (refine arO ⟨_,.move _,_,_,_,_⟩ ?_;first|refine zy rfl rfl rfl rfl ?_|fail)|fail)
   |refine yU ?_
   | (refine arE ?_;refine tM [0,2,4] rfl ?_)
   |refine ot ?_
   |refine Dp ?_
   | (refine arC (.cond _ _ _) ?_;first| (refine kE rfl ?_ ?_;(next=>(first|rfl)))|fail)
   |fail)
  have hfl:L.flatten.length=L.length * 1:=tK (L:=L) fun q hq=>(hone q hq).1;refine l7 rfl rfl (zd (T:=TT) (sz:=1) (by_:=8) (N:=L.length) (us:=L.flatten) rfl rfl rfl (.inr ⟨_,rfl⟩) rfl (by decide) (fun F X a hs=> ?_) (by omega) (by omega) (fun u hu=> ?_) rfl ?_)
  ·exact JY (P:=Try.prog) (by decide) (cC hs (u:=.sl false 1 L) rfl) (fun q hq u hu=>((hone q hq).2 u hu).1)
  ·obtain⟨r,h1,h2⟩:=abe.1 hu;exact((hone r h1).2 u h2).2
  intro k' cap vs hk' h1 h2
  repeat (first| ((first|apply GU|apply Wb);(next=>(first| (simp only[go_sem,Nat.reduceBEq,Nat.reduceEqDiff,reduceIte,reduceCtorEq,String.reduceEq,Nat.reduceAdd,Int.reduceToNat];exact rfl))))| (apply zH rfl rfl rfl rfl;(next=>(first| (refine um (T:=TT) rfl ?_;(first|exact trivial))|fail)))| (refine arE ?_;refine tM [0,2,4] rfl ?_)| (refine arC .ret ?_;refine TF [2] ?_)|refine RX ?_|fail)
  exact⟨_,rfl,k',cap,vs,by rw[hln],rfl,by rw[ZR,hfl,Z3] at h2;omega⟩
end
def iH(N:Nat)(l:List Int):Option (PR (Nat × List Int)):=match l with
 | [] =>none
 |n::r=>if r.length < 1000000 then some (.ok (r.length+1,n::r)) else none
def E1(r:Nat × List Int):TV EE.T:=.a (.vec (.int .i64) 300000 r.1)
def DD(r:Nat × List Int):List (Nat × TB EE.T):=[(300000,.vec 300000 (.int .i64) r.2)]
def qW(N:Nat)(us:List (TV EE.T))(hs:List (Nat × TB EE.T)):XR EE.T:=
 gdX (d7 us 1) <| bnX (aD (.sl (.int .i64)) us 0) fun x0=>.mv (iH N x0) [] [] 1 E1 DD
def su(N:Nat):XOk Try.prog EE 55 (qW N):=fun us hs=>
 ay fun h1=>ab fun x0 h2=>fun p hz I hi=>by
  unfold iH at hz;split at hz
  ·cases hz
  ·rename_i n r;split at hz
   ·rename_i hl;cases hz;refine N2 (us':=[.a (.d (.sl (.int .i64)) (n::r))]) (h0:=[]) (ids:=[]) (ρ':=I) ⟨gB h2,bA h1⟩ trivial (Pp n r hl) ?_;rintro out H ⟨k,c,vs,rfl,rfl,hc⟩;have hlive:bi (dG I 300000 ⟨k,false,vs⟩) (TB.vec 300000 (.int .i64) (n::r):TB EE.T)=true:=by simp[bi]
    refine⟨dG I 300000 ⟨k,false,vs⟩,(fun i hi=>by cases hi),?_,?_,Inj.one⟩
    ·show AOut.ret _=AOut.ret (.v (vecV _ _ _))
     congr 2
     simp[vecV,dG,csz];omega
    ·refine abj ?_ (dS (I:=dG I 300000 ⟨k,false,vs⟩) (k:=300000) EE.toEnc [] hlive).symm;have e1:(dG I 300000 ⟨k,false,vs⟩) 300000=k:=by simp[Rn.b,dG]
     have e2:(TB.vec 300000 (.int .i64) (n::r):TB EE.T).to EE.toEnc (dG I 300000 ⟨k,false,vs⟩)=((n::r).map fun x=>[AV.v (.int .i64 x)]).flatten++vs.map AV.v:=by show _++ ((dG I 300000 ⟨k,false,vs⟩).k 300000).sp.map AV.v=_;rw[show(dG I 300000 ⟨k,false,vs⟩).k 300000=⟨k,false,vs⟩ by simp[dG]];rfl
     rw[e1,e2];rfl
   ·cases hz
set_option maxRecDepth 100000
abbrev cu:=Int × (List UInt8) × Int × Int × Nat × (List Vstep)
def aq(N:Nat)(x1:Vstep)(y0_0:List UInt8)(y0_1:Int)(y0_2:Int)(y0_3:Nat)(y1:List Vstep):Option (PR cu):=
 (lg 32 y0_3 y1 ([x1] :List Vstep)).bind fun z1=>
 some (.ok (w64 ((z1.length:Int) - 1),y0_0,y0_1,y0_2,z1.length,z1))
abbrev co:=UInt8 × Bool × (List UInt8) × Int × Int × Nat × (List Vstep)
def aT(N:Nat)(y0_0:List UInt8)(y0_1:Int)(y0_2:Int)(y0_3:Nat)(y1:List Vstep):Option (PR co):=
 bif decide (y0_1 < (y0_0.length:Int)) then
  (ci y0_0 y0_1).bind fun z1=>
  some (.ok (z1,true,y0_0,y0_1,y0_2,y0_3,y1))
 else
  some (.ok (0,false,y0_0,y0_1,y0_2,y0_3,y1))
abbrev cp:=(List UInt8) × Int × Int × Nat × (List Vstep)
def aY(N:Nat)(x1:Int)(x2:Int)(y0_0:List UInt8)(y0_1:Int)(y0_2:Int)(y0_3:Nat)(y1:List Vstep):Option (PR cp):=
 some (.pan (Value.iface 28 (.agg #[.int .i64 x1,.int .i64 x2])))
abbrev ig:=Option (List Bool)
def iE(N:Nat)(x0:UInt8):Option ig:=
 (cf 256 (b2i x0)).bind fun z1=>
 (ja (List.replicate 256 false) (0+z1) true).bind fun z2=>
 (m9 256 z2).bind fun z3=>
 some (some z3)
abbrev cv:=Bool × (List UInt8) × Int × Int × Nat × (List Vstep)
def bj(N:Nat)(x1:UInt8)(y0_0:List UInt8)(y0_1:Int)(y0_2:Int)(y0_3:Nat)(y1:List Vstep):Option (PR cv):=
 (aT N y0_0 y0_1 y0_2 y0_3 y1).bind fun z1=>
 match z1 with
 |.pan vz1=>some (.pan vz1)
 |.ok z2=>
  bif z2.2.1 then
   bif (b2i z2.1)==(b2i x1) then
    some (.ok (true,z2.2.2.1,w64 (z2.2.2.2.1+1),z2.2.2.2.2.1,z2.2.2.2.2.2.1,z2.2.2.2.2.2.2))
   else
    some (.ok (false,z2.2.2.1,z2.2.2.2.1,z2.2.2.2.2.1,z2.2.2.2.2.2.1,z2.2.2.2.2.2.2))
  else
   some (.ok (false,z2.2.2.1,z2.2.2.2.1,z2.2.2.2.2.1,z2.2.2.2.2.2.1,z2.2.2.2.2.2.2))
def da(N:Nat)(x0:List UInt8)(x1:UInt8):Option Int:=
 (pg N x0 x1).bind fun z1=>
 some z1
abbrev bc:=UInt8 × (List UInt8) × Int × Int × Nat × (List Vstep)
def dL(N:Nat)(n:Nat)(x3:UInt8)(Zj:List UInt8)(Zg:Int)(Zi:Int)(Ze:Nat)(Zh:List Vstep):Option (PR bc):=
 (aY N 1 Zg Zj Zg Zi Ze Zh).bind fun z4=>
 match z4 with
 |.pan vz4=>some (.pan vz4)
 |.ok z5=>some (.ok (x3,z5.1,w64 (z5.2.1+1),z5.2.2.1,z5.2.2.2.1,z5.2.2.2.2))
def ca(N:Nat)(y0_0:List UInt8)(y0_1:Int)(y0_2:Int)(y0_3:Nat)(y1:List Vstep):Option (PR bc):=
 (aT N y0_0 y0_1 y0_2 y0_3 y1).bind fun z1=>
 match z1 with
 |.pan vz1=>some (.pan vz1)
 |.ok z2=>
  bif !z2.2.1 then
   dL N N z2.1 z2.2.2.1 z2.2.2.2.1 z2.2.2.2.2.1 z2.2.2.2.2.2.1 z2.2.2.2.2.2.2
  else
   (da N ([91,93,92,94,45] :List UInt8) z2.1).bind fun z3=>
   bif decide (z3>=0) then
    dL N N z2.1 z2.2.2.1 z2.2.2.2.1 z2.2.2.2.2.1 z2.2.2.2.2.2.1 z2.2.2.2.2.2.2
   else
    some (.ok (z2.1,z2.2.2.1,w64 (z2.2.2.2.1+1),z2.2.2.2.2.1,z2.2.2.2.2.2.1,z2.2.2.2.2.2.2))
abbrev ak:=(Option (List Bool)) × (List UInt8) × Int × Int × Nat × (List Vstep)
def bN(N:Nat)(k4:Bool->Bool->(List Bool)->(List UInt8)->Int->Int->Nat->(List Vstep)->Option (PR ak)):Nat->Bool->UInt8->Int->(List Bool)->(List UInt8)->Int->Int->Nat->(List Vstep)->Option (PR ak)
 |0,_,_,_,_,_,_,_,_,_=>none
 |n+1,x3,x7,x9,b4,Zj,Zg,Zi,Ze,Zh=>
  bif decide (x9<=(w64 (b2i x7))) then
   (cf 256 x9).bind fun z18=>
   (ja b4 (0+z18) true).bind fun z19=>
   bN N k4 n x3 x7 (w64 (x9+1)) z19 Zj Zg Zi Ze Zh
  else
   k4 x3 false b4 Zj Zg Zi Ze Zh
def cS(N:Nat)(k4:Bool->Bool->(List Bool)->(List UInt8)->Int->Int->Nat->(List Vstep)->Option (PR ak))(n:Nat)(x3:Bool)(x6:UInt8)(x7:UInt8)(b4:List Bool)(Zj:List UInt8)(Zg:Int)(Zi:Int)(Ze:Nat)(Zh:List Vstep):Option (PR ak):=
 bN N k4 n x3 x7 (w64 (b2i x6)) b4 Zj Zg Zi Ze Zh
def cY(N:Nat)(k4:Bool->Bool->(List Bool)->(List UInt8)->Int->Int->Nat->(List Vstep)->Option (PR ak))(n:Nat)(x3:Bool)(b4:List Bool)(Zj:List UInt8)(Zg:Int)(Zi:Int)(Ze:Nat)(Zh:List Vstep):Option (PR ak):=
 (ca N Zj Zg Zi Ze Zh).bind fun z5=>
 match z5 with
 |.pan vz5=>some (.pan vz5)
 |.ok z6=>
  (bj N 45 z6.2.1 z6.2.2.1 z6.2.2.2.1 z6.2.2.2.2.1 z6.2.2.2.2.2).bind fun z7=>
  match z7 with
  |.pan vz7=>some (.pan vz7)
  |.ok z8=>
   bif z8.1 then
    (ca N z8.2.1 z8.2.2.1 z8.2.2.2.1 z8.2.2.2.2.1 z8.2.2.2.2.2).bind fun z9=>
    match z9 with
    |.pan vz9=>some (.pan vz9)
    |.ok z10=>
     bif decide ((b2i z10.1) < (b2i z6.1)) then
      (aY N 3 z8.2.2.1 z10.2.1 z10.2.2.1 z10.2.2.2.1 z10.2.2.2.2.1 z10.2.2.2.2.2).bind fun z11=>
      match z11 with
      |.pan vz11=>some (.pan vz11)
      |.ok z12=>cS N k4 n x3 z6.1 z10.1 b4 z12.1 z12.2.1 z12.2.2.1 z12.2.2.2.1 z12.2.2.2.2
     else
      cS N k4 n x3 z6.1 z10.1 b4 z10.2.1 z10.2.2.1 z10.2.2.2.1 z10.2.2.2.2.1 z10.2.2.2.2.2
   else
    cS N k4 n x3 z6.1 z6.1 b4 z8.2.1 z8.2.2.1 z8.2.2.2.1 z8.2.2.2.2.1 z8.2.2.2.2.2
def ce(N:Nat):Nat->Bool->Int->(List Bool)->(List UInt8)->Int->Int->Nat->(List Vstep)->Option (PR ak)
 |0,_,_,_,_,_,_,_,_=>none
 |n+1,x3,x46,b4,Zj,Zg,Zi,Ze,Zh=>
  bif decide (x46 < 256) then
   (cf 256 x46).bind fun z13=>
   (b4[0+z13]?).bind fun z14=>
   (cf 256 x46).bind fun z15=>
   (ja b4 (0+z15) (!(z14==x3))).bind fun z16=>
   ce N n x3 (w64 (x46+1)) z16 Zj Zg Zi Ze Zh
  else
   (m9 256 b4).bind fun z17=>
   some (.ok ((some z17),Zj,Zg,Zi,Ze,Zh))
def bK(N:Nat):Nat->Bool->Bool->(List Bool)->(List UInt8)->Int->Int->Nat->(List Vstep)->Option (PR ak)
 |0,_,_,_,_,_,_,_,_=>none
 |n+1,x3,x5,b4,Zj,Zg,Zi,Ze,Zh=>
  bif x5 then
   cY N (bK N n) n x3 b4 Zj Zg Zi Ze Zh
  else
   (bj N 93 Zj Zg Zi Ze Zh).bind fun z3=>
   match z3 with
   |.pan vz3=>some (.pan vz3)
   |.ok z4=>
    bif !z4.1 then
     cY N (bK N n) n x3 b4 z4.2.1 z4.2.2.1 z4.2.2.2.1 z4.2.2.2.2.1 z4.2.2.2.2.2
    else
     ce N n x3 0 b4 z4.2.1 z4.2.2.1 z4.2.2.2.1 z4.2.2.2.2.1 z4.2.2.2.2.2
def dD(N:Nat)(y0_0:List UInt8)(y0_1:Int)(y0_2:Int)(y0_3:Nat)(y1:List Vstep):Option (PR ak):=
 (bj N 94 y0_0 y0_1 y0_2 y0_3 y1).bind fun z1=>
 match z1 with
 |.pan vz1=>some (.pan vz1)
 |.ok z2=>bK N N z2.1 true (List.replicate 256 false) z2.2.1 z2.2.2.1 z2.2.2.2.1 z2.2.2.2.2.1 z2.2.2.2.2.2
abbrev aW:=(List Vstep) × (List Vstep)
def bP(N:Nat)(x0_o:Nat)(x0_n:Nat)(y0:List Vstep):Option (PR aW):=
 (Fa x0_o x0_n y0).bind fun z1=>
 (ie 32 ([] :List Vstep) z1).bind fun z2=>
 some (.ok (z2,y0))
abbrev cr:=(List Vstep) × (List UInt8) × Int × Int × Nat × (List Vstep)
def cz(N:Nat)(x1:Int)(y0_0:List UInt8)(y0_1:Int)(y0_2:Int)(y0_3:Nat)(y1:List Vstep):Option (PR cr):=
 (DW y0_3 x1 (y0_3:Int)).bind fun z1=>
 (bP N z1.1 (y0_3 - z1.1) y1).bind fun z2=>
 match z2 with
 |.pan vz2=>some (.pan vz2)
 |.ok z3=>
  (HC y0_3 z3.2 x1).bind fun z4=>
  some (.ok (z3.1,y0_0,y0_1,y0_2,z4.length,z4))
abbrev aJ:=(List UInt8) × Int × Int × Nat × (List Vstep)
def cn(N:Nat)(k2:Int->(List Vstep)->Int->Int->(List UInt8)->Int->Int->Nat->(List Vstep)->Option (PR aJ))(n:Nat)(x6:Int)(x16:List Vstep)(x17:Int)(x18:Int)(b8:Vstep)(Zj:List UInt8)(Zg:Int)(Zi:Int)(Ze:Nat)(Zh:List Vstep):Option (PR aJ):=
 (aq N b8 Zj Zg Zi Ze Zh).bind fun z2=>
 match z2 with
 |.pan vz2=>some (.pan vz2)
 |.ok z3=>k2 x6 x16 x17 (w64 (x18+1)) z3.2.1 z3.2.2.1 z3.2.2.2.1 z3.2.2.2.2.1 z3.2.2.2.2.2
def bf(N:Nat):Nat->Int->(List Vstep)->Int->Int->(List UInt8)->Int->Int->Nat->(List Vstep)->Option (PR aJ)
 |0,_,_,_,_,_,_,_,_,_=>none
 |n+1,x6,x16,x17,x18,Zj,Zg,Zi,Ze,Zh=>
  bif decide (x18 < x17) then
   (ci x16 x18).bind fun z1=>
   bif z1.kind==1 then
    cn N (bf N n) n x6 x16 x17 x18 ({ kind:=z1.kind,a:=w64 (z1.a+x6),b:=w64 (z1.b+x6),set_:=z1.set_ }:Vstep) Zj Zg Zi Ze Zh
   else
    bif z1.kind==2 then
     cn N (bf N n) n x6 x16 x17 x18 ({ kind:=z1.kind,a:=w64 (z1.a+x6),b:=z1.b,set_:=z1.set_ }:Vstep) Zj Zg Zi Ze Zh
    else
     cn N (bf N n) n x6 x16 x17 x18 z1 Zj Zg Zi Ze Zh
  else
   some (.ok (Zj,Zg,Zi,Ze,Zh))
def bq(N:Nat)(x1:List Vstep)(x2:Int)(y0_0:List UInt8)(y0_1:Int)(y0_2:Int)(y0_3:Nat)(y1:List Vstep):Option (PR aJ):=
 bf N N (w64 ((y0_3:Int) - x2)) x1 (x1.length:Int) 0 y0_0 y0_1 y0_2 y0_3 y1
structure RecC where
 n:Nat
 k:(List UInt8)->Int->Int->Nat->(List Vstep)->Option (PR (Bool × (List UInt8) × Int × Int × Nat × (List Vstep)))
def dY(N:RecC)(y0_0:List UInt8)(y0_1:Int)(y0_2:Int)(y0_3:Nat)(y1:List Vstep):Option (PR (Bool × (List UInt8) × Int × Int × Nat × (List Vstep))):=N.k y0_0 y0_1 y0_2 y0_3 y1
abbrev am:=Bool × (List UInt8) × Int × Int × Nat × (List Vstep)
def cJ(N:RecC):Nat->Int->(List Bool)->(List UInt8)->Int->Int->Nat->(List Vstep)->Option (PR am)
 |0,_,_,_,_,_,_,_=>none
 |n+1,x51,b4,Zj,Zg,Zi,Ze,Zh=>
  bif decide (x51 < 256) then
   (cf 256 x51).bind fun z13=>
   (ja b4 (0+z13) true).bind fun z14=>
   cJ N n (w64 (x51+1)) z14 Zj Zg Zi Ze Zh
  else
   (m9 256 b4).bind fun z15=>
   (aq N.n ({ kind:=0,a:=0,b:=0,set_:=(some z15) }:Vstep) Zj Zg Zi Ze Zh).bind fun z16=>
   match z16 with
   |.pan vz16=>some (.pan vz16)
   |.ok z17=>some (.ok (false,z17.2.1,z17.2.2.1,z17.2.2.2.1,z17.2.2.2.2.1,z17.2.2.2.2.2))
def df(N:RecC)(n:Nat)(x6:UInt8)(Zj:List UInt8)(Zg:Int)(Zi:Int)(Ze:Nat)(Zh:List Vstep):Option (PR am):=
 (aY N.n 1 Zg Zj Zg Zi Ze Zh).bind fun z34=>
 match z34 with
 |.pan vz34=>some (.pan vz34)
 |.ok z35=>
  (iE N.n x6).bind fun z36=>
  (aq N.n ({ kind:=0,a:=0,b:=0,set_:=z36 }:Vstep) z35.1 (w64 (z35.2.1+1)) z35.2.2.1 z35.2.2.2.1 z35.2.2.2.2).bind fun z37=>
  match z37 with
  |.pan vz37=>some (.pan vz37)
  |.ok z38=>some (.ok (false,z38.2.1,z38.2.2.1,z38.2.2.2.1,z38.2.2.2.2.1,z38.2.2.2.2.2))
def ar(N:RecC)(n:Nat)(x6:UInt8)(x7:Bool)(x8:Bool)(Zj:List UInt8)(Zg:Int)(Zi:Int)(Ze:Nat)(Zh:List Vstep):Option (PR am):=
 bif !x7 then
  df N n x6 Zj Zg Zi Ze Zh
 else
  bif x8 then
   df N n x6 Zj Zg Zi Ze Zh
  else
   (iE N.n x6).bind fun z18=>
   (aq N.n ({ kind:=0,a:=0,b:=0,set_:=z18 }:Vstep) Zj (w64 (Zg+1)) Zi Ze Zh).bind fun z19=>
   match z19 with
   |.pan vz19=>some (.pan vz19)
   |.ok z20=>some (.ok (false,z20.2.1,z20.2.2.1,z20.2.2.2.1,z20.2.2.2.2.1,z20.2.2.2.2.2))
def dg(N:RecC)(n:Nat)(Zj:List UInt8)(Zg:Int)(Zi:Int)(Ze:Nat)(Zh:List Vstep):Option (PR am):=
 (aq N.n ({ kind:=3,a:=w64 (2 * (w64 (Zi+1))),b:=0,set_:=(none:Option (List Bool)) }:Vstep) Zj (w64 (Zg+1)) (w64 (Zi+1)) Ze Zh).bind fun z21=>
 match z21 with
 |.pan vz21=>some (.pan vz21)
 |.ok z22=>
  (dY N z22.2.1 z22.2.2.1 z22.2.2.2.1 z22.2.2.2.2.1 z22.2.2.2.2.2).bind fun z23=>
  match z23 with
  |.pan vz23=>some (.pan vz23)
  |.ok z24=>
   (aq N.n ({ kind:=3,a:=w64 ((w64 (2 * (w64 (Zi+1))))+1),b:=0,set_:=(none:Option (List Bool)) }:Vstep) z24.2.1 z24.2.2.1 z24.2.2.2.1 z24.2.2.2.2.1 z24.2.2.2.2.2).bind fun z25=>
   match z25 with
   |.pan vz25=>some (.pan vz25)
   |.ok z26=>
    (bj N.n 41 z26.2.1 z26.2.2.1 z26.2.2.2.1 z26.2.2.2.2.1 z26.2.2.2.2.2).bind fun z27=>
    match z27 with
    |.pan vz27=>some (.pan vz27)
    |.ok z28=>
     bif !z28.1 then
      (aY N.n 1 z28.2.2.1 z28.2.1 z28.2.2.1 z28.2.2.2.1 z28.2.2.2.2.1 z28.2.2.2.2.2).bind fun z29=>
      match z29 with
      |.pan vz29=>some (.pan vz29)
      |.ok z30=>some (.ok (z24.1,z30.1,z30.2.1,z30.2.2.1,z30.2.2.2.1,z30.2.2.2.2))
     else
      some (.ok (z24.1,z28.2.1,z28.2.2.1,z28.2.2.2.1,z28.2.2.2.2.1,z28.2.2.2.2.2))
def dr(N:RecC)(n:Nat)(x3:UInt8)(Zj:List UInt8)(Zg:Int)(Zi:Int)(Ze:Nat)(Zh:List Vstep):Option (PR am):=
 (iE N.n x3).bind fun z31=>
 (aq N.n ({ kind:=0,a:=0,b:=0,set_:=z31 }:Vstep) Zj (w64 (Zg+1)) Zi Ze Zh).bind fun z32=>
 match z32 with
 |.pan vz32=>some (.pan vz32)
 |.ok z33=>some (.ok (false,z33.2.1,z33.2.2.1,z33.2.2.2.1,z33.2.2.2.2.1,z33.2.2.2.2.2))
def bT(N:RecC)(y0_0:List UInt8)(y0_1:Int)(y0_2:Int)(y0_3:Nat)(y1:List Vstep):Option (PR am):=
 (ci y0_0 y0_1).bind fun z1=>
 bif (b2i z1)==(b2i 46) then
  cJ N N.n 0 (List.replicate 256 false) y0_0 (w64 (y0_1+1)) y0_2 y0_3 y1
 else
  bif (b2i z1)==(b2i 92) then
   (aT N.n y0_0 (w64 (y0_1+1)) y0_2 y0_3 y1).bind fun z2=>
   match z2 with
   |.pan vz2=>some (.pan vz2)
   |.ok z3=>
    bif decide ((b2i z3.1)>=(b2i 97)) then
     bif decide ((b2i z3.1)<=(b2i 122)) then
      ar N N.n z3.1 z3.2.1 true z3.2.2.1 z3.2.2.2.1 z3.2.2.2.2.1 z3.2.2.2.2.2.1 z3.2.2.2.2.2.2
     else
      bif decide ((b2i z3.1)>=(b2i 65)) then
       bif decide ((b2i z3.1)<=(b2i 90)) then
        ar N N.n z3.1 z3.2.1 true z3.2.2.1 z3.2.2.2.1 z3.2.2.2.2.1 z3.2.2.2.2.2.1 z3.2.2.2.2.2.2
       else
        bif decide ((b2i z3.1)>=(b2i 48)) then
         ar N N.n z3.1 z3.2.1 (decide ((b2i z3.1)<=(b2i 57))) z3.2.2.1 z3.2.2.2.1 z3.2.2.2.2.1 z3.2.2.2.2.2.1 z3.2.2.2.2.2.2
        else
         ar N N.n z3.1 z3.2.1 false z3.2.2.1 z3.2.2.2.1 z3.2.2.2.2.1 z3.2.2.2.2.2.1 z3.2.2.2.2.2.2
      else
       bif decide ((b2i z3.1)>=(b2i 48)) then
        ar N N.n z3.1 z3.2.1 (decide ((b2i z3.1)<=(b2i 57))) z3.2.2.1 z3.2.2.2.1 z3.2.2.2.2.1 z3.2.2.2.2.2.1 z3.2.2.2.2.2.2
       else
        ar N N.n z3.1 z3.2.1 false z3.2.2.1 z3.2.2.2.1 z3.2.2.2.2.1 z3.2.2.2.2.2.1 z3.2.2.2.2.2.2
    else
     bif decide ((b2i z3.1)>=(b2i 65)) then
      bif decide ((b2i z3.1)<=(b2i 90)) then
       ar N N.n z3.1 z3.2.1 true z3.2.2.1 z3.2.2.2.1 z3.2.2.2.2.1 z3.2.2.2.2.2.1 z3.2.2.2.2.2.2
      else
       bif decide ((b2i z3.1)>=(b2i 48)) then
        ar N N.n z3.1 z3.2.1 (decide ((b2i z3.1)<=(b2i 57))) z3.2.2.1 z3.2.2.2.1 z3.2.2.2.2.1 z3.2.2.2.2.2.1 z3.2.2.2.2.2.2
       else
        ar N N.n z3.1 z3.2.1 false z3.2.2.1 z3.2.2.2.1 z3.2.2.2.2.1 z3.2.2.2.2.2.1 z3.2.2.2.2.2.2
     else
      bif decide ((b2i z3.1)>=(b2i 48)) then
       ar N N.n z3.1 z3.2.1 (decide ((b2i z3.1)<=(b2i 57))) z3.2.2.1 z3.2.2.2.1 z3.2.2.2.2.1 z3.2.2.2.2.2.1 z3.2.2.2.2.2.2
      else
       ar N N.n z3.1 z3.2.1 false z3.2.2.1 z3.2.2.2.1 z3.2.2.2.2.1 z3.2.2.2.2.2.1 z3.2.2.2.2.2.2
  else
   bif (b2i z1)==(b2i 91) then
    (dD N.n y0_0 (w64 (y0_1+1)) y0_2 y0_3 y1).bind fun z4=>
    match z4 with
    |.pan vz4=>some (.pan vz4)
    |.ok z5=>
     (aq N.n ({ kind:=0,a:=0,b:=0,set_:=z5.1 }:Vstep) z5.2.1 z5.2.2.1 z5.2.2.2.1 z5.2.2.2.2.1 z5.2.2.2.2.2).bind fun z6=>
     match z6 with
     |.pan vz6=>some (.pan vz6)
     |.ok z7=>some (.ok (false,z7.2.1,z7.2.2.1,z7.2.2.2.1,z7.2.2.2.2.1,z7.2.2.2.2.2))
   else
    bif (b2i z1)==(b2i 40) then
     bif y0_2==9 then
      (aY N.n 2 y0_1 y0_0 y0_1 y0_2 y0_3 y1).bind fun z8=>
      match z8 with
      |.pan vz8=>some (.pan vz8)
      |.ok z9=>dg N N.n z9.1 z9.2.1 z9.2.2.1 z9.2.2.2.1 z9.2.2.2.2
     else
      dg N N.n y0_0 y0_1 y0_2 y0_3 y1
    else
     (da N.n ([42,43,63,41,124,93] :List UInt8) z1).bind fun z10=>
     bif decide (z10>=0) then
      (aY N.n 1 y0_1 y0_0 y0_1 y0_2 y0_3 y1).bind fun z11=>
      match z11 with
      |.pan vz11=>some (.pan vz11)
      |.ok z12=>dr N N.n z1 z12.1 z12.2.1 z12.2.2.1 z12.2.2.2.1 z12.2.2.2.2
     else
      dr N N.n z1 y0_0 y0_1 y0_2 y0_3 y1
abbrev aG:=Bool × (List UInt8) × Int × Int × Nat × (List Vstep)
def bo(N:RecC)(n:Nat)(x3:Int)(x6:UInt8)(Zj:List UInt8)(Zg:Int)(Zi:Int)(Ze:Nat)(Zh:List Vstep):Option (PR aG):=
 (cz N.n x3 Zj (w64 (Zg+1)) Zi Ze Zh).bind fun z8=>
 match z8 with
 |.pan vz8=>some (.pan vz8)
 |.ok z9=>
  bif (b2i x6)==(b2i 42) then
   (aq N.n ({ kind:=1,a:=0,b:=0,set_:=(none:Option (List Bool)) }:Vstep) z9.2.1 z9.2.2.1 z9.2.2.2.1 z9.2.2.2.2.1 z9.2.2.2.2.2).bind fun z10=>
   match z10 with
   |.pan vz10=>some (.pan vz10)
   |.ok z11=>
    (cf z11.2.2.2.2.1 z11.1).bind fun z12=>
    (z11.2.2.2.2.2[z12]?).bind fun z13=>
    (bq N.n z9.1 x3 z11.2.1 z11.2.2.1 z11.2.2.2.1 z11.2.2.2.2.1 (List.set z11.2.2.2.2.2 z12 ({ kind:=z13.kind,a:=(z11.2.2.2.2.1:Int),b:=z13.b,set_:=z13.set_ }:Vstep))).bind fun z14=>
    match z14 with
    |.pan vz14=>some (.pan vz14)
    |.ok z15=>
     (aq N.n ({ kind:=2,a:=z11.1,b:=0,set_:=(none:Option (List Bool)) }:Vstep) z15.1 z15.2.1 z15.2.2.1 z15.2.2.2.1 z15.2.2.2.2).bind fun z16=>
     match z16 with
     |.pan vz16=>some (.pan vz16)
     |.ok z17=>
      (cf z17.2.2.2.2.1 z11.1).bind fun z18=>
      (z17.2.2.2.2.2[z18]?).bind fun z19=>
      some (.ok (true,z17.2.1,z17.2.2.1,z17.2.2.2.1,z17.2.2.2.2.1,List.set z17.2.2.2.2.2 z18 ({ kind:=z19.kind,a:=z19.a,b:=(z17.2.2.2.2.1:Int),set_:=z19.set_ }:Vstep)))
  else
   bif (b2i x6)==(b2i 43) then
    (bq N.n z9.1 x3 z9.2.1 z9.2.2.1 z9.2.2.2.1 z9.2.2.2.2.1 z9.2.2.2.2.2).bind fun z20=>
    match z20 with
    |.pan vz20=>some (.pan vz20)
    |.ok z21=>
     (aq N.n ({ kind:=1,a:=x3,b:=0,set_:=(none:Option (List Bool)) }:Vstep) z21.1 z21.2.1 z21.2.2.1 z21.2.2.2.1 z21.2.2.2.2).bind fun z22=>
     match z22 with
     |.pan vz22=>some (.pan vz22)
     |.ok z23=>
      (cf z23.2.2.2.2.1 z23.1).bind fun z24=>
      (z23.2.2.2.2.2[z24]?).bind fun z25=>
      some (.ok (false,z23.2.1,z23.2.2.1,z23.2.2.2.1,z23.2.2.2.2.1,List.set z23.2.2.2.2.2 z24 ({ kind:=z25.kind,a:=z25.a,b:=(z23.2.2.2.2.1:Int),set_:=z25.set_ }:Vstep)))
   else
    (aq N.n ({ kind:=1,a:=0,b:=0,set_:=(none:Option (List Bool)) }:Vstep) z9.2.1 z9.2.2.1 z9.2.2.2.1 z9.2.2.2.2.1 z9.2.2.2.2.2).bind fun z26=>
    match z26 with
    |.pan vz26=>some (.pan vz26)
    |.ok z27=>
     (cf z27.2.2.2.2.1 z27.1).bind fun z28=>
     (z27.2.2.2.2.2[z28]?).bind fun z29=>
     (bq N.n z9.1 x3 z27.2.1 z27.2.2.1 z27.2.2.2.1 z27.2.2.2.2.1 (List.set z27.2.2.2.2.2 z28 ({ kind:=z29.kind,a:=(z27.2.2.2.2.1:Int),b:=z29.b,set_:=z29.set_ }:Vstep))).bind fun z30=>
     match z30 with
     |.pan vz30=>some (.pan vz30)
     |.ok z31=>
      (cf z31.2.2.2.1 z27.1).bind fun z32=>
      (z31.2.2.2.2[z32]?).bind fun z33=>
      some (.ok (true,z31.1,z31.2.1,z31.2.2.1,z31.2.2.2.1,List.set z31.2.2.2.2 z32 ({ kind:=z33.kind,a:=z33.a,b:=(z31.2.2.2.1:Int),set_:=z33.set_ }:Vstep)))
def be(N:RecC)(n:Nat)(x3:Int)(x4:Bool)(x5:Bool)(x6:UInt8)(Zj:List UInt8)(Zg:Int)(Zi:Int)(Ze:Nat)(Zh:List Vstep):Option (PR aG):=
 bif x5 then
  bif x4 then
   bif (b2i x6) != (b2i 63) then
    (aY N.n 4 Zg Zj Zg Zi Ze Zh).bind fun z6=>
    match z6 with
    |.pan vz6=>some (.pan vz6)
    |.ok z7=>bo N n x3 x6 z7.1 z7.2.1 z7.2.2.1 z7.2.2.2.1 z7.2.2.2.2
   else
    bo N n x3 x6 Zj Zg Zi Ze Zh
  else
   bo N n x3 x6 Zj Zg Zi Ze Zh
 else
  bo N n x3 x6 Zj Zg Zi Ze Zh
def dp(N:RecC)(y0_0:List UInt8)(y0_1:Int)(y0_2:Int)(y0_3:Nat)(y1:List Vstep):Option (PR aG):=
 (ci y0_0 y0_1).bind fun z1=>
 (bT N y0_0 y0_1 y0_2 y0_3 y1).bind fun z2=>
 match z2 with
 |.pan vz2=>some (.pan vz2)
 |.ok z3=>
  (aT N.n z3.2.1 z3.2.2.1 z3.2.2.2.1 z3.2.2.2.2.1 z3.2.2.2.2.2).bind fun z4=>
  match z4 with
  |.pan vz4=>some (.pan vz4)
  |.ok z5=>
   bif !z5.2.1 then
    some (.ok (z3.1,z5.2.2.1,z5.2.2.2.1,z5.2.2.2.2.1,z5.2.2.2.2.2.1,z5.2.2.2.2.2.2))
   else
    bif (b2i z5.1) != (b2i 42) then
     bif (b2i z5.1) != (b2i 43) then
      bif (b2i z5.1) != (b2i 63) then
       some (.ok (z3.1,z5.2.2.1,z5.2.2.2.1,z5.2.2.2.2.1,z5.2.2.2.2.2.1,z5.2.2.2.2.2.2))
      else
       be N N.n (y0_3:Int) ((b2i z1)==(b2i 40)) z3.1 z5.1 z5.2.2.1 z5.2.2.2.1 z5.2.2.2.2.1 z5.2.2.2.2.2.1 z5.2.2.2.2.2.2
     else
      be N N.n (y0_3:Int) ((b2i z1)==(b2i 40)) z3.1 z5.1 z5.2.2.1 z5.2.2.2.1 z5.2.2.2.2.1 z5.2.2.2.2.2.1 z5.2.2.2.2.2.2
    else
     be N N.n (y0_3:Int) ((b2i z1)==(b2i 40)) z3.1 z5.1 z5.2.2.1 z5.2.2.2.1 z5.2.2.2.2.1 z5.2.2.2.2.2.1 z5.2.2.2.2.2.2
abbrev bm:=Bool × (List UInt8) × Int × Int × Nat × (List Vstep)
def bH(N:RecC):Nat->Bool->(List UInt8)->Int->Int->Nat->(List Vstep)->Option (PR bm)
 |0,_,_,_,_,_,_=>none
 |n+1,x3,Zj,Zg,Zi,Ze,Zh=>
  (aT N.n Zj Zg Zi Ze Zh).bind fun z1=>
  match z1 with
  |.pan vz1=>some (.pan vz1)
  |.ok z2=>
   bif !z2.2.1 then
    some (.ok (x3,z2.2.2.1,z2.2.2.2.1,z2.2.2.2.2.1,z2.2.2.2.2.2.1,z2.2.2.2.2.2.2))
   else
    bif (b2i z2.1)==(b2i 124) then
     some (.ok (x3,z2.2.2.1,z2.2.2.2.1,z2.2.2.2.2.1,z2.2.2.2.2.2.1,z2.2.2.2.2.2.2))
    else
     bif (b2i z2.1)==(b2i 41) then
      some (.ok (x3,z2.2.2.1,z2.2.2.2.1,z2.2.2.2.2.1,z2.2.2.2.2.2.1,z2.2.2.2.2.2.2))
     else
      (dp N z2.2.2.1 z2.2.2.2.1 z2.2.2.2.2.1 z2.2.2.2.2.2.1 z2.2.2.2.2.2.2).bind fun z3=>
      match z3 with
      |.pan vz3=>some (.pan vz3)
      |.ok z4=>
       bif !z4.1 then
        bH N n false z4.2.1 z4.2.2.1 z4.2.2.2.1 z4.2.2.2.2.1 z4.2.2.2.2.2
       else
        bH N n x3 z4.2.1 z4.2.2.1 z4.2.2.2.1 z4.2.2.2.2.1 z4.2.2.2.2.2
def ea(N:RecC)(y0_0:List UInt8)(y0_1:Int)(y0_2:Int)(y0_3:Nat)(y1:List Vstep):Option (PR bm):=
 bH N N.n true y0_0 y0_1 y0_2 y0_3 y1
abbrev cm:=Bool × (List UInt8) × Int × Int × Nat × (List Vstep)
def dP(N:RecC)(y0_0:List UInt8)(y0_1:Int)(y0_2:Int)(y0_3:Nat)(y1:List Vstep):Option (PR cm):=
 (dY N y0_0 y0_1 y0_2 y0_3 y1).bind fun z1=>
 match z1 with
 |.pan vz1=>some (.pan vz1)
 |.ok z2=>some (.ok (z2.1,z2.2.1,z2.2.2.1,z2.2.2.2.1,z2.2.2.2.2.1,z2.2.2.2.2.2))
abbrev az:=Bool × (List UInt8) × Int × Int × Nat × (List Vstep)
def cK(N:RecC)(k3:Int->Bool->(List UInt8)->Int->Int->Nat->(List Vstep)->Option (PR az))(n:Nat)(x4:Bool)(x7:Int)(Zj:List UInt8)(Zg:Int)(Zi:Int)(Ze:Nat)(Zh:List Vstep):Option (PR az):=
 (cf Ze x7).bind fun z19=>
 (Zh[z19]?).bind fun z20=>
 some (.ok (x4,Zj,Zg,Zi,Ze,List.set Zh z19 ({ kind:=z20.kind,a:=(Ze:Int),b:=z20.b,set_:=z20.set_ }:Vstep)))
def bk(N:RecC):Nat->Int->Bool->(List UInt8)->Int->Int->Nat->(List Vstep)->Option (PR az)
 |0,_,_,_,_,_,_,_=>none
 |n+1,x3,x4,Zj,Zg,Zi,Ze,Zh=>
  (bj N.n 124 Zj Zg Zi Ze Zh).bind fun z3=>
  match z3 with
  |.pan vz3=>some (.pan vz3)
  |.ok z4=>
   bif z4.1 then
    (cz N.n x3 z4.2.1 z4.2.2.1 z4.2.2.2.1 z4.2.2.2.2.1 z4.2.2.2.2.2).bind fun z5=>
    match z5 with
    |.pan vz5=>some (.pan vz5)
    |.ok z6=>
     (aq N.n ({ kind:=1,a:=0,b:=0,set_:=(none:Option (List Bool)) }:Vstep) z6.2.1 z6.2.2.1 z6.2.2.2.1 z6.2.2.2.2.1 z6.2.2.2.2.2).bind fun z7=>
     match z7 with
     |.pan vz7=>some (.pan vz7)
     |.ok z8=>
      (cf z8.2.2.2.2.1 z8.1).bind fun z9=>
      (z8.2.2.2.2.2[z9]?).bind fun z10=>
      (bq N.n z6.1 x3 z8.2.1 z8.2.2.1 z8.2.2.2.1 z8.2.2.2.2.1 (List.set z8.2.2.2.2.2 z9 ({ kind:=z10.kind,a:=(z8.2.2.2.2.1:Int),b:=z10.b,set_:=z10.set_ }:Vstep))).bind fun z11=>
      match z11 with
      |.pan vz11=>some (.pan vz11)
      |.ok z12=>
       (aq N.n ({ kind:=2,a:=0,b:=0,set_:=(none:Option (List Bool)) }:Vstep) z12.1 z12.2.1 z12.2.2.1 z12.2.2.2.1 z12.2.2.2.2).bind fun z13=>
       match z13 with
       |.pan vz13=>some (.pan vz13)
       |.ok z14=>
        (cf z14.2.2.2.2.1 z8.1).bind fun z15=>
        (z14.2.2.2.2.2[z15]?).bind fun z16=>
        (dP N z14.2.1 z14.2.2.1 z14.2.2.2.1 z14.2.2.2.2.1 (List.set z14.2.2.2.2.2 z15 ({ kind:=z16.kind,a:=z16.a,b:=(z14.2.2.2.2.1:Int),set_:=z16.set_ }:Vstep))).bind fun z17=>
        match z17 with
        |.pan vz17=>some (.pan vz17)
        |.ok z18=>
         bif z18.1 then
          cK N (bk N n) n true z14.1 z18.2.1 z18.2.2.1 z18.2.2.2.1 z18.2.2.2.2.1 z18.2.2.2.2.2
         else
          cK N (bk N n) n x4 z14.1 z18.2.1 z18.2.2.1 z18.2.2.2.1 z18.2.2.2.2.1 z18.2.2.2.2.2
   else
    some (.ok (x4,z4.2.1,z4.2.2.1,z4.2.2.2.1,z4.2.2.2.2.1,z4.2.2.2.2.2))
def dw(N:RecC)(y0_0:List UInt8)(y0_1:Int)(y0_2:Int)(y0_3:Nat)(y1:List Vstep):Option (PR az):=
 (ea N y0_0 y0_1 y0_2 y0_3 y1).bind fun z1=>
 match z1 with
 |.pan vz1=>some (.pan vz1)
 |.ok z2=>bk N N.n (y0_3:Int) z2.1 z2.2.1 z2.2.2.1 z2.2.2.2.1 z2.2.2.2.2.1 z2.2.2.2.2.2
def bp(n0:Nat):Nat->(List UInt8)->Int->Int->Nat->(List Vstep)->Option (PR (Bool × (List UInt8) × Int × Int × Nat × (List Vstep)))
 |0,_,_,_,_,_=>none
 |m+1,y0_0,y0_1,y0_2,y0_3,y1=>dw ⟨n0,bp n0 m⟩ y0_0 y0_1 y0_2 y0_3 y1
abbrev aL:=(List (List UInt8)) × VMask
def cw(N:Nat)(k3:(List UInt8)->(List Int)->(List (List UInt8))->Int->VMask->Option aL)(n:Nat)(x1:List UInt8)(x2:List Int)(x7:List (List UInt8))(x8:Int)(x9:List UInt8)(Zf:VMask):Option aL:=
 (ie 16 x7 ([x9] :List (List UInt8))).bind fun z7=>
 k3 x1 x2 z7 (w64 (x8+1)) Zf
def bn(N:Nat):Nat->(List UInt8)->(List Int)->(List (List UInt8))->Int->VMask->Option aL
 |0,_,_,_,_,_=>none
 |n+1,x1,x2,x7,x8,Zf=>
  bif decide (x8<=Zf.Groups) then
   (ci x2 (w64 (2 * x8))).bind fun z1=>
   bif decide (z1>=0) then
    (ci x2 (w64 ((w64 (2 * x8))+1))).bind fun z2=>
    (ci x2 (w64 (2 * x8))).bind fun z3=>
    bif decide (z2>=z3) then
     (ci x2 (w64 (2 * x8))).bind fun z4=>
     (ci x2 (w64 ((w64 (2 * x8))+1))).bind fun z5=>
     (mI x1 z4 z5).bind fun z6=>
     cw N (bn N n) n x1 x2 x7 x8 z6 Zf
    else
     cw N (bn N n) n x1 x2 x7 x8 ([] :List UInt8) Zf
   else
    cw N (bn N n) n x1 x2 x7 x8 ([] :List UInt8) Zf
  else
   some (x7,Zf)
def ey(N:Nat)(x1:List UInt8)(x2:List Int)(y0:VMask):Option aL:=
 bn N N x1 x2 ([] :List (List UInt8)) 1 y0
def gO(N:Nat)(x0:UInt8):Option Bool:=
 bif decide ((b2i x0)>=(b2i 48)) then
  some (decide ((b2i x0)<=(b2i 57)))
 else
  some false
abbrev dE:=(List Vpiece) × Bool
def dC(N:Nat):Nat->(List UInt8)->(List Vpiece)->Option dE
 |0,_,_=>none
 |n+1,x0,x4=>
  bif !decide (x0=([] :List UInt8)) then
   (ci x0 0).bind fun z1=>
   bif (b2i z1) != (b2i 36) then
    (TI x0 ([36] :List UInt8)).bind fun z2=>
    (da N z2 36).bind fun z3=>
    (mI x0 0 z3).bind fun z4=>
    (ie 24 x4 ([({ text:=z4,group:=(-1) }:Vpiece)] :List Vpiece)).bind fun z5=>
    (mI x0 z3 (x0.length:Int)).bind fun z6=>
    dC N n z6 z5
   else
    (mI x0 1 (x0.length:Int)).bind fun z7=>
    bif decide (z7=([] :List UInt8)) then
     some (([] :List Vpiece),false)
    else
     (ci z7 0).bind fun z8=>
     bif (b2i z8)==(b2i 36) then
      (ie 24 x4 ([({ text:=([36] :List UInt8),group:=(-1) }:Vpiece)] :List Vpiece)).bind fun z9=>
      (mI z7 1 (z7.length:Int)).bind fun z10=>
      dC N n z10 z9
     else
      (ci z7 0).bind fun z11=>
      (gO N z11).bind fun z12=>
      bif z12 then
       (ci z7 0).bind fun z13=>
       (ie 24 x4 ([({ text:=([] :List UInt8),group:=w64 (b2i (toB (IntKind.wrap .u8 ((b2i z13) - (b2i 48))))) }:Vpiece)] :List Vpiece)).bind fun z14=>
       (mI z7 1 (z7.length:Int)).bind fun z15=>
       dC N n z15 z14
      else
       bif decide ((z7.length:Int) > 2) then
        (ci z7 0).bind fun z16=>
        bif (b2i z16)==(b2i 123) then
         (ci z7 1).bind fun z17=>
         (gO N z17).bind fun z18=>
         bif z18 then
          (ci z7 2).bind fun z19=>
          bif (b2i z19)==(b2i 125) then
           (ci z7 1).bind fun z20=>
           (ie 24 x4 ([({ text:=([] :List UInt8),group:=w64 (b2i (toB (IntKind.wrap .u8 ((b2i z20) - (b2i 48))))) }:Vpiece)] :List Vpiece)).bind fun z21=>
           (mI z7 3 (z7.length:Int)).bind fun z22=>
           dC N n z22 z21
          else
           some (([] :List Vpiece),false)
         else
          some (([] :List Vpiece),false)
        else
         some (([] :List Vpiece),false)
       else
        some (([] :List Vpiece),false)
  else
   some (x4,true)
def kR(N:Nat)(x0:List UInt8):Option dE:=
 dC N N x0 ([] :List Vpiece)
structure RecC2 where
 n:Nat
 k:Nat->Vthread->Int->VMask->(List Vthread)->(List (Int × Bool))->Option (PR (Nat × VMask × (List Vthread) × (List (Int × Bool))))
def dF(N:RecC2)(x1_n:Nat)(x3:Vthread)(x4:Int)(y0:VMask)(y1:List Vthread)(y2:List (Int × Bool)):Option (PR (Nat × VMask × (List Vthread) × (List (Int × Bool)))):=N.k x1_n x3 x4 y0 y1 y2
abbrev bX:=Nat × VMask × (List Vthread) × (List (Int × Bool))
def fi(N:RecC2)(n:Nat)(x1_n:Nat)(x4:Int)(b8:Vthread)(b11:Vstep)(Zf:VMask)(Zu:List (Int × Bool))(Zh:List Vthread):Option (PR bX):=
 bif b11.kind==2 then
  (dF N x1_n ({ at_:=b11.a,slots:=b8.slots }:Vthread) x4 Zf Zh Zu).bind fun z2=>
  match z2 with
  |.pan vz2=>some (.pan vz2)
  |.ok z3=>some (.ok (z3.1,z3.2.1,z3.2.2.1,z3.2.2.2))
 else
  bif b11.kind==1 then
   (dF N x1_n ({ at_:=b11.a,slots:=b8.slots }:Vthread) x4 Zf Zh Zu).bind fun z4=>
   match z4 with
   |.pan vz4=>some (.pan vz4)
   |.ok z5=>
    (dF N z5.1 ({ at_:=b11.b,slots:=b8.slots }:Vthread) x4 z5.2.1 z5.2.2.1 z5.2.2.2).bind fun z6=>
    match z6 with
    |.pan vz6=>some (.pan vz6)
    |.ok z7=>some (.ok (z7.1,z7.2.1,z7.2.2.1,z7.2.2.2))
  else
   bif b11.kind==3 then
    (iH N.n b8.slots).bind fun z8=>
    match z8 with
    |.pan vz8=>some (.pan vz8)
    |.ok z9=>
     (cf z9.1 b11.a).bind fun z10=>
     (z9.2[z10]?).bind fun z11=>
     (m9 z9.1 (List.set z9.2 z10 x4)).bind fun z12=>
     (dF N x1_n ({ at_:=w64 (b8.at_+1),slots:=z12 }:Vthread) x4 Zf Zh Zu).bind fun z13=>
     match z13 with
     |.pan vz13=>some (.pan vz13)
     |.ok z14=>some (.ok (z14.1,z14.2.1,z14.2.2.1,z14.2.2.2))
   else
    (lg 32 x1_n Zh ([b8] :List Vthread)).bind fun z15=>
    some (.ok (z15.length,Zf,z15,Zu))
def dW(N:RecC2)(x1_n:Nat)(x3:Vthread)(x4:Int)(y0:VMask)(y1:List Vthread)(y2:List (Int × Bool)):Option (PR bX):=
 bif (mL y2 x3.at_).getD false then
  some (.ok (x1_n,y0,y1,y2))
 else
  (ci y0.steps x3.at_).bind fun z1=>
  fi N N.n x1_n x4 x3 z1 y0 (mJ y2 x3.at_ true) y1
def b7(n0:Nat):Nat->Nat->Vthread->Int->VMask->(List Vthread)->(List (Int × Bool))->Option (PR (Nat × VMask × (List Vthread) × (List (Int × Bool))))
 |0,_,_,_,_,_,_=>none
 |m+1,x1_n,x3,x4,y0,y1,y2=>dW ⟨n0,b7 n0 m⟩ x1_n x3 x4 y0 y1 y2
def bY(N:Nat)(x1_n:Nat)(x3:Vthread)(x4:Int)(y0:VMask)(y1:List Vthread)(y2:List (Int × Bool)):Option (PR (Nat × VMask × (List Vthread) × (List (Int × Bool)))):=b7 N N x1_n x3 x4 y0 y1 y2
set_option maxRecDepth 100000
def fy(i0:Nat)(i1:Nat)(r:cu):TV EE.T:=.a (.d (.int .i64) r.1)
def xm(i0:Nat)(i1:Nat)(r:cu):List (Nat × TB EE.T):=[(i0,.cs [.d .str r.2.1,.d (.int .i64) r.2.2.1,.d (.int .i64) r.2.2.2.1,.vec (.nam 7) i1 r.2.2.2.2.1]),(i1,.vec i1 (.nam 7) r.2.2.2.2.2)]
def uV(r:PR cu):RL EE.T:=mM (fy 100000 200001) (xm 100000 200001) r
def Sn:Lvs:=⟨[(1,⟨[(0,false),(3,false)],[],[(3,(some 7,[])),(100000,(none,[])),(200001,(none,[]))],[]⟩)],[],[],[],false,[(100000,(none,[]))],[100000,200001],[],[(12,200001)]⟩
def TH:List ResultVar:=[.tmp 4]
def P7(N:Nat):Gam EE:=⟨[],EQT,[],[]⟩
def QZ(N:Nat):GOk Try.prog TT EE (P7 N):=GOk.nil cQ
def Og(c:Code):List It2:=[.c c]
def NL(x1:Vstep)(y0_0:List UInt8)(y0_1:Int)(y0_2:Int)(y0_3:Nat)(y1:List Vstep):TS EE.T:=⟨21,[(0,.a (.box 100000 0)),(1,.ag (cL EE (.nam 7) x1))],[(100000,.cs [.d .str y0_0,.d (.int .i64) y0_1,.d (.int .i64) y0_2,.vec (.nam 7) 200001 y0_3]),(200001,.vec 200001 (.nam 7) y1)],[]⟩
abbrev SM(N:Nat)(r:PR cu)(k:List It2)(s:TS EE.T):Prop:=fL (Y:=TT) EE (P7 N) Sn TH (fun u=>u=uV r) k s
def Um(x:PR cu):Tree (Lf EE.T × Option (PR cu)):=.leaf (.done (uV x),some x)
def M1{N:Nat}{r:PR cu}(x1:Vstep)(y0_0:List UInt8)(y0_1:Int)(y0_2:Int)(y0_3:Nat)(y1:List Vstep)(h:aq N x1 y0_0 y0_1 y0_2 y0_3 y1=some r):SM N r (Og (aa 0 Try.f36)) (NL x1 y0_0 y0_1 y0_2 y0_3 y1):=
 au (m:=4000) (t:=
 .bnd (lg 32 y0_3 y1 ([x1] :List Vstep)) fun z1=>
 Um (.ok (w64 ((z1.length:Int) - 1),y0_0,y0_1,y0_2,z1.length,z1))) (by kernel_rfl) (by kernel_rfl) h (fun _=>aE (enc:=uV) rfl)
def Ko(x1:Vstep)(y0_0:List UInt8)(y0_1:Int)(y0_2:Int)(y0_3:Nat)(y1:List Vstep):List (TV EE.T):=[.a (.box 100000 0),.ag (cL EE (.nam 7) x1)]
def DR(x1:Vstep)(y0_0:List UInt8)(y0_1:Int)(y0_2:Int)(y0_3:Nat)(y1:List Vstep):List (Nat × TB EE.T):=[(100000,.cs [.d .str y0_0,.d (.int .i64) y0_1,.d (.int .i64) y0_2,.vec (.nam 7) 200001 y0_3]),(200001,.vec 200001 (.nam 7) y1)]
def jy{N:Nat}(x1:Vstep)(y0_0:List UInt8)(y0_1:Int)(y0_2:Int)(y0_3:Nat)(y1:List Vstep){r:PR cu}(h:aq N x1 y0_0 y0_1 y0_2 y0_3 y1=some r)(I:Rn)(hi:Inj I (DR x1 y0_0 y0_1 y0_2 y0_3 y1)):aI Try.prog 36 ((Ko x1 y0_0 y0_1 y0_2 y0_3 y1).map (TV.to EE.toEnc I)) (hTo EE.toEnc I (DR x1 y0_0 y0_1 y0_2 y0_3 y1)) (cH EE I fun u=>u=uV r):=
 dI (aa 0 Try.f36) 21 mixed (QZ N) Try.func36 (by kernel_rfl) rfl rfl rfl rfl (M1 x1 y0_0 y0_1 y0_2 y0_3 y1 h) I hi
def eo(N:Nat)(us:List (TV EE.T))(hs:List (Nat × TB EE.T)):XR EE.T:=
 gdX (d7 us 2) <|
 bnX (aB us 0) fun i0=>
 bnX (aS EE 7 us 1) fun x1=>
 bnX (bC hs i0) fun l0=>
 gdX (d7 l0 4) <|
 bnX (cD .str l0 0) fun y0_0=>
 bnX (cD (.int .i64) l0 1) fun y0_1=>
 bnX (cD (.int .i64) l0 2) fun y0_2=>
 bnX (cVi (.nam 7) l0 3) fun i1=>
 bnX (cVn (.nam 7) l0 3) fun y0_3=>
 bnX (bV (.nam 7) hs i1) fun y1=>
 gdX (bx hs [i0,i1]) <|
 gdX (ip [i0,i1]) <|
 .mv (aq N x1 y0_0 y0_1 y0_2 y0_3 y1) [i0,i1] (mvL [i0,i1] [100000,200001]) 0 (fy i0 i1) (xm i0 i1)
def eT(N:Nat):XOk Try.prog EE 36 (eo N):=fun us hs=>
 ay fun h1=>ab fun i0 h2=>ab fun x1 h3=>ab fun l0 h4=>ay fun h5=>ab fun y0_0 h6=>ab fun y0_1 h7=>ab fun y0_2 h8=>ab fun i1 h9=>ab fun y0_3 h10=>ab fun y1 h11=>ay fun h12=>ay fun h13=>fun p hz I hi=>gh (ex:=[]) (ks:=[100000,200001]) (us':=Ko x1 y0_0 y0_1 y0_2 y0_3 y1) (h0:=DR x1 y0_0 y0_1 y0_2 y0_3 y1) (ρ':=jh I [i0,i1]) (uc:=fy 100000 200001) (u:=fy i0 i1) (hc:=xm 100000 200001) (h:=xm i0 i1) hi h12 (by kernel_rfl) ⟨gG h2 (by kernel_rfl),Bq h3,bA h1⟩ ⟨(by kernel_rfl),jD h4 ⟨ei h6,ei h7,ei h8,gi h9 h10 (by kernel_rfl),bA h5⟩,(by kernel_rfl),iw h11 (by kernel_rfl),trivial⟩ ⟨.inr rfl,.inl rfl,trivial⟩ h13 (fun hj=>jy x1 y0_0 y0_1 y0_2 y0_3 y1 hz _ hj) (fun z=>⟨by kernel_rfl,by kernel_rfl,by kernel_rfl,by kernel_rfl⟩)
def fc(i0:Nat)(i1:Nat)(r:co):TV EE.T:=.tu [.a (.d .byte r.1),.a (.d .bool r.2.1)]
def xa(i0:Nat)(i1:Nat)(r:co):List (Nat × TB EE.T):=[(i0,.cs [.d .str r.2.2.1,.d (.int .i64) r.2.2.2.1,.d (.int .i64) r.2.2.2.2.1,.vec (.nam 7) i1 r.2.2.2.2.2.1]),(i1,.vec i1 (.nam 7) r.2.2.2.2.2.2)]
def qN(r:PR co):RL EE.T:=mM (fc 100000 200001) (xa 100000 200001) r
def Ss:Lvs:=⟨[(1,⟨[(0,false)],[],[(100000,(none,[])),(200001,(none,[]))],[]⟩),(2,⟨[(0,false)],[],[(100000,(none,[])),(200001,(none,[]))],[]⟩)],[],[],[],false,[(100000,(none,[]))],[100000,200001],[],[]⟩
def R5:List ResultVar:=[.tmp 2,.tmp 3]
def LV(N:Nat):Gam EE:=⟨[],EQT,[],[]⟩
def Qf(N:Nat):GOk Try.prog TT EE (LV N):=GOk.nil cQ
def Nu(c:Code):List It2:=[.c c]
def NP(y0_0:List UInt8)(y0_1:Int)(y0_2:Int)(y0_3:Nat)(y1:List Vstep):TS EE.T:=⟨23,[(0,.a (.box 100000 0))],[(100000,.cs [.d .str y0_0,.d (.int .i64) y0_1,.d (.int .i64) y0_2,.vec (.nam 7) 200001 y0_3]),(200001,.vec 200001 (.nam 7) y1)],[]⟩
abbrev Td(N:Nat)(r:PR co)(k:List It2)(s:TS EE.T):Prop:=fL (Y:=TT) EE (LV N) Ss R5 (fun u=>u=qN r) k s
def II(x:PR co):Tree (Lf EE.T × Option (PR co)):=.leaf (.done (qN x),some x)
def Rc{N:Nat}{r:PR co}(y0_0:List UInt8)(y0_1:Int)(y0_2:Int)(y0_3:Nat)(y1:List Vstep)(h:aT N y0_0 y0_1 y0_2 y0_3 y1=some r):Td N r (Nu (aa 0 Try.f61)) (NP y0_0 y0_1 y0_2 y0_3 y1):=
 au (m:=4000) (t:=
 .cond (decide (y0_1 < (y0_0.length:Int)))
 (
  .bnd (ci y0_0 y0_1) fun z1=>
  II (.ok (z1,true,y0_0,y0_1,y0_2,y0_3,y1)))
 (
  II (.ok (0,false,y0_0,y0_1,y0_2,y0_3,y1)))) (by kernel_rfl) (by kernel_rfl) h (⟨fun _=>aE (enc:=qN) rfl,aE (enc:=qN) rfl⟩)
def JC(y0_0:List UInt8)(y0_1:Int)(y0_2:Int)(y0_3:Nat)(y1:List Vstep):List (TV EE.T):=[.a (.box 100000 0)]
def DO(y0_0:List UInt8)(y0_1:Int)(y0_2:Int)(y0_3:Nat)(y1:List Vstep):List (Nat × TB EE.T):=[(100000,.cs [.d .str y0_0,.d (.int .i64) y0_1,.d (.int .i64) y0_2,.vec (.nam 7) 200001 y0_3]),(200001,.vec 200001 (.nam 7) y1)]
def nA{N:Nat}(y0_0:List UInt8)(y0_1:Int)(y0_2:Int)(y0_3:Nat)(y1:List Vstep){r:PR co}(h:aT N y0_0 y0_1 y0_2 y0_3 y1=some r)(I:Rn)(hi:Inj I (DO y0_0 y0_1 y0_2 y0_3 y1)):aI Try.prog 61 ((JC y0_0 y0_1 y0_2 y0_3 y1).map (TV.to EE.toEnc I)) (hTo EE.toEnc I (DO y0_0 y0_1 y0_2 y0_3 y1)) (cH EE I fun u=>u=qN r):=
 dI (aa 0 Try.f61) 23 mixed (Qf N) Try.func61 (by kernel_rfl) rfl rfl rfl rfl (Rc y0_0 y0_1 y0_2 y0_3 y1 h) I hi
def dB(N:Nat)(us:List (TV EE.T))(hs:List (Nat × TB EE.T)):XR EE.T:=
 gdX (d7 us 1) <|
 bnX (aB us 0) fun i0=>
 bnX (bC hs i0) fun l0=>
 gdX (d7 l0 4) <|
 bnX (cD .str l0 0) fun y0_0=>
 bnX (cD (.int .i64) l0 1) fun y0_1=>
 bnX (cD (.int .i64) l0 2) fun y0_2=>
 bnX (cVi (.nam 7) l0 3) fun i1=>
 bnX (cVn (.nam 7) l0 3) fun y0_3=>
 bnX (bV (.nam 7) hs i1) fun y1=>
 gdX (bx hs [i0,i1]) <|
 gdX (ip [i0,i1]) <|
 .mv (aT N y0_0 y0_1 y0_2 y0_3 y1) [i0,i1] (mvL [i0,i1] [100000,200001]) 0 (fc i0 i1) (xa i0 i1)
def dK(N:Nat):XOk Try.prog EE 61 (dB N):=fun us hs=>
 ay fun h1=>ab fun i0 h2=>ab fun l0 h3=>ay fun h4=>ab fun y0_0 h5=>ab fun y0_1 h6=>ab fun y0_2 h7=>ab fun i1 h8=>ab fun y0_3 h9=>ab fun y1 h10=>ay fun h11=>ay fun h12=>fun p hz I hi=>gh (ex:=[]) (ks:=[100000,200001]) (us':=JC y0_0 y0_1 y0_2 y0_3 y1) (h0:=DO y0_0 y0_1 y0_2 y0_3 y1) (ρ':=jh I [i0,i1]) (uc:=fc 100000 200001) (u:=fc i0 i1) (hc:=xa 100000 200001) (h:=xa i0 i1) hi h11 (by kernel_rfl) ⟨gG h2 (by kernel_rfl),bA h1⟩ ⟨(by kernel_rfl),jD h3 ⟨ei h5,ei h6,ei h7,gi h8 h9 (by kernel_rfl),bA h4⟩,(by kernel_rfl),iw h10 (by kernel_rfl),trivial⟩ ⟨.inr rfl,.inl rfl,trivial⟩ h12 (fun hj=>nA y0_0 y0_1 y0_2 y0_3 y1 hz _ hj) (fun z=>⟨by kernel_rfl,by kernel_rfl,by kernel_rfl,by kernel_rfl⟩)
def fh(i0:Nat)(i1:Nat)(r:cp):TV EE.T:=.tu []
def xI(i0:Nat)(i1:Nat)(r:cp):List (Nat × TB EE.T):=[(i0,.cs [.d .str r.1,.d (.int .i64) r.2.1,.d (.int .i64) r.2.2.1,.vec (.nam 7) i1 r.2.2.2.1]),(i1,.vec i1 (.nam 7) r.2.2.2.2)]
def tO(r:PR cp):RL EE.T:=mM (fh 100000 200001) (xI 100000 200001) r
def Uf:Lvs:=⟨[],[],[],[],false,[],[100000,200001],[],[]⟩
def Sj:List ResultVar:=[]
def Q7(N:Nat):Gam EE:=⟨[],EQT,[],[]⟩
def O5(N:Nat):GOk Try.prog TT EE (Q7 N):=GOk.nil cQ
def LT(c:Code):List It2:=[.c c]
def Ra(x1:Int)(x2:Int)(y0_0:List UInt8)(y0_1:Int)(y0_2:Int)(y0_3:Nat)(y1:List Vstep):TS EE.T:=⟨10,[(0,.a (.box 100000 0)),(1,.a (.d (.int .i64) x1)),(2,.a (.d (.int .i64) x2))],[(100000,.cs [.d .str y0_0,.d (.int .i64) y0_1,.d (.int .i64) y0_2,.vec (.nam 7) 200001 y0_3]),(200001,.vec 200001 (.nam 7) y1)],[]⟩
abbrev TJ(N:Nat)(r:PR cp)(k:List It2)(s:TS EE.T):Prop:=fL (Y:=TT) EE (Q7 N) Uf Sj (fun u=>u=tO r) k s
def UN(x:PR cp):Tree (Lf EE.T × Option (PR cp)):=.leaf (.done (tO x),some x)
def Qc{N:Nat}{r:PR cp}(x1:Int)(x2:Int)(y0_0:List UInt8)(y0_1:Int)(y0_2:Int)(y0_3:Nat)(y1:List Vstep)(h:aY N x1 x2 y0_0 y0_1 y0_2 y0_3 y1=some r):TJ N r (LT (aa 0 Try.f35)) (Ra x1 x2 y0_0 y0_1 y0_2 y0_3 y1):=
 au (m:=4000) (t:=
 UN (.pan (Value.iface 28 (.agg #[.int .i64 x1,.int .i64 x2])))) (by kernel_rfl) (by kernel_rfl) h (aE (enc:=tO) rfl)
def JK(x1:Int)(x2:Int)(y0_0:List UInt8)(y0_1:Int)(y0_2:Int)(y0_3:Nat)(y1:List Vstep):List (TV EE.T):=[.a (.box 100000 0),.a (.d (.int .i64) x1),.a (.d (.int .i64) x2)]
def Dy(x1:Int)(x2:Int)(y0_0:List UInt8)(y0_1:Int)(y0_2:Int)(y0_3:Nat)(y1:List Vstep):List (Nat × TB EE.T):=[(100000,.cs [.d .str y0_0,.d (.int .i64) y0_1,.d (.int .i64) y0_2,.vec (.nam 7) 200001 y0_3]),(200001,.vec 200001 (.nam 7) y1)]
def iW{N:Nat}(x1:Int)(x2:Int)(y0_0:List UInt8)(y0_1:Int)(y0_2:Int)(y0_3:Nat)(y1:List Vstep){r:PR cp}(h:aY N x1 x2 y0_0 y0_1 y0_2 y0_3 y1=some r)(I:Rn)(hi:Inj I (Dy x1 x2 y0_0 y0_1 y0_2 y0_3 y1)):aI Try.prog 35 ((JK x1 x2 y0_0 y0_1 y0_2 y0_3 y1).map (TV.to EE.toEnc I)) (hTo EE.toEnc I (Dy x1 x2 y0_0 y0_1 y0_2 y0_3 y1)) (cH EE I fun u=>u=tO r):=
 dI (aa 0 Try.f35) 10 mixed (O5 N) Try.func35 (by kernel_rfl) rfl rfl rfl rfl (Qc x1 x2 y0_0 y0_1 y0_2 y0_3 y1 h) I hi
def dX(N:Nat)(us:List (TV EE.T))(hs:List (Nat × TB EE.T)):XR EE.T:=
 gdX (d7 us 3) <|
 bnX (aB us 0) fun i0=>
 bnX (aD (.int .i64) us 1) fun x1=>
 bnX (aD (.int .i64) us 2) fun x2=>
 bnX (bC hs i0) fun l0=>
 gdX (d7 l0 4) <|
 bnX (cD .str l0 0) fun y0_0=>
 bnX (cD (.int .i64) l0 1) fun y0_1=>
 bnX (cD (.int .i64) l0 2) fun y0_2=>
 bnX (cVi (.nam 7) l0 3) fun i1=>
 bnX (cVn (.nam 7) l0 3) fun y0_3=>
 bnX (bV (.nam 7) hs i1) fun y1=>
 gdX (bx hs [i0,i1]) <|
 gdX (ip [i0,i1]) <|
 .mv (aY N x1 x2 y0_0 y0_1 y0_2 y0_3 y1) [i0,i1] (mvL [i0,i1] [100000,200001]) 0 (fh i0 i1) (xI i0 i1)
def eB(N:Nat):XOk Try.prog EE 35 (dX N):=fun us hs=>
 ay fun h1=>ab fun i0 h2=>ab fun x1 h3=>ab fun x2 h4=>ab fun l0 h5=>ay fun h6=>ab fun y0_0 h7=>ab fun y0_1 h8=>ab fun y0_2 h9=>ab fun i1 h10=>ab fun y0_3 h11=>ab fun y1 h12=>ay fun h13=>ay fun h14=>fun p hz I hi=>gh (ex:=[]) (ks:=[100000,200001]) (us':=JK x1 x2 y0_0 y0_1 y0_2 y0_3 y1) (h0:=Dy x1 x2 y0_0 y0_1 y0_2 y0_3 y1) (ρ':=jh I [i0,i1]) (uc:=fh 100000 200001) (u:=fh i0 i1) (hc:=xI 100000 200001) (h:=xI i0 i1) hi h13 (by kernel_rfl) ⟨gG h2 (by kernel_rfl),gB h3,gB h4,bA h1⟩ ⟨(by kernel_rfl),jD h5 ⟨ei h7,ei h8,ei h9,gi h10 h11 (by kernel_rfl),bA h6⟩,(by kernel_rfl),iw h12 (by kernel_rfl),trivial⟩ ⟨.inr rfl,.inl rfl,trivial⟩ h14 (fun hj=>iW x1 x2 y0_0 y0_1 y0_2 y0_3 y1 hz _ hj) (fun z=>⟨by kernel_rfl,by kernel_rfl,by kernel_rfl,by kernel_rfl⟩)
def tE(r:ig):TV EE.T:=.a (.d (.ptr (.bits 256)) r)
def Hy(r:ig):RL EE.T:=.ret (tE r) []
def XT:Lvs:=⟨[],[],[],[],false,[],[],[(3,[.cl 3 (.a 256) (.s 3)])],[]⟩
def Xz:List ResultVar:=[.tmp 2]
def Yl(N:Nat):Gam EE:=⟨[],EQT,[],[]⟩
def Wd(N:Nat):GOk Try.prog TT EE (Yl N):=GOk.nil cQ
def Wr(c:Code):List It2:=[.c c]
def V7(x0:UInt8):TS EE.T:=⟨6,[(0,.a (.d .byte x0))],[],[]⟩
abbrev XM(N:Nat)(r:ig)(k:List It2)(s:TS EE.T):Prop:=fL (Y:=TT) EE (Yl N) XT Xz (fun u=>u=Hy r) k s
def Xu(x:ig):Tree (Lf EE.T × Option ig):=.leaf (.done (Hy x),some x)
def WG{N:Nat}{r:ig}(x0:UInt8)(h:iE N x0=some r):XM N r (Wr (aa 0 Try.f68)) (V7 x0):=
 au (m:=4000) (t:=
 .bnd (cf 256 (b2i x0)) fun z1=>
 .bnd (ja (List.replicate 256 false) (0+z1) true) fun z2=>
 .bnd (m9 256 z2) fun z3=>
 Xu (some z3)) (by kernel_rfl) (by kernel_rfl) h (fun _=>fun _=>fun _=>aE (enc:=Hy) rfl)
def F6{N:Nat}(x0:UInt8){r:ig}(h:iE N x0=some r)(I:Rn):aI Try.prog 68 (([.a (.d .byte x0)] :List (TV EE.T)).map (TV.to EE.toEnc I)) [] (fun out H=>out=.ret ((tE r).to EE.toEnc I)/\H=[]):=
 (uF (aa 0 Try.f68) 6 mixed (Wd N) Try.func68 (by kernel_rfl) rfl rfl rfl rfl (WG x0 h) I).mono fun out H h=>cH.ret rfl h
def tH(N:Nat):List (TV EE.T)->PV EE.T
 | [u0] =>match nr .byte u0 with
   |some x0=>.opt (iE N x0) tE
   |_=>.bad
 |_=>.bad
def Dk(N:Nat)(us:List (TV EE.T)):(tH N us).ok fun u=>∀I,aI Try.prog 68 (us.map (TV.to EE.toEnc I)) [] (fun out H=>out=.ret (u.to EE.toEnc I)/\H=[]):=by
 unfold tH;split
 ·split
  ·rename_i h0;intro z hz I;refine gz ?_ (F6 _ hz I);exact⟨fB h0 I,trivial⟩
  ·trivial
 ·trivial
def fw(i0:Nat)(i1:Nat)(r:cv):TV EE.T:=.a (.d .bool r.1)
def xN(i0:Nat)(i1:Nat)(r:cv):List (Nat × TB EE.T):=[(i0,.cs [.d .str r.2.1,.d (.int .i64) r.2.2.1,.d (.int .i64) r.2.2.2.1,.vec (.nam 7) i1 r.2.2.2.2.1]),(i1,.vec i1 (.nam 7) r.2.2.2.2.2)]
def mi(r:PR cv):RL EE.T:=mM (fw 100000 200001) (xN 100000 200001) r
def Tp:Lvs:=⟨[],[],[],[],false,[(100000,(none,[]))],[100000,200001],[],[]⟩
def S4:List ResultVar:=[.tmp 4]
def Pa(N:Nat):Gam EE:=⟨[],EQT,[⟨61,dB N⟩],[]⟩
def MK(N:Nat):GOk Try.prog TT EE (Pa N):=GOk.consx (dK N) (GOk.nil cQ)
def Oq(c:Code):List It2:=[.c c]
def Q5(x1:UInt8)(y0_0:List UInt8)(y0_1:Int)(y0_2:Int)(y0_3:Nat)(y1:List Vstep):TS EE.T:=⟨25,[(0,.a (.box 100000 0)),(1,.a (.d .byte x1))],[(100000,.cs [.d .str y0_0,.d (.int .i64) y0_1,.d (.int .i64) y0_2,.vec (.nam 7) 200001 y0_3]),(200001,.vec 200001 (.nam 7) y1)],[]⟩
abbrev SD(N:Nat)(r:PR cv)(k:List It2)(s:TS EE.T):Prop:=fL (Y:=TT) EE (Pa N) Tp S4 (fun u=>u=mi r) k s
def xi(x:PR cv):Tree (Lf EE.T × Option (PR cv)):=.leaf (.done (mi x),some x)
def MF{N:Nat}{r:PR cv}(x1:UInt8)(y0_0:List UInt8)(y0_1:Int)(y0_2:Int)(y0_3:Nat)(y1:List Vstep)(h:bj N x1 y0_0 y0_1 y0_2 y0_3 y1=some r):SD N r (Oq (aa 0 Try.f50)) (Q5 x1 y0_0 y0_1 y0_2 y0_3 y1):=
 au (m:=4000) (t:=
 .bnd (aT N y0_0 y0_1 y0_2 y0_3 y1) fun z1=>
 .sm z1 (fun z2=>
  .cond (z2.2.1)
  (
   .cond ((b2i z2.1)==(b2i x1))
   (
    xi (.ok (true,z2.2.2.1,w64 (z2.2.2.2.1+1),z2.2.2.2.2.1,z2.2.2.2.2.2.1,z2.2.2.2.2.2.2)))
   (
    xi (.ok (false,z2.2.2.1,z2.2.2.2.1,z2.2.2.2.2.1,z2.2.2.2.2.2.1,z2.2.2.2.2.2.2))))
  (
   xi (.ok (false,z2.2.2.1,z2.2.2.2.1,z2.2.2.2.2.1,z2.2.2.2.2.2.1,z2.2.2.2.2.2.2)))) (fun vz1=>
  xi (.pan vz1))) (by kernel_rfl) (by kernel_rfl) h (fun _=>⟨fun _=>⟨⟨aE (enc:=mi) rfl,aE (enc:=mi) rfl⟩,aE (enc:=mi) rfl⟩,fun _=>aE (enc:=mi) rfl⟩)
def IK(x1:UInt8)(y0_0:List UInt8)(y0_1:Int)(y0_2:Int)(y0_3:Nat)(y1:List Vstep):List (TV EE.T):=[.a (.box 100000 0),.a (.d .byte x1)]
def DX(x1:UInt8)(y0_0:List UInt8)(y0_1:Int)(y0_2:Int)(y0_3:Nat)(y1:List Vstep):List (Nat × TB EE.T):=[(100000,.cs [.d .str y0_0,.d (.int .i64) y0_1,.d (.int .i64) y0_2,.vec (.nam 7) 200001 y0_3]),(200001,.vec 200001 (.nam 7) y1)]
def oy{N:Nat}(x1:UInt8)(y0_0:List UInt8)(y0_1:Int)(y0_2:Int)(y0_3:Nat)(y1:List Vstep){r:PR cv}(h:bj N x1 y0_0 y0_1 y0_2 y0_3 y1=some r)(I:Rn)(hi:Inj I (DX x1 y0_0 y0_1 y0_2 y0_3 y1)):aI Try.prog 50 ((IK x1 y0_0 y0_1 y0_2 y0_3 y1).map (TV.to EE.toEnc I)) (hTo EE.toEnc I (DX x1 y0_0 y0_1 y0_2 y0_3 y1)) (cH EE I fun u=>u=mi r):=
 dI (aa 0 Try.f50) 25 mixed (MK N) Try.func50 (by kernel_rfl) rfl rfl rfl rfl (MF x1 y0_0 y0_1 y0_2 y0_3 y1 h) I hi
def fx(N:Nat)(us:List (TV EE.T))(hs:List (Nat × TB EE.T)):XR EE.T:=
 gdX (d7 us 2) <|
 bnX (aB us 0) fun i0=>
 bnX (aD .byte us 1) fun x1=>
 bnX (bC hs i0) fun l0=>
 gdX (d7 l0 4) <|
 bnX (cD .str l0 0) fun y0_0=>
 bnX (cD (.int .i64) l0 1) fun y0_1=>
 bnX (cD (.int .i64) l0 2) fun y0_2=>
 bnX (cVi (.nam 7) l0 3) fun i1=>
 bnX (cVn (.nam 7) l0 3) fun y0_3=>
 bnX (bV (.nam 7) hs i1) fun y1=>
 gdX (bx hs [i0,i1]) <|
 gdX (ip [i0,i1]) <|
 .mv (bj N x1 y0_0 y0_1 y0_2 y0_3 y1) [i0,i1] (mvL [i0,i1] [100000,200001]) 0 (fw i0 i1) (xN i0 i1)
def gd(N:Nat):XOk Try.prog EE 50 (fx N):=fun us hs=>
 ay fun h1=>ab fun i0 h2=>ab fun x1 h3=>ab fun l0 h4=>ay fun h5=>ab fun y0_0 h6=>ab fun y0_1 h7=>ab fun y0_2 h8=>ab fun i1 h9=>ab fun y0_3 h10=>ab fun y1 h11=>ay fun h12=>ay fun h13=>fun p hz I hi=>gh (ex:=[]) (ks:=[100000,200001]) (us':=IK x1 y0_0 y0_1 y0_2 y0_3 y1) (h0:=DX x1 y0_0 y0_1 y0_2 y0_3 y1) (ρ':=jh I [i0,i1]) (uc:=fw 100000 200001) (u:=fw i0 i1) (hc:=xN 100000 200001) (h:=xN i0 i1) hi h12 (by kernel_rfl) ⟨gG h2 (by kernel_rfl),gB h3,bA h1⟩ ⟨(by kernel_rfl),jD h4 ⟨ei h6,ei h7,ei h8,gi h9 h10 (by kernel_rfl),bA h5⟩,(by kernel_rfl),iw h11 (by kernel_rfl),trivial⟩ ⟨.inr rfl,.inl rfl,trivial⟩ h13 (fun hj=>oy x1 y0_0 y0_1 y0_2 y0_3 y1 hz _ hj) (fun z=>⟨by kernel_rfl,by kernel_rfl,by kernel_rfl,by kernel_rfl⟩)
def iP(r:Int):TV EE.T:=.a (.d (.int .i64) r)
def If(r:Int):RL EE.T:=.ret (iP r) []
def Yt:Lvs:=⟨[],[],[],[],false,[],[],[],[]⟩
def X7:List ResultVar:=[.tmp 4]
def Xq(N:Nat):Gam EE:=⟨[⟨59,lT N⟩],EQT,[],[]⟩
def WS(N:Nat):GOk Try.prog TT EE (Xq N):=GOk.cons (vL N) (GOk.nil cQ)
def Vw(c:Code):List It2:=[.c c]
def W8(x0:List UInt8)(x1:UInt8):TS EE.T:=⟨8,[(0,.a (.d .str x0)),(1,.a (.d .byte x1))],[],[]⟩
abbrev Yc(N:Nat)(r:Int)(k:List It2)(s:TS EE.T):Prop:=fL (Y:=TT) EE (Xq N) Yt X7 (fun u=>u=If r) k s
def Yp(x:Int):Tree (Lf EE.T × Option Int):=.leaf (.done (If x),some x)
def WY{N:Nat}{r:Int}(x0:List UInt8)(x1:UInt8)(h:da N x0 x1=some r):Yc N r (Vw (aa 0 Try.f46)) (W8 x0 x1):=
 au (m:=4000) (t:=
 .bnd (pg N x0 x1) fun z1=>
 Yp z1) (by kernel_rfl) (by kernel_rfl) h (fun _=>aE (enc:=If) rfl)
def qz{N:Nat}(x0:List UInt8)(x1:UInt8){r:Int}(h:da N x0 x1=some r)(I:Rn):aI Try.prog 46 (([.a (.d .str x0),.a (.d .byte x1)] :List (TV EE.T)).map (TV.to EE.toEnc I)) [] (fun out H=>out=.ret ((iP r).to EE.toEnc I)/\H=[]):=
 (uF (aa 0 Try.f46) 8 mixed (WS N) Try.func46 (by kernel_rfl) rfl rfl rfl rfl (WY x0 x1 h) I).mono fun out H h=>cH.ret rfl h
def fp(N:Nat):List (TV EE.T)->PV EE.T
 | [u0,u1] =>match nr .str u0,nr .byte u1 with
   |some x0,some x1=>.opt (da N x0 x1) iP
   |_,_=>.bad
 |_=>.bad
def hD(N:Nat)(us:List (TV EE.T)):(fp N us).ok fun u=>∀I,aI Try.prog 46 (us.map (TV.to EE.toEnc I)) [] (fun out H=>out=.ret (u.to EE.toEnc I)/\H=[]):=by
 unfold fp;split
 ·split
  ·rename_i h0 h1;intro z hz I;refine gz ?_ (qz _ _ hz I);exact⟨fB h0 I,fB h1 I,trivial⟩
  ·trivial
 ·trivial
def eR(i0:Nat)(i1:Nat)(r:bc):TV EE.T:=.a (.d .byte r.1)
def xe(i0:Nat)(i1:Nat)(r:bc):List (Nat × TB EE.T):=[(i0,.cs [.d .str r.2.1,.d (.int .i64) r.2.2.1,.d (.int .i64) r.2.2.2.1,.vec (.nam 7) i1 r.2.2.2.2.1]),(i1,.vec i1 (.nam 7) r.2.2.2.2.2)]
def ml(r:PR bc):RL EE.T:=mM (eR 100000 200001) (xe 100000 200001) r
def Tt:Lvs:=⟨[(3,⟨[(0,false),(3,false)],[],[(100000,(none,[])),(200001,(none,[]))],[]⟩)],[],[3],[],false,[(100000,(none,[]))],[100000,200001],[],[]⟩
def Uq:List ResultVar:=[.tmp 2]
def Ma(N:Nat):Gam EE:=⟨[⟨46,fp N⟩],EQT,[⟨35,dX N⟩,⟨61,dB N⟩],[]⟩
def NZ(N:Nat):GOk Try.prog TT EE (Ma N):=GOk.cons (hD N) (GOk.consx (eB N) (GOk.consx (dK N) (GOk.nil cQ)))
def Fw(c:Code):List It2:=atR 3 c
def GS(x3:UInt8)(Zj:List UInt8)(Zg:Int)(Zi:Int)(Ze:Nat)(Zh:List Vstep):TS EE.T:=⟨31,[(0,.a (.box 100000 0)),(3,.a (.d .byte x3))],[(100000,.cs [.d .str Zj,.d (.int .i64) Zg,.d (.int .i64) Zi,.vec (.nam 7) 200001 Ze]),(200001,.vec 200001 (.nam 7) Zh)],[]⟩
def O8(c:Code):List It2:=[.c c]
def PL(y0_0:List UInt8)(y0_1:Int)(y0_2:Int)(y0_3:Nat)(y1:List Vstep):TS EE.T:=⟨31,[(0,.a (.box 100000 0))],[(100000,.cs [.d .str y0_0,.d (.int .i64) y0_1,.d (.int .i64) y0_2,.vec (.nam 7) 200001 y0_3]),(200001,.vec 200001 (.nam 7) y1)],[]⟩
def Fc(c:Code)(f:UInt8->(List UInt8)->Int->Int->Nat->(List Vstep)->Option (PR bc))(x3:UInt8)(Zj:List UInt8)(Zg:Int)(Zi:Int)(Ze:Nat)(Zh:List Vstep):Tree (Lf EE.T × Option (PR bc)):=.leaf (.go (Fw c) (GS x3 Zj Zg Zi Ze Zh),f x3 Zj Zg Zi Ze Zh)
abbrev IW(N:Nat)(r:PR bc)(k:List It2)(s:TS EE.T):Prop:=fL (Y:=TT) EE (Ma N) Tt Uq (fun u=>u=ml r) k s
def xJ(x:PR bc):Tree (Lf EE.T × Option (PR bc)):=.leaf (.done (ml x),some x)
def GP{N:Nat}{r:PR bc}(n:Nat)(x3:UInt8)(Zj:List UInt8)(Zg:Int)(Zi:Int)(Ze:Nat)(Zh:List Vstep)(h:dL N n x3 Zj Zg Zi Ze Zh=some r):IW N r (Fw (aa 0 Try.f70)) (GS x3 Zj Zg Zi Ze Zh):=
 au (m:=4000) (t:=
 .bnd (aY N 1 Zg Zj Zg Zi Ze Zh) fun z4=>
 .sm z4 (fun z5=>
  xJ (.ok (x3,z5.1,w64 (z5.2.1+1),z5.2.2.1,z5.2.2.2.1,z5.2.2.2.2))) (fun vz4=>
  xJ (.pan vz4))) (by kernel_rfl) (by kernel_rfl) h (fun _=>⟨fun _=>aE (enc:=ml) rfl,fun _=>aE (enc:=ml) rfl⟩)
def O2{N:Nat}{r:PR bc}(y0_0:List UInt8)(y0_1:Int)(y0_2:Int)(y0_3:Nat)(y1:List Vstep)(h:ca N y0_0 y0_1 y0_2 y0_3 y1=some r):IW N r (O8 (aa 0 Try.f70)) (PL y0_0 y0_1 y0_2 y0_3 y1):=
 au (m:=4000) (t:=
 .bnd (aT N y0_0 y0_1 y0_2 y0_3 y1) fun z1=>
 .sm z1 (fun z2=>
  .cond (!z2.2.1)
  (
   Fc (aa 0 Try.f70) (dL N N) z2.1 z2.2.2.1 z2.2.2.2.1 z2.2.2.2.2.1 z2.2.2.2.2.2.1 z2.2.2.2.2.2.2)
  (
   .bnd (da N ([91,93,92,94,45] :List UInt8) z2.1) fun z3=>
   .cond (decide (z3>=0))
   (
    Fc (aa 0 Try.f70) (dL N N) z2.1 z2.2.2.1 z2.2.2.2.1 z2.2.2.2.2.1 z2.2.2.2.2.2.1 z2.2.2.2.2.2.2)
   (
    xJ (.ok (z2.1,z2.2.2.1,w64 (z2.2.2.2.1+1),z2.2.2.2.2.1,z2.2.2.2.2.2.1,z2.2.2.2.2.2.2))))) (fun vz1=>
  xJ (.pan vz1))) (by kernel_rfl) (by kernel_rfl) h (fun _=>⟨fun _=>⟨fun h=>GP N _ _ _ _ _ _ h,fun _=>⟨fun h=>GP N _ _ _ _ _ _ h,aE (enc:=ml) rfl⟩⟩,fun _=>aE (enc:=ml) rfl⟩)
def I0(y0_0:List UInt8)(y0_1:Int)(y0_2:Int)(y0_3:Nat)(y1:List Vstep):List (TV EE.T):=[.a (.box 100000 0)]
def Dq(y0_0:List UInt8)(y0_1:Int)(y0_2:Int)(y0_3:Nat)(y1:List Vstep):List (Nat × TB EE.T):=[(100000,.cs [.d .str y0_0,.d (.int .i64) y0_1,.d (.int .i64) y0_2,.vec (.nam 7) 200001 y0_3]),(200001,.vec 200001 (.nam 7) y1)]
def mK{N:Nat}(y0_0:List UInt8)(y0_1:Int)(y0_2:Int)(y0_3:Nat)(y1:List Vstep){r:PR bc}(h:ca N y0_0 y0_1 y0_2 y0_3 y1=some r)(I:Rn)(hi:Inj I (Dq y0_0 y0_1 y0_2 y0_3 y1)):aI Try.prog 70 ((I0 y0_0 y0_1 y0_2 y0_3 y1).map (TV.to EE.toEnc I)) (hTo EE.toEnc I (Dq y0_0 y0_1 y0_2 y0_3 y1)) (cH EE I fun u=>u=ml r):=
 dI (aa 0 Try.f70) 31 mixed (NZ N) Try.func70 (by kernel_rfl) rfl rfl rfl rfl (O2 y0_0 y0_1 y0_2 y0_3 y1 h) I hi
def i7(N:Nat)(us:List (TV EE.T))(hs:List (Nat × TB EE.T)):XR EE.T:=
 gdX (d7 us 1) <|
 bnX (aB us 0) fun i0=>
 bnX (bC hs i0) fun l0=>
 gdX (d7 l0 4) <|
 bnX (cD .str l0 0) fun y0_0=>
 bnX (cD (.int .i64) l0 1) fun y0_1=>
 bnX (cD (.int .i64) l0 2) fun y0_2=>
 bnX (cVi (.nam 7) l0 3) fun i1=>
 bnX (cVn (.nam 7) l0 3) fun y0_3=>
 bnX (bV (.nam 7) hs i1) fun y1=>
 gdX (bx hs [i0,i1]) <|
 gdX (ip [i0,i1]) <|
 .mv (ca N y0_0 y0_1 y0_2 y0_3 y1) [i0,i1] (mvL [i0,i1] [100000,200001]) 0 (eR i0 i1) (xe i0 i1)
def mw(N:Nat):XOk Try.prog EE 70 (i7 N):=fun us hs=>
 ay fun h1=>ab fun i0 h2=>ab fun l0 h3=>ay fun h4=>ab fun y0_0 h5=>ab fun y0_1 h6=>ab fun y0_2 h7=>ab fun i1 h8=>ab fun y0_3 h9=>ab fun y1 h10=>ay fun h11=>ay fun h12=>fun p hz I hi=>gh (ex:=[]) (ks:=[100000,200001]) (us':=I0 y0_0 y0_1 y0_2 y0_3 y1) (h0:=Dq y0_0 y0_1 y0_2 y0_3 y1) (ρ':=jh I [i0,i1]) (uc:=eR 100000 200001) (u:=eR i0 i1) (hc:=xe 100000 200001) (h:=xe i0 i1) hi h11 (by kernel_rfl) ⟨gG h2 (by kernel_rfl),bA h1⟩ ⟨(by kernel_rfl),jD h3 ⟨ei h5,ei h6,ei h7,gi h8 h9 (by kernel_rfl),bA h4⟩,(by kernel_rfl),iw h10 (by kernel_rfl),trivial⟩ ⟨.inr rfl,.inl rfl,trivial⟩ h12 (fun hj=>mK y0_0 y0_1 y0_2 y0_3 y1 hz _ hj) (fun z=>⟨by kernel_rfl,by kernel_rfl,by kernel_rfl,by kernel_rfl⟩)
def fC(i0:Nat)(i1:Nat)(r:ak):TV EE.T:=.a (.d (.ptr (.bits 256)) r.1)
def xz(i0:Nat)(i1:Nat)(r:ak):List (Nat × TB EE.T):=[(i0,.cs [.d .str r.2.1,.d (.int .i64) r.2.2.1,.d (.int .i64) r.2.2.2.1,.vec (.nam 7) i1 r.2.2.2.2.1]),(i1,.vec i1 (.nam 7) r.2.2.2.2.2)]
def iY(r:PR ak):RL EE.T:=mM (fC 100000 200001) (xz 100000 200001) r
def SK:Lvs:=⟨[(6,⟨[(0,false),(3,false),(4,false)],[],[(4,(none,[])),(100000,(none,[])),(200001,(none,[]))],[]⟩),(13,⟨[(0,false),(3,false),(4,false),(6,false),(7,false)],[],[(4,(none,[])),(100000,(none,[])),(200001,(none,[]))],[]⟩)],[(4,⟨[(0,false),(3,false),(4,false),(5,false)],[],[(4,(none,[])),(100000,(none,[])),(200001,(none,[]))],[]⟩),(14,⟨[(0,false),(3,false),(4,false),(7,false),(9,false)],[],[(4,(none,[])),(100000,(none,[])),(200001,(none,[]))],[]⟩),(18,⟨[(3,false),(4,false),(46,false)],[],[(4,(none,[])),(100000,(none,[])),(200001,(none,[]))],[]⟩)],[6,13],[],false,[(100000,(none,[]))],[100000,200001],[(22,[.cl 4 (.a 256) (.s 4)])],[]⟩
def Tb:List ResultVar:=[.tmp 2]
def Qt(N:Nat):Gam EE:=⟨[],EQT,[⟨35,dX N⟩,⟨70,i7 N⟩,⟨50,fx N⟩],[]⟩
def Nt(N:Nat):GOk Try.prog TT EE (Qt N):=GOk.consx (eB N) (GOk.consx (mw N) (GOk.consx (gd N) (GOk.nil cQ)))
def BP(c:Code):List It2:=atL 14 c
def B1(x3:Bool)(x7:UInt8)(x9:Int)(b4:List Bool)(Zj:List UInt8)(Zg:Int)(Zi:Int)(Ze:Nat)(Zh:List Vstep):TS EE.T:=⟨57,[(0,.a (.box 100000 0)),(3,.a (.d .bool x3)),(4,.a (.box 4 0)),(7,.a (.d .byte x7)),(9,.a (.d (.int .i64) x9))],[(4,.row .bool b4),(100000,.cs [.d .str Zj,.d (.int .i64) Zg,.d (.int .i64) Zi,.vec (.nam 7) 200001 Ze]),(200001,.vec 200001 (.nam 7) Zh)],[]⟩
def Bd(c:Code):List It2:=atR 13 c
def B7(x3:Bool)(x6:UInt8)(x7:UInt8)(b4:List Bool)(Zj:List UInt8)(Zg:Int)(Zi:Int)(Ze:Nat)(Zh:List Vstep):TS EE.T:=⟨57,[(0,.a (.box 100000 0)),(3,.a (.d .bool x3)),(4,.a (.box 4 0)),(6,.a (.d .byte x6)),(7,.a (.d .byte x7))],[(4,.row .bool b4),(100000,.cs [.d .str Zj,.d (.int .i64) Zg,.d (.int .i64) Zi,.vec (.nam 7) 200001 Ze]),(200001,.vec 200001 (.nam 7) Zh)],[]⟩
def Gp(c:Code):List It2:=atR 6 c
def Gt(x3:Bool)(b4:List Bool)(Zj:List UInt8)(Zg:Int)(Zi:Int)(Ze:Nat)(Zh:List Vstep):TS EE.T:=⟨57,[(0,.a (.box 100000 0)),(3,.a (.d .bool x3)),(4,.a (.box 4 0))],[(4,.row .bool b4),(100000,.cs [.d .str Zj,.d (.int .i64) Zg,.d (.int .i64) Zi,.vec (.nam 7) 200001 Ze]),(200001,.vec 200001 (.nam 7) Zh)],[]⟩
def B8(c:Code):List It2:=atL 18 c
def Bf(x3:Bool)(x46:Int)(b4:List Bool)(Zj:List UInt8)(Zg:Int)(Zi:Int)(Ze:Nat)(Zh:List Vstep):TS EE.T:=⟨57,[(3,.a (.d .bool x3)),(4,.a (.box 4 0)),(46,.a (.d (.int .i64) x46))],[(4,.row .bool b4),(100000,.cs [.d .str Zj,.d (.int .i64) Zg,.d (.int .i64) Zi,.vec (.nam 7) 200001 Ze]),(200001,.vec 200001 (.nam 7) Zh)],[]⟩
def qy(c:Code):List It2:=atL 4 c
def qe(x3:Bool)(x5:Bool)(b4:List Bool)(Zj:List UInt8)(Zg:Int)(Zi:Int)(Ze:Nat)(Zh:List Vstep):TS EE.T:=⟨57,[(0,.a (.box 100000 0)),(3,.a (.d .bool x3)),(4,.a (.box 4 0)),(5,.a (.d .bool x5))],[(4,.row .bool b4),(100000,.cs [.d .str Zj,.d (.int .i64) Zg,.d (.int .i64) Zi,.vec (.nam 7) 200001 Ze]),(200001,.vec 200001 (.nam 7) Zh)],[]⟩
def OJ(c:Code):List It2:=[.c c]
def PH(y0_0:List UInt8)(y0_1:Int)(y0_2:Int)(y0_3:Nat)(y1:List Vstep):TS EE.T:=⟨57,[(0,.a (.box 100000 0))],[(100000,.cs [.d .str y0_0,.d (.int .i64) y0_1,.d (.int .i64) y0_2,.vec (.nam 7) 200001 y0_3]),(200001,.vec 200001 (.nam 7) y1)],[]⟩
def B9(c:Code)(f:Bool->UInt8->Int->(List Bool)->(List UInt8)->Int->Int->Nat->(List Vstep)->Option (PR ak))(x3:Bool)(x7:UInt8)(x9:Int)(b4:List Bool)(Zj:List UInt8)(Zg:Int)(Zi:Int)(Ze:Nat)(Zh:List Vstep):Tree (Lf EE.T × Option (PR ak)):=.leaf (.go (BP c) (B1 x3 x7 x9 b4 Zj Zg Zi Ze Zh),f x3 x7 x9 b4 Zj Zg Zi Ze Zh)
def vx(c:Code)(f:Bool->UInt8->UInt8->(List Bool)->(List UInt8)->Int->Int->Nat->(List Vstep)->Option (PR ak))(x3:Bool)(x6:UInt8)(x7:UInt8)(b4:List Bool)(Zj:List UInt8)(Zg:Int)(Zi:Int)(Ze:Nat)(Zh:List Vstep):Tree (Lf EE.T × Option (PR ak)):=.leaf (.go (Bd c) (B7 x3 x6 x7 b4 Zj Zg Zi Ze Zh),f x3 x6 x7 b4 Zj Zg Zi Ze Zh)
def Ff(c:Code)(f:Bool->(List Bool)->(List UInt8)->Int->Int->Nat->(List Vstep)->Option (PR ak))(x3:Bool)(b4:List Bool)(Zj:List UInt8)(Zg:Int)(Zi:Int)(Ze:Nat)(Zh:List Vstep):Tree (Lf EE.T × Option (PR ak)):=.leaf (.go (Gp c) (Gt x3 b4 Zj Zg Zi Ze Zh),f x3 b4 Zj Zg Zi Ze Zh)
def A4(c:Code)(f:Bool->Int->(List Bool)->(List UInt8)->Int->Int->Nat->(List Vstep)->Option (PR ak))(x3:Bool)(x46:Int)(b4:List Bool)(Zj:List UInt8)(Zg:Int)(Zi:Int)(Ze:Nat)(Zh:List Vstep):Tree (Lf EE.T × Option (PR ak)):=.leaf (.go (B8 c) (Bf x3 x46 b4 Zj Zg Zi Ze Zh),f x3 x46 b4 Zj Zg Zi Ze Zh)
def Gy(c:Code)(f:Bool->Bool->(List Bool)->(List UInt8)->Int->Int->Nat->(List Vstep)->Option (PR ak))(x3:Bool)(x5:Bool)(b4:List Bool)(Zj:List UInt8)(Zg:Int)(Zi:Int)(Ze:Nat)(Zh:List Vstep):Tree (Lf EE.T × Option (PR ak)):=.leaf (.go (qy c) (qe x3 x5 b4 Zj Zg Zi Ze Zh),f x3 x5 b4 Zj Zg Zi Ze Zh)
abbrev lF(N:Nat)(r:PR ak)(k:List It2)(s:TS EE.T):Prop:=fL (Y:=TT) EE (Qt N) SK Tb (fun u=>u=iY r) k s
def oT(x:PR ak):Tree (Lf EE.T × Option (PR ak)):=.leaf (.done (iY x),some x)
def BD{N:Nat}{r:PR ak}{k4:Bool->Bool->(List Bool)->(List UInt8)->Int->Int->Nat->(List Vstep)->Option (PR ak)}(hk4:∀x3 x5 b4 Zj Zg Zi Ze Zh,k4 x3 x5 b4 Zj Zg Zi Ze Zh=some r->lF N r (qy (aa 0 Try.f69)) (qe x3 x5 b4 Zj Zg Zi Ze Zh)):∀ (n:Nat) (x3:Bool) (x7:UInt8) (x9:Int) (b4:List Bool) (Zj:List UInt8) (Zg:Int) (Zi:Int) (Ze:Nat) (Zh:List Vstep),bN N k4 n x3 x7 x9 b4 Zj Zg Zi Ze Zh=some r->lF N r (BP (aa 0 Try.f69)) (B1 x3 x7 x9 b4 Zj Zg Zi Ze Zh)
 |0,_,_,_,_,_,_,_,_,_,h=>by cases h
 |n+1,x3,x7,x9,b4,Zj,Zg,Zi,Ze,Zh,h=>au (m:=4000) (t:=
  .cond (decide (x9<=(w64 (b2i x7))))
  (
   .bnd (cf 256 x9) fun z18=>
   .bnd (ja b4 (0+z18) true) fun z19=>
   B9 (aa 0 Try.f69) (bN N k4 n) x3 x7 (w64 (x9+1)) z19 Zj Zg Zi Ze Zh)
  (
   Gy (aa 0 Try.f69) k4 x3 false b4 Zj Zg Zi Ze Zh)) (by kernel_rfl) (by kernel_rfl) h (⟨fun _=>fun _=>fun h=>(BD hk4 n) _ _ _ _ _ _ _ _ _ h,fun h=>hk4 _ _ _ _ _ _ _ _ h⟩)
def wc{N:Nat}{r:PR ak}{k4:Bool->Bool->(List Bool)->(List UInt8)->Int->Int->Nat->(List Vstep)->Option (PR ak)}(hk4:∀x3 x5 b4 Zj Zg Zi Ze Zh,k4 x3 x5 b4 Zj Zg Zi Ze Zh=some r->lF N r (qy (aa 0 Try.f69)) (qe x3 x5 b4 Zj Zg Zi Ze Zh))(n:Nat)(x3:Bool)(x6:UInt8)(x7:UInt8)(b4:List Bool)(Zj:List UInt8)(Zg:Int)(Zi:Int)(Ze:Nat)(Zh:List Vstep)(h:cS N k4 n x3 x6 x7 b4 Zj Zg Zi Ze Zh=some r):lF N r (Bd (aa 0 Try.f69)) (B7 x3 x6 x7 b4 Zj Zg Zi Ze Zh):=
 au (m:=4000) (t:=
 B9 (aa 0 Try.f69) (bN N k4 n) x3 x7 (w64 (b2i x6)) b4 Zj Zg Zi Ze Zh) (by kernel_rfl) (by kernel_rfl) h (fun h=>BD hk4 n _ _ _ _ _ _ _ _ _ h)
def FZ{N:Nat}{r:PR ak}{k4:Bool->Bool->(List Bool)->(List UInt8)->Int->Int->Nat->(List Vstep)->Option (PR ak)}(hk4:∀x3 x5 b4 Zj Zg Zi Ze Zh,k4 x3 x5 b4 Zj Zg Zi Ze Zh=some r->lF N r (qy (aa 0 Try.f69)) (qe x3 x5 b4 Zj Zg Zi Ze Zh))(n:Nat)(x3:Bool)(b4:List Bool)(Zj:List UInt8)(Zg:Int)(Zi:Int)(Ze:Nat)(Zh:List Vstep)(h:cY N k4 n x3 b4 Zj Zg Zi Ze Zh=some r):lF N r (Gp (aa 0 Try.f69)) (Gt x3 b4 Zj Zg Zi Ze Zh):=
 au (m:=4000) (t:=
 .bnd (ca N Zj Zg Zi Ze Zh) fun z5=>
 .sm z5 (fun z6=>
  .bnd (bj N 45 z6.2.1 z6.2.2.1 z6.2.2.2.1 z6.2.2.2.2.1 z6.2.2.2.2.2) fun z7=>
  .sm z7 (fun z8=>
   .cond (z8.1)
   (
    .bnd (ca N z8.2.1 z8.2.2.1 z8.2.2.2.1 z8.2.2.2.2.1 z8.2.2.2.2.2) fun z9=>
    .sm z9 (fun z10=>
     .cond (decide ((b2i z10.1) < (b2i z6.1)))
     (
      .bnd (aY N 3 z8.2.2.1 z10.2.1 z10.2.2.1 z10.2.2.2.1 z10.2.2.2.2.1 z10.2.2.2.2.2) fun z11=>
      .sm z11 (fun z12=>
       vx (aa 0 Try.f69) (cS N k4 n) x3 z6.1 z10.1 b4 z12.1 z12.2.1 z12.2.2.1 z12.2.2.2.1 z12.2.2.2.2) (fun vz11=>
       oT (.pan vz11)))
     (
      vx (aa 0 Try.f69) (cS N k4 n) x3 z6.1 z10.1 b4 z10.2.1 z10.2.2.1 z10.2.2.2.1 z10.2.2.2.2.1 z10.2.2.2.2.2)) (fun vz9=>
     oT (.pan vz9)))
   (
    vx (aa 0 Try.f69) (cS N k4 n) x3 z6.1 z6.1 b4 z8.2.1 z8.2.2.1 z8.2.2.2.1 z8.2.2.2.2.1 z8.2.2.2.2.2)) (fun vz7=>
   oT (.pan vz7))) (fun vz5=>
  oT (.pan vz5))) (by kernel_rfl) (by kernel_rfl) h (fun _=>⟨fun _=>fun _=>⟨fun _=>⟨fun _=>⟨fun _=>⟨fun _=>⟨fun _=>fun h=>wc hk4 n _ _ _ _ _ _ _ _ _ h,fun _=>aE (enc:=iY) rfl⟩,fun h=>wc hk4 n _ _ _ _ _ _ _ _ _ h⟩,fun _=>aE (enc:=iY) rfl⟩,fun h=>wc hk4 n _ _ _ _ _ _ _ _ _ h⟩,fun _=>aE (enc:=iY) rfl⟩,fun _=>aE (enc:=iY) rfl⟩)
def B2{N:Nat}{r:PR ak}:∀ (n:Nat) (x3:Bool) (x46:Int) (b4:List Bool) (Zj:List UInt8) (Zg:Int) (Zi:Int) (Ze:Nat) (Zh:List Vstep),ce N n x3 x46 b4 Zj Zg Zi Ze Zh=some r->lF N r (B8 (aa 0 Try.f69)) (Bf x3 x46 b4 Zj Zg Zi Ze Zh)
 |0,_,_,_,_,_,_,_,_,h=>by cases h
 |n+1,x3,x46,b4,Zj,Zg,Zi,Ze,Zh,h=>au (m:=4000) (t:=
  .cond (decide (x46 < 256))
  (
   .bnd (cf 256 x46) fun z13=>
   .bnd (b4[0+z13]?) fun z14=>
   .bnd (cf 256 x46) fun z15=>
   .bnd (ja b4 (0+z15) (!(z14==x3))) fun z16=>
   A4 (aa 0 Try.f69) (ce N n) x3 (w64 (x46+1)) z16 Zj Zg Zi Ze Zh)
  (
   .bnd (m9 256 b4) fun z17=>
   oT (.ok ((some z17),Zj,Zg,Zi,Ze,Zh)))) (by kernel_rfl) (by kernel_rfl) h (⟨fun _=>fun _=>fun _=>fun _=>fun h=>(B2 n) _ _ _ _ _ _ _ _ h,fun _=>aE (enc:=iY) rfl⟩)
def yE{N:Nat}{r:PR ak}:∀ (n:Nat) (x3:Bool) (x5:Bool) (b4:List Bool) (Zj:List UInt8) (Zg:Int) (Zi:Int) (Ze:Nat) (Zh:List Vstep),bK N n x3 x5 b4 Zj Zg Zi Ze Zh=some r->lF N r (qy (aa 0 Try.f69)) (qe x3 x5 b4 Zj Zg Zi Ze Zh)
 |0,_,_,_,_,_,_,_,_,h=>by cases h
 |n+1,x3,x5,b4,Zj,Zg,Zi,Ze,Zh,h=>au (m:=4000) (t:=
  .cond (x5)
  (
   Ff (aa 0 Try.f69) (cY N (bK N n) n) x3 b4 Zj Zg Zi Ze Zh)
  (
   .bnd (bj N 93 Zj Zg Zi Ze Zh) fun z3=>
   .sm z3 (fun z4=>
    .cond (!z4.1)
    (
     Ff (aa 0 Try.f69) (cY N (bK N n) n) x3 b4 z4.2.1 z4.2.2.1 z4.2.2.2.1 z4.2.2.2.2.1 z4.2.2.2.2.2)
    (
     A4 (aa 0 Try.f69) (ce N n) x3 0 b4 z4.2.1 z4.2.2.1 z4.2.2.2.1 z4.2.2.2.2.1 z4.2.2.2.2.2)) (fun vz3=>
    oT (.pan vz3)))) (by kernel_rfl) (by kernel_rfl) h (⟨fun h=>FZ (yE n) n _ _ _ _ _ _ _ h,fun _=>⟨fun _=>⟨fun h=>FZ (yE n) n _ _ _ _ _ _ _ h,fun h=>B2 n _ _ _ _ _ _ _ _ h⟩,fun _=>aE (enc:=iY) rfl⟩⟩)
def Rh{N:Nat}{r:PR ak}(y0_0:List UInt8)(y0_1:Int)(y0_2:Int)(y0_3:Nat)(y1:List Vstep)(h:dD N y0_0 y0_1 y0_2 y0_3 y1=some r):lF N r (OJ (aa 0 Try.f69)) (PH y0_0 y0_1 y0_2 y0_3 y1):=
 au (m:=4000) (t:=
 .bnd (bj N 94 y0_0 y0_1 y0_2 y0_3 y1) fun z1=>
 .sm z1 (fun z2=>
  Gy (aa 0 Try.f69) (bK N N) z2.1 true (List.replicate 256 false) z2.2.1 z2.2.2.1 z2.2.2.2.1 z2.2.2.2.2.1 z2.2.2.2.2.2) (fun vz1=>
  oT (.pan vz1))) (by kernel_rfl) (by kernel_rfl) h (fun _=>⟨fun _=>fun h=>yE N _ _ _ _ _ _ _ _ h,fun _=>aE (enc:=iY) rfl⟩)
def JE(y0_0:List UInt8)(y0_1:Int)(y0_2:Int)(y0_3:Nat)(y1:List Vstep):List (TV EE.T):=[.a (.box 100000 0)]
def CV(y0_0:List UInt8)(y0_1:Int)(y0_2:Int)(y0_3:Nat)(y1:List Vstep):List (Nat × TB EE.T):=[(100000,.cs [.d .str y0_0,.d (.int .i64) y0_1,.d (.int .i64) y0_2,.vec (.nam 7) 200001 y0_3]),(200001,.vec 200001 (.nam 7) y1)]
def ou{N:Nat}(y0_0:List UInt8)(y0_1:Int)(y0_2:Int)(y0_3:Nat)(y1:List Vstep){r:PR ak}(h:dD N y0_0 y0_1 y0_2 y0_3 y1=some r)(I:Rn)(hi:Inj I (CV y0_0 y0_1 y0_2 y0_3 y1)):aI Try.prog 69 ((JE y0_0 y0_1 y0_2 y0_3 y1).map (TV.to EE.toEnc I)) (hTo EE.toEnc I (CV y0_0 y0_1 y0_2 y0_3 y1)) (cH EE I fun u=>u=iY r):=
 dI (aa 0 Try.f69) 57 mixed (Nt N) Try.func69 (by kernel_rfl) rfl rfl rfl rfl (Rh y0_0 y0_1 y0_2 y0_3 y1 h) I hi
def jW(N:Nat)(us:List (TV EE.T))(hs:List (Nat × TB EE.T)):XR EE.T:=
 gdX (d7 us 1) <|
 bnX (aB us 0) fun i0=>
 bnX (bC hs i0) fun l0=>
 gdX (d7 l0 4) <|
 bnX (cD .str l0 0) fun y0_0=>
 bnX (cD (.int .i64) l0 1) fun y0_1=>
 bnX (cD (.int .i64) l0 2) fun y0_2=>
 bnX (cVi (.nam 7) l0 3) fun i1=>
 bnX (cVn (.nam 7) l0 3) fun y0_3=>
 bnX (bV (.nam 7) hs i1) fun y1=>
 gdX (bx hs [i0,i1]) <|
 gdX (ip [i0,i1]) <|
 .mv (dD N y0_0 y0_1 y0_2 y0_3 y1) [i0,i1] (mvL [i0,i1] [100000,200001]) 0 (fC i0 i1) (xz i0 i1)
def m7(N:Nat):XOk Try.prog EE 69 (jW N):=fun us hs=>
 ay fun h1=>ab fun i0 h2=>ab fun l0 h3=>ay fun h4=>ab fun y0_0 h5=>ab fun y0_1 h6=>ab fun y0_2 h7=>ab fun i1 h8=>ab fun y0_3 h9=>ab fun y1 h10=>ay fun h11=>ay fun h12=>fun p hz I hi=>gh (ex:=[]) (ks:=[100000,200001]) (us':=JE y0_0 y0_1 y0_2 y0_3 y1) (h0:=CV y0_0 y0_1 y0_2 y0_3 y1) (ρ':=jh I [i0,i1]) (uc:=fC 100000 200001) (u:=fC i0 i1) (hc:=xz 100000 200001) (h:=xz i0 i1) hi h11 (by kernel_rfl) ⟨gG h2 (by kernel_rfl),bA h1⟩ ⟨(by kernel_rfl),jD h3 ⟨ei h5,ei h6,ei h7,gi h8 h9 (by kernel_rfl),bA h4⟩,(by kernel_rfl),iw h10 (by kernel_rfl),trivial⟩ ⟨.inr rfl,.inl rfl,trivial⟩ h12 (fun hj=>ou y0_0 y0_1 y0_2 y0_3 y1 hz _ hj) (fun z=>⟨by kernel_rfl,by kernel_rfl,by kernel_rfl,by kernel_rfl⟩)
def cM(i0:Nat)(r:aW):TV EE.T:=.a (.d (.sl (.nam 7)) r.1)
def xf(i0:Nat)(r:aW):List (Nat × TB EE.T):=[(i0,.vec i0 (.nam 7) r.2)]
def qA(r:PR aW):RL EE.T:=mM (cM 100000) (xf 100000) r
def Sb:Lvs:=⟨[],[],[],[],false,[],[100000],[],[]⟩
def TR:List ResultVar:=[.tmp 2]
def Mq(N:Nat):Gam EE:=⟨[],EQT,[],[]⟩
def NX(N:Nat):GOk Try.prog TT EE (Mq N):=GOk.nil cQ
def Rp(c:Code):List It2:=[.c c]
def OQ(x0_o:Nat)(x0_n:Nat)(y0:List Vstep):TS EE.T:=⟨8,[(0,.a (.vsl (.nam 7) 100000 x0_o x0_n))],[(100000,.vec 100000 (.nam 7) y0)],[]⟩
abbrev R1(N:Nat)(r:PR aW)(k:List It2)(s:TS EE.T):Prop:=fL (Y:=TT) EE (Mq N) Sb TR (fun u=>u=qA r) k s
def Kj(x:PR aW):Tree (Lf EE.T × Option (PR aW)):=.leaf (.done (qA x),some x)
def Oz{N:Nat}{r:PR aW}(x0_o:Nat)(x0_n:Nat)(y0:List Vstep)(h:bP N x0_o x0_n y0=some r):R1 N r (Rp (aa 0 Try.f63)) (OQ x0_o x0_n y0):=
 au (m:=4000) (t:=
 .nl ((List.drop x0_o y0).take x0_n)
 (
  Kj (.ok (([] :List Vstep),y0)))
 (
  .bnd (Fa x0_o x0_n y0) fun z1=>
  .bnd (ie 32 ([] :List Vstep) z1) fun z2=>
  Kj (.ok (z2,y0)))) (by kernel_rfl) (by kernel_rfl) h (⟨fun e _ h=>VQ e h,aE (enc:=qA) rfl,fun _=>fun _=>aE (enc:=qA) rfl⟩)
def Kw(x0_o:Nat)(x0_n:Nat)(y0:List Vstep):List (TV EE.T):=[.a (.vsl (.nam 7) 100000 x0_o x0_n)]
def C9(x0_o:Nat)(x0_n:Nat)(y0:List Vstep):List (Nat × TB EE.T):=[(100000,.vec 100000 (.nam 7) y0)]
def ic{N:Nat}(x0_o:Nat)(x0_n:Nat)(y0:List Vstep){r:PR aW}(h:bP N x0_o x0_n y0=some r)(I:Rn)(hi:Inj I (C9 x0_o x0_n y0)):aI Try.prog 63 ((Kw x0_o x0_n y0).map (TV.to EE.toEnc I)) (hTo EE.toEnc I (C9 x0_o x0_n y0)) (cH EE I fun u=>u=qA r):=
 dI (aa 0 Try.f63) 8 mixed (NX N) Try.func63 (by kernel_rfl) rfl rfl rfl rfl (Oz x0_o x0_n y0 h) I hi
def eW(N:Nat)(us:List (TV EE.T))(hs:List (Nat × TB EE.T)):XR EE.T:=
 gdX (d7 us 1) <|
 bnX (aUi (.nam 7) us 0) fun i0=>
 bnX (aUo (.nam 7) us 0) fun x0_o=>
 bnX (aUn (.nam 7) us 0) fun x0_n=>
 bnX (bV (.nam 7) hs i0) fun y0=>
 gdX (bx hs [i0]) <|
 gdX (ip [i0]) <|
 .mv (bP N x0_o x0_n y0) [i0] (mvL [i0] [100000]) 0 (cM i0) (xf i0)
def hU(N:Nat):XOk Try.prog EE 63 (eW N):=fun us hs=>
 ay fun h1=>ab fun i0 h2=>ab fun x0_o h3=>ab fun x0_n h4=>ab fun y0 h5=>ay fun h6=>ay fun h7=>fun p hz I hi=>gh (ex:=[]) (ks:=[100000]) (us':=Kw x0_o x0_n y0) (h0:=C9 x0_o x0_n y0) (ρ':=jh I [i0]) (uc:=cM 100000) (u:=cM i0) (hc:=xf 100000) (h:=xf i0) hi h6 (by kernel_rfl) ⟨XS h2 h3 h4 (by kernel_rfl),bA h1⟩ ⟨(by kernel_rfl),iw h5 (by kernel_rfl),trivial⟩ ⟨.inr rfl,trivial⟩ h7 (fun hj=>ic x0_o x0_n y0 hz _ hj) (fun z=>⟨by kernel_rfl,by kernel_rfl,by kernel_rfl,by kernel_rfl⟩)
def fA(i0:Nat)(i1:Nat)(r:cr):TV EE.T:=.a (.d (.sl (.nam 7)) r.1)
def xh(i0:Nat)(i1:Nat)(r:cr):List (Nat × TB EE.T):=[(i0,.cs [.d .str r.2.1,.d (.int .i64) r.2.2.1,.d (.int .i64) r.2.2.2.1,.vec (.nam 7) i1 r.2.2.2.2.1]),(i1,.vec i1 (.nam 7) r.2.2.2.2.2)]
def pT(r:PR cr):RL EE.T:=mM (fA 100000 200001) (xh 100000 200001) r
def RK:Lvs:=⟨[],[],[],[],false,[(100000,(none,[]))],[100000,200001],[],[(19,200001)]⟩
def UC:List ResultVar:=[.tmp 4]
def Ou(N:Nat):Gam EE:=⟨[],EQT,[⟨63,eW N⟩],[]⟩
def PN(N:Nat):GOk Try.prog TT EE (Ou N):=GOk.consx (hU N) (GOk.nil cQ)
def MY(c:Code):List It2:=[.c c]
def OU(x1:Int)(y0_0:List UInt8)(y0_1:Int)(y0_2:Int)(y0_3:Nat)(y1:List Vstep):TS EE.T:=⟨23,[(0,.a (.box 100000 0)),(1,.a (.d (.int .i64) x1))],[(100000,.cs [.d .str y0_0,.d (.int .i64) y0_1,.d (.int .i64) y0_2,.vec (.nam 7) 200001 y0_3]),(200001,.vec 200001 (.nam 7) y1)],[]⟩
abbrev Tr(N:Nat)(r:PR cr)(k:List It2)(s:TS EE.T):Prop:=fL (Y:=TT) EE (Ou N) RK UC (fun u=>u=pT r) k s
def J8(x:PR cr):Tree (Lf EE.T × Option (PR cr)):=.leaf (.done (pT x),some x)
def PT{N:Nat}{r:PR cr}(x1:Int)(y0_0:List UInt8)(y0_1:Int)(y0_2:Int)(y0_3:Nat)(y1:List Vstep)(h:cz N x1 y0_0 y0_1 y0_2 y0_3 y1=some r):Tr N r (MY (aa 0 Try.f51)) (OU x1 y0_0 y0_1 y0_2 y0_3 y1):=
 au (m:=4000) (t:=
 .bnd (DW y0_3 x1 (y0_3:Int)) fun z1=>
 .bnd (bP N z1.1 (y0_3 - z1.1) y1) fun z2=>
 .sm z2 (fun z3=>
  .bnd (HC y0_3 z3.2 x1) fun z4=>
  J8 (.ok (z3.1,y0_0,y0_1,y0_2,z4.length,z4))) (fun vz2=>
  J8 (.pan vz2))) (by kernel_rfl) (by kernel_rfl) h (fun _=>fun _=>⟨fun _=>fun _=>aE (enc:=pT) rfl,fun _=>aE (enc:=pT) rfl⟩)
def JB(x1:Int)(y0_0:List UInt8)(y0_1:Int)(y0_2:Int)(y0_3:Nat)(y1:List Vstep):List (TV EE.T):=[.a (.box 100000 0),.a (.d (.int .i64) x1)]
def DH(x1:Int)(y0_0:List UInt8)(y0_1:Int)(y0_2:Int)(y0_3:Nat)(y1:List Vstep):List (Nat × TB EE.T):=[(100000,.cs [.d .str y0_0,.d (.int .i64) y0_1,.d (.int .i64) y0_2,.vec (.nam 7) 200001 y0_3]),(200001,.vec 200001 (.nam 7) y1)]
def n9{N:Nat}(x1:Int)(y0_0:List UInt8)(y0_1:Int)(y0_2:Int)(y0_3:Nat)(y1:List Vstep){r:PR cr}(h:cz N x1 y0_0 y0_1 y0_2 y0_3 y1=some r)(I:Rn)(hi:Inj I (DH x1 y0_0 y0_1 y0_2 y0_3 y1)):aI Try.prog 51 ((JB x1 y0_0 y0_1 y0_2 y0_3 y1).map (TV.to EE.toEnc I)) (hTo EE.toEnc I (DH x1 y0_0 y0_1 y0_2 y0_3 y1)) (cH EE I fun u=>u=pT r):=
 dI (aa 0 Try.f51) 23 mixed (PN N) Try.func51 (by kernel_rfl) rfl rfl rfl rfl (PT x1 y0_0 y0_1 y0_2 y0_3 y1 h) I hi
def gS(N:Nat)(us:List (TV EE.T))(hs:List (Nat × TB EE.T)):XR EE.T:=
 gdX (d7 us 2) <|
 bnX (aB us 0) fun i0=>
 bnX (aD (.int .i64) us 1) fun x1=>
 bnX (bC hs i0) fun l0=>
 gdX (d7 l0 4) <|
 bnX (cD .str l0 0) fun y0_0=>
 bnX (cD (.int .i64) l0 1) fun y0_1=>
 bnX (cD (.int .i64) l0 2) fun y0_2=>
 bnX (cVi (.nam 7) l0 3) fun i1=>
 bnX (cVn (.nam 7) l0 3) fun y0_3=>
 bnX (bV (.nam 7) hs i1) fun y1=>
 gdX (bx hs [i0,i1]) <|
 gdX (ip [i0,i1]) <|
 .mv (cz N x1 y0_0 y0_1 y0_2 y0_3 y1) [i0,i1] (mvL [i0,i1] [100000,200001]) 0 (fA i0 i1) (xh i0 i1)
def i8(N:Nat):XOk Try.prog EE 51 (gS N):=fun us hs=>
 ay fun h1=>ab fun i0 h2=>ab fun x1 h3=>ab fun l0 h4=>ay fun h5=>ab fun y0_0 h6=>ab fun y0_1 h7=>ab fun y0_2 h8=>ab fun i1 h9=>ab fun y0_3 h10=>ab fun y1 h11=>ay fun h12=>ay fun h13=>fun p hz I hi=>gh (ex:=[]) (ks:=[100000,200001]) (us':=JB x1 y0_0 y0_1 y0_2 y0_3 y1) (h0:=DH x1 y0_0 y0_1 y0_2 y0_3 y1) (ρ':=jh I [i0,i1]) (uc:=fA 100000 200001) (u:=fA i0 i1) (hc:=xh 100000 200001) (h:=xh i0 i1) hi h12 (by kernel_rfl) ⟨gG h2 (by kernel_rfl),gB h3,bA h1⟩ ⟨(by kernel_rfl),jD h4 ⟨ei h6,ei h7,ei h8,gi h9 h10 (by kernel_rfl),bA h5⟩,(by kernel_rfl),iw h11 (by kernel_rfl),trivial⟩ ⟨.inr rfl,.inl rfl,trivial⟩ h13 (fun hj=>n9 x1 y0_0 y0_1 y0_2 y0_3 y1 hz _ hj) (fun z=>⟨by kernel_rfl,by kernel_rfl,by kernel_rfl,by kernel_rfl⟩)
def fF(i0:Nat)(i1:Nat)(r:aJ):TV EE.T:=.tu []
def xy(i0:Nat)(i1:Nat)(r:aJ):List (Nat × TB EE.T):=[(i0,.cs [.d .str r.1,.d (.int .i64) r.2.1,.d (.int .i64) r.2.2.1,.vec (.nam 7) i1 r.2.2.2.1]),(i1,.vec i1 (.nam 7) r.2.2.2.2)]
def qB(r:PR aJ):RL EE.T:=mM (fF 100000 200001) (xy 100000 200001) r
def RO:Lvs:=⟨[(9,⟨[(0,false),(6,false),(8,false),(16,false),(17,false),(18,false)],[],[(8,(some 7,[])),(100000,(none,[])),(200001,(none,[]))],[]⟩)],[(2,⟨[(0,false),(6,false),(16,false),(17,false),(18,false)],[],[(100000,(none,[])),(200001,(none,[]))],[]⟩)],[9],[],false,[(100000,(none,[]))],[100000,200001],[],[]⟩
def Th:List ResultVar:=[]
def RF(N:Nat):Gam EE:=⟨[],EQT,[⟨36,eo N⟩],[]⟩
def OI(N:Nat):GOk Try.prog TT EE (RF N):=GOk.consx (eT N) (GOk.nil cQ)
def EW(c:Code):List It2:=atR 9 c
def Gz(x6:Int)(x16:List Vstep)(x17:Int)(x18:Int)(b8:Vstep)(Zj:List UInt8)(Zg:Int)(Zi:Int)(Ze:Nat)(Zh:List Vstep):TS EE.T:=⟨47,[(0,.a (.box 100000 0)),(6,.a (.d (.int .i64) x6)),(8,.a (.box 8 0)),(16,.a (.d (.sl (.nam 7)) x16)),(17,.a (.d (.int .i64) x17)),(18,.a (.d (.int .i64) x18))],[(8,.cs (cL EE (.nam 7) b8)),(100000,.cs [.d .str Zj,.d (.int .i64) Zg,.d (.int .i64) Zi,.vec (.nam 7) 200001 Ze]),(200001,.vec 200001 (.nam 7) Zh)],[]⟩
def yw(c:Code):List It2:=atL 2 c
def yq(x6:Int)(x16:List Vstep)(x17:Int)(x18:Int)(Zj:List UInt8)(Zg:Int)(Zi:Int)(Ze:Nat)(Zh:List Vstep):TS EE.T:=⟨47,[(0,.a (.box 100000 0)),(6,.a (.d (.int .i64) x6)),(16,.a (.d (.sl (.nam 7)) x16)),(17,.a (.d (.int .i64) x17)),(18,.a (.d (.int .i64) x18))],[(100000,.cs [.d .str Zj,.d (.int .i64) Zg,.d (.int .i64) Zi,.vec (.nam 7) 200001 Ze]),(200001,.vec 200001 (.nam 7) Zh)],[]⟩
def NW(c:Code):List It2:=[.c c]
def MR(x1:List Vstep)(x2:Int)(y0_0:List UInt8)(y0_1:Int)(y0_2:Int)(y0_3:Nat)(y1:List Vstep):TS EE.T:=⟨47,[(0,.a (.box 100000 0)),(1,.a (.d (.sl (.nam 7)) x1)),(2,.a (.d (.int .i64) x2))],[(100000,.cs [.d .str y0_0,.d (.int .i64) y0_1,.d (.int .i64) y0_2,.vec (.nam 7) 200001 y0_3]),(200001,.vec 200001 (.nam 7) y1)],[]⟩
def zg(c:Code)(f:Int->(List Vstep)->Int->Int->Vstep->(List UInt8)->Int->Int->Nat->(List Vstep)->Option (PR aJ))(x6:Int)(x16:List Vstep)(x17:Int)(x18:Int)(b8:Vstep)(Zj:List UInt8)(Zg:Int)(Zi:Int)(Ze:Nat)(Zh:List Vstep):Tree (Lf EE.T × Option (PR aJ)):=.leaf (.go (EW c) (Gz x6 x16 x17 x18 b8 Zj Zg Zi Ze Zh),f x6 x16 x17 x18 b8 Zj Zg Zi Ze Zh)
def FA(c:Code)(f:Int->(List Vstep)->Int->Int->(List UInt8)->Int->Int->Nat->(List Vstep)->Option (PR aJ))(x6:Int)(x16:List Vstep)(x17:Int)(x18:Int)(Zj:List UInt8)(Zg:Int)(Zi:Int)(Ze:Nat)(Zh:List Vstep):Tree (Lf EE.T × Option (PR aJ)):=.leaf (.go (yw c) (yq x6 x16 x17 x18 Zj Zg Zi Ze Zh),f x6 x16 x17 x18 Zj Zg Zi Ze Zh)
abbrev xD(N:Nat)(r:PR aJ)(k:List It2)(s:TS EE.T):Prop:=fL (Y:=TT) EE (RF N) RO Th (fun u=>u=qB r) k s
def Jc(x:PR aJ):Tree (Lf EE.T × Option (PR aJ)):=.leaf (.done (qB x),some x)
def yB{N:Nat}{r:PR aJ}{k2:Int->(List Vstep)->Int->Int->(List UInt8)->Int->Int->Nat->(List Vstep)->Option (PR aJ)}(hk2:∀x6 x16 x17 x18 Zj Zg Zi Ze Zh,k2 x6 x16 x17 x18 Zj Zg Zi Ze Zh=some r->xD N r (yw (aa 0 Try.f52)) (yq x6 x16 x17 x18 Zj Zg Zi Ze Zh))(n:Nat)(x6:Int)(x16:List Vstep)(x17:Int)(x18:Int)(b8:Vstep)(Zj:List UInt8)(Zg:Int)(Zi:Int)(Ze:Nat)(Zh:List Vstep)(h:cn N k2 n x6 x16 x17 x18 b8 Zj Zg Zi Ze Zh=some r):xD N r (EW (aa 0 Try.f52)) (Gz x6 x16 x17 x18 b8 Zj Zg Zi Ze Zh):=
 au (m:=4000) (t:=
 .bnd (aq N b8 Zj Zg Zi Ze Zh) fun z2=>
 .sm z2 (fun z3=>
  FA (aa 0 Try.f52) k2 x6 x16 x17 (w64 (x18+1)) z3.2.1 z3.2.2.1 z3.2.2.2.1 z3.2.2.2.2.1 z3.2.2.2.2.2) (fun vz2=>
  Jc (.pan vz2))) (by kernel_rfl) (by kernel_rfl) h (fun _=>⟨fun _=>fun h=>hk2 _ _ _ _ _ _ _ _ _ h,fun _=>aE (enc:=qB) rfl⟩)
def tR{N:Nat}{r:PR aJ}:∀ (n:Nat) (x6:Int) (x16:List Vstep) (x17:Int) (x18:Int) (Zj:List UInt8) (Zg:Int) (Zi:Int) (Ze:Nat) (Zh:List Vstep),bf N n x6 x16 x17 x18 Zj Zg Zi Ze Zh=some r->xD N r (yw (aa 0 Try.f52)) (yq x6 x16 x17 x18 Zj Zg Zi Ze Zh)
 |0,_,_,_,_,_,_,_,_,_,h=>by cases h
 |n+1,x6,x16,x17,x18,Zj,Zg,Zi,Ze,Zh,h=>au (m:=4000) (t:=
  .cond (decide (x18 < x17))
  (
   .bnd (ci x16 x18) fun z1=>
   .cond (z1.kind==1)
   (
    zg (aa 0 Try.f52) (cn N (bf N n) n) x6 x16 x17 x18 ({ kind:=z1.kind,a:=w64 (z1.a+x6),b:=w64 (z1.b+x6),set_:=z1.set_ }:Vstep) Zj Zg Zi Ze Zh)
   (
    .cond (z1.kind==2)
    (
     zg (aa 0 Try.f52) (cn N (bf N n) n) x6 x16 x17 x18 ({ kind:=z1.kind,a:=w64 (z1.a+x6),b:=z1.b,set_:=z1.set_ }:Vstep) Zj Zg Zi Ze Zh)
    (
     zg (aa 0 Try.f52) (cn N (bf N n) n) x6 x16 x17 x18 z1 Zj Zg Zi Ze Zh)))
  (
   Jc (.ok (Zj,Zg,Zi,Ze,Zh)))) (by kernel_rfl) (by kernel_rfl) h (⟨fun _=>⟨fun h=>yB (tR n) n _ _ _ _ _ _ _ _ _ _ h,⟨fun h=>yB (tR n) n _ _ _ _ _ _ _ _ _ _ h,fun h=>yB (tR n) n _ _ _ _ _ _ _ _ _ _ h⟩⟩,aE (enc:=qB) rfl⟩)
def Nq{N:Nat}{r:PR aJ}(x1:List Vstep)(x2:Int)(y0_0:List UInt8)(y0_1:Int)(y0_2:Int)(y0_3:Nat)(y1:List Vstep)(h:bq N x1 x2 y0_0 y0_1 y0_2 y0_3 y1=some r):xD N r (NW (aa 0 Try.f52)) (MR x1 x2 y0_0 y0_1 y0_2 y0_3 y1):=
 au (m:=4000) (t:=
 FA (aa 0 Try.f52) (bf N N) (w64 ((y0_3:Int) - x2)) x1 (x1.length:Int) 0 y0_0 y0_1 y0_2 y0_3 y1) (by kernel_rfl) (by kernel_rfl) h (fun h=>tR N _ _ _ _ _ _ _ _ _ h)
def JW(x1:List Vstep)(x2:Int)(y0_0:List UInt8)(y0_1:Int)(y0_2:Int)(y0_3:Nat)(y1:List Vstep):List (TV EE.T):=[.a (.box 100000 0),.a (.d (.sl (.nam 7)) x1),.a (.d (.int .i64) x2)]
def En(x1:List Vstep)(x2:Int)(y0_0:List UInt8)(y0_1:Int)(y0_2:Int)(y0_3:Nat)(y1:List Vstep):List (Nat × TB EE.T):=[(100000,.cs [.d .str y0_0,.d (.int .i64) y0_1,.d (.int .i64) y0_2,.vec (.nam 7) 200001 y0_3]),(200001,.vec 200001 (.nam 7) y1)]
def ol{N:Nat}(x1:List Vstep)(x2:Int)(y0_0:List UInt8)(y0_1:Int)(y0_2:Int)(y0_3:Nat)(y1:List Vstep){r:PR aJ}(h:bq N x1 x2 y0_0 y0_1 y0_2 y0_3 y1=some r)(I:Rn)(hi:Inj I (En x1 x2 y0_0 y0_1 y0_2 y0_3 y1)):aI Try.prog 52 ((JW x1 x2 y0_0 y0_1 y0_2 y0_3 y1).map (TV.to EE.toEnc I)) (hTo EE.toEnc I (En x1 x2 y0_0 y0_1 y0_2 y0_3 y1)) (cH EE I fun u=>u=qB r):=
 dI (aa 0 Try.f52) 47 mixed (OI N) Try.func52 (by kernel_rfl) rfl rfl rfl rfl (Nq x1 x2 y0_0 y0_1 y0_2 y0_3 y1 h) I hi
def gR(N:Nat)(us:List (TV EE.T))(hs:List (Nat × TB EE.T)):XR EE.T:=
 gdX (d7 us 3) <|
 bnX (aB us 0) fun i0=>
 bnX (aD (.sl (.nam 7)) us 1) fun x1=>
 bnX (aD (.int .i64) us 2) fun x2=>
 bnX (bC hs i0) fun l0=>
 gdX (d7 l0 4) <|
 bnX (cD .str l0 0) fun y0_0=>
 bnX (cD (.int .i64) l0 1) fun y0_1=>
 bnX (cD (.int .i64) l0 2) fun y0_2=>
 bnX (cVi (.nam 7) l0 3) fun i1=>
 bnX (cVn (.nam 7) l0 3) fun y0_3=>
 bnX (bV (.nam 7) hs i1) fun y1=>
 gdX (bx hs [i0,i1]) <|
 gdX (ip [i0,i1]) <|
 .mv (bq N x1 x2 y0_0 y0_1 y0_2 y0_3 y1) [i0,i1] (mvL [i0,i1] [100000,200001]) 0 (fF i0 i1) (xy i0 i1)
def iX(N:Nat):XOk Try.prog EE 52 (gR N):=fun us hs=>
 ay fun h1=>ab fun i0 h2=>ab fun x1 h3=>ab fun x2 h4=>ab fun l0 h5=>ay fun h6=>ab fun y0_0 h7=>ab fun y0_1 h8=>ab fun y0_2 h9=>ab fun i1 h10=>ab fun y0_3 h11=>ab fun y1 h12=>ay fun h13=>ay fun h14=>fun p hz I hi=>gh (ex:=[]) (ks:=[100000,200001]) (us':=JW x1 x2 y0_0 y0_1 y0_2 y0_3 y1) (h0:=En x1 x2 y0_0 y0_1 y0_2 y0_3 y1) (ρ':=jh I [i0,i1]) (uc:=fF 100000 200001) (u:=fF i0 i1) (hc:=xy 100000 200001) (h:=xy i0 i1) hi h13 (by kernel_rfl) ⟨gG h2 (by kernel_rfl),gB h3,gB h4,bA h1⟩ ⟨(by kernel_rfl),jD h5 ⟨ei h7,ei h8,ei h9,gi h10 h11 (by kernel_rfl),bA h6⟩,(by kernel_rfl),iw h12 (by kernel_rfl),trivial⟩ ⟨.inr rfl,.inl rfl,trivial⟩ h14 (fun hj=>ol x1 x2 y0_0 y0_1 y0_2 y0_3 y1 hz _ hj) (fun z=>⟨by kernel_rfl,by kernel_rfl,by kernel_rfl,by kernel_rfl⟩)
def oJ(i0:Nat)(i1:Nat)(r:Bool × (List UInt8) × Int × Int × Nat × (List Vstep)):TV EE.T:=.a (.d .bool r.1)
def nZ(i0:Nat)(i1:Nat)(r:Bool × (List UInt8) × Int × Int × Nat × (List Vstep)):List (Nat × TB EE.T):=[(i0,.cs [.d .str r.2.1,.d (.int .i64) r.2.2.1,.d (.int .i64) r.2.2.2.1,.vec (.nam 7) i1 r.2.2.2.2.1]),(i1,.vec i1 (.nam 7) r.2.2.2.2.2)]
def fG(N:RecC)(us:List (TV EE.T))(hs:List (Nat × TB EE.T)):XR EE.T:=
 gdX (d7 us 1) <|
 bnX (aB us 0) fun i0=>
 bnX (bC hs i0) fun l0=>
 gdX (d7 l0 4) <|
 bnX (cD .str l0 0) fun y0_0=>
 bnX (cD (.int .i64) l0 1) fun y0_1=>
 bnX (cD (.int .i64) l0 2) fun y0_2=>
 bnX (cVi (.nam 7) l0 3) fun i1=>
 bnX (cVn (.nam 7) l0 3) fun y0_3=>
 bnX (bV (.nam 7) hs i1) fun y1=>
 gdX (bx hs [i0,i1]) <|
 gdX (ip [i0,i1]) <|
 .mv (dY N y0_0 y0_1 y0_2 y0_3 y1) [i0,i1] (mvL [i0,i1] [100000,200001]) 0 (oJ i0 i1) (nZ i0 i1)
def ke(N:RecC):Prop:=XOk Try.prog EE 34 (fG N)
def iZ(N:RecC)(hN:ke N):XOk Try.prog EE 34 (fG N):=hN
def Qd(n:Nat):ke ⟨n,fun _ _ _ _ _=>none⟩:=fun us hs=>
 ay fun h1=>ab fun i0 h2=>ab fun l0 h3=>ay fun h4=>ab fun y0_0 h5=>ab fun y0_1 h6=>ab fun y0_2 h7=>ab fun i1 h8=>ab fun y0_3 h9=>ab fun y1 h10=>ay fun h11=>ay fun h12=>fun p hz=>by cases hz
def fe(i0:Nat)(i1:Nat)(r:am):TV EE.T:=.a (.d .bool r.1)
def xC(i0:Nat)(i1:Nat)(r:am):List (Nat × TB EE.T):=[(i0,.cs [.d .str r.2.1,.d (.int .i64) r.2.2.1,.d (.int .i64) r.2.2.2.1,.vec (.nam 7) i1 r.2.2.2.2.1]),(i1,.vec i1 (.nam 7) r.2.2.2.2.2)]
def dq(r:PR am):RL EE.T:=mM (fe 100000 200001) (xC 100000 200001) r
def SO:Lvs:=⟨[(1,⟨[(0,false)],[],[(100000,(none,[])),(200001,(none,[]))],[]⟩),(5,⟨[(0,false),(3,false)],[],[(100000,(none,[])),(200001,(none,[]))],[]⟩),(20,⟨[(0,false),(6,false),(7,false),(8,false)],[],[(100000,(none,[])),(200001,(none,[]))],[]⟩),(21,⟨[(0,false),(6,false)],[],[(100000,(none,[])),(200001,(none,[]))],[]⟩),(30,⟨[(0,false)],[],[(100000,(none,[])),(200001,(none,[]))],[]⟩)],[(11,⟨[(0,false),(4,false),(51,false)],[],[(4,(none,[])),(100000,(none,[])),(200001,(none,[]))],[]⟩)],[5,20,21,30],[],false,[(100000,(none,[]))],[100000,200001],[(15,[.cl 4 (.a 256) (.s 4)])],[]⟩
def UF:List ResultVar:=[.tmp 2]
def Ml(N:RecC):Gam EE:=⟨[⟨68,tH N.n⟩,⟨46,fp N.n⟩],EQT,[⟨36,eo N.n⟩,⟨69,jW N.n⟩,⟨50,fx N.n⟩,⟨34,fG N⟩,⟨61,dB N.n⟩,⟨35,dX N.n⟩],[]⟩
def M8(N:RecC)(hN:ke N):GOk Try.prog TT EE (Ml N):=GOk.cons (Dk N.n) (GOk.cons (hD N.n) (GOk.consx (eT N.n) (GOk.consx (m7 N.n) (GOk.consx (gd N.n) (GOk.consx (iZ N hN) (GOk.consx (dK N.n) (GOk.consx (eB N.n) (GOk.nil cQ))))))))
def BC(c:Code):List It2:=atL 11 c
def Cc(x51:Int)(b4:List Bool)(Zj:List UInt8)(Zg:Int)(Zi:Int)(Ze:Nat)(Zh:List Vstep):TS EE.T:=⟨187,[(0,.a (.box 100000 0)),(4,.a (.box 4 0)),(51,.a (.d (.int .i64) x51))],[(4,.row .bool b4),(100000,.cs [.d .str Zj,.d (.int .i64) Zg,.d (.int .i64) Zi,.vec (.nam 7) 200001 Ze]),(200001,.vec 200001 (.nam 7) Zh)],[]⟩
def A3(c:Code):List It2:=atR 21 c
def AF(x6:UInt8)(Zj:List UInt8)(Zg:Int)(Zi:Int)(Ze:Nat)(Zh:List Vstep):TS EE.T:=⟨187,[(0,.a (.box 100000 0)),(6,.a (.d .byte x6))],[(100000,.cs [.d .str Zj,.d (.int .i64) Zg,.d (.int .i64) Zi,.vec (.nam 7) 200001 Ze]),(200001,.vec 200001 (.nam 7) Zh)],[]⟩
def Cj(c:Code):List It2:=atR 20 c
def Bh(x6:UInt8)(x7:Bool)(x8:Bool)(Zj:List UInt8)(Zg:Int)(Zi:Int)(Ze:Nat)(Zh:List Vstep):TS EE.T:=⟨187,[(0,.a (.box 100000 0)),(6,.a (.d .byte x6)),(7,.a (.d .bool x7)),(8,.a (.d .bool x8))],[(100000,.cs [.d .str Zj,.d (.int .i64) Zg,.d (.int .i64) Zi,.vec (.nam 7) 200001 Ze]),(200001,.vec 200001 (.nam 7) Zh)],[]⟩
def AO(c:Code):List It2:=atR 30 c
def Bl(Zj:List UInt8)(Zg:Int)(Zi:Int)(Ze:Nat)(Zh:List Vstep):TS EE.T:=⟨187,[(0,.a (.box 100000 0))],[(100000,.cs [.d .str Zj,.d (.int .i64) Zg,.d (.int .i64) Zi,.vec (.nam 7) 200001 Ze]),(200001,.vec 200001 (.nam 7) Zh)],[]⟩
def Fv(c:Code):List It2:=atR 5 c
def Fd(x3:UInt8)(Zj:List UInt8)(Zg:Int)(Zi:Int)(Ze:Nat)(Zh:List Vstep):TS EE.T:=⟨187,[(0,.a (.box 100000 0)),(3,.a (.d .byte x3))],[(100000,.cs [.d .str Zj,.d (.int .i64) Zg,.d (.int .i64) Zi,.vec (.nam 7) 200001 Ze]),(200001,.vec 200001 (.nam 7) Zh)],[]⟩
def L6(c:Code):List It2:=[.c c]
def Mo(y0_0:List UInt8)(y0_1:Int)(y0_2:Int)(y0_3:Nat)(y1:List Vstep):TS EE.T:=⟨187,[(0,.a (.box 100000 0))],[(100000,.cs [.d .str y0_0,.d (.int .i64) y0_1,.d (.int .i64) y0_2,.vec (.nam 7) 200001 y0_3]),(200001,.vec 200001 (.nam 7) y1)],[]⟩
def A6(c:Code)(f:Int->(List Bool)->(List UInt8)->Int->Int->Nat->(List Vstep)->Option (PR am))(x51:Int)(b4:List Bool)(Zj:List UInt8)(Zg:Int)(Zi:Int)(Ze:Nat)(Zh:List Vstep):Tree (Lf EE.T × Option (PR am)):=.leaf (.go (BC c) (Cc x51 b4 Zj Zg Zi Ze Zh),f x51 b4 Zj Zg Zi Ze Zh)
def B6(c:Code)(f:UInt8->(List UInt8)->Int->Int->Nat->(List Vstep)->Option (PR am))(x6:UInt8)(Zj:List UInt8)(Zg:Int)(Zi:Int)(Ze:Nat)(Zh:List Vstep):Tree (Lf EE.T × Option (PR am)):=.leaf (.go (A3 c) (AF x6 Zj Zg Zi Ze Zh),f x6 Zj Zg Zi Ze Zh)
def gA(c:Code)(f:UInt8->Bool->Bool->(List UInt8)->Int->Int->Nat->(List Vstep)->Option (PR am))(x6:UInt8)(x7:Bool)(x8:Bool)(Zj:List UInt8)(Zg:Int)(Zi:Int)(Ze:Nat)(Zh:List Vstep):Tree (Lf EE.T × Option (PR am)):=.leaf (.go (Cj c) (Bh x6 x7 x8 Zj Zg Zi Ze Zh),f x6 x7 x8 Zj Zg Zi Ze Zh)
def AQ(c:Code)(f:(List UInt8)->Int->Int->Nat->(List Vstep)->Option (PR am))(Zj:List UInt8)(Zg:Int)(Zi:Int)(Ze:Nat)(Zh:List Vstep):Tree (Lf EE.T × Option (PR am)):=.leaf (.go (AO c) (Bl Zj Zg Zi Ze Zh),f Zj Zg Zi Ze Zh)
def Ha(c:Code)(f:UInt8->(List UInt8)->Int->Int->Nat->(List Vstep)->Option (PR am))(x3:UInt8)(Zj:List UInt8)(Zg:Int)(Zi:Int)(Ze:Nat)(Zh:List Vstep):Tree (Lf EE.T × Option (PR am)):=.leaf (.go (Fv c) (Fd x3 Zj Zg Zi Ze Zh),f x3 Zj Zg Zi Ze Zh)
abbrev rk(N:RecC)(r:PR am)(k:List It2)(s:TS EE.T):Prop:=fL (Y:=TT) EE (Ml N) SO UF (fun u=>u=dq r) k s
def eC(x:PR am):Tree (Lf EE.T × Option (PR am)):=.leaf (.done (dq x),some x)
def AY{N:RecC}{r:PR am}:∀ (n:Nat) (x51:Int) (b4:List Bool) (Zj:List UInt8) (Zg:Int) (Zi:Int) (Ze:Nat) (Zh:List Vstep),cJ N n x51 b4 Zj Zg Zi Ze Zh=some r->rk N r (BC (aa 0 Try.f67)) (Cc x51 b4 Zj Zg Zi Ze Zh)
 |0,_,_,_,_,_,_,_,h=>by cases h
 |n+1,x51,b4,Zj,Zg,Zi,Ze,Zh,h=>au (m:=4000) (t:=
  .cond (decide (x51 < 256))
  (
   .bnd (cf 256 x51) fun z13=>
   .bnd (ja b4 (0+z13) true) fun z14=>
   A6 (aa 0 Try.f67) (cJ N n) (w64 (x51+1)) z14 Zj Zg Zi Ze Zh)
  (
   .bnd (m9 256 b4) fun z15=>
   .bnd (aq N.n ({ kind:=0,a:=0,b:=0,set_:=(some z15) }:Vstep) Zj Zg Zi Ze Zh) fun z16=>
   .sm z16 (fun z17=>
    eC (.ok (false,z17.2.1,z17.2.2.1,z17.2.2.2.1,z17.2.2.2.2.1,z17.2.2.2.2.2))) (fun vz16=>
    eC (.pan vz16)))) (by kernel_rfl) (by kernel_rfl) h (⟨fun _=>fun _=>fun h=>(AY n) _ _ _ _ _ _ _ h,fun _=>fun _=>⟨fun _=>aE (enc:=dq) rfl,fun _=>aE (enc:=dq) rfl⟩⟩)
def AR{N:RecC}{r:PR am}(n:Nat)(x6:UInt8)(Zj:List UInt8)(Zg:Int)(Zi:Int)(Ze:Nat)(Zh:List Vstep)(h:df N n x6 Zj Zg Zi Ze Zh=some r):rk N r (A3 (aa 0 Try.f67)) (AF x6 Zj Zg Zi Ze Zh):=
 au (m:=4000) (t:=
 .bnd (aY N.n 1 Zg Zj Zg Zi Ze Zh) fun z34=>
 .sm z34 (fun z35=>
  .bnd (iE N.n x6) fun z36=>
  .bnd (aq N.n ({ kind:=0,a:=0,b:=0,set_:=z36 }:Vstep) z35.1 (w64 (z35.2.1+1)) z35.2.2.1 z35.2.2.2.1 z35.2.2.2.2) fun z37=>
  .sm z37 (fun z38=>
   eC (.ok (false,z38.2.1,z38.2.2.1,z38.2.2.2.1,z38.2.2.2.2.1,z38.2.2.2.2.2))) (fun vz37=>
   eC (.pan vz37))) (fun vz34=>
  eC (.pan vz34))) (by kernel_rfl) (by kernel_rfl) h (fun _=>⟨fun _=>fun _=>fun _=>⟨fun _=>aE (enc:=dq) rfl,fun _=>aE (enc:=dq) rfl⟩,fun _=>aE (enc:=dq) rfl⟩)
def w67i0oR20{N:RecC}{r:PR am}(n:Nat)(x6:UInt8)(x7:Bool)(x8:Bool)(Zj:List UInt8)(Zg:Int)(Zi:Int)(Ze:Nat)(Zh:List Vstep)(h:ar N n x6 x7 x8 Zj Zg Zi Ze Zh=some r):rk N r (Cj (aa 0 Try.f67)) (Bh x6 x7 x8 Zj Zg Zi Ze Zh):=
 au (m:=4000) (t:=
 .cond (!x7)
 (
  B6 (aa 0 Try.f67) (df N n) x6 Zj Zg Zi Ze Zh)
 (
  .cond (x8)
  (
   B6 (aa 0 Try.f67) (df N n) x6 Zj Zg Zi Ze Zh)
  (
   .bnd (iE N.n x6) fun z18=>
   .bnd (aq N.n ({ kind:=0,a:=0,b:=0,set_:=z18 }:Vstep) Zj (w64 (Zg+1)) Zi Ze Zh) fun z19=>
   .sm z19 (fun z20=>
    eC (.ok (false,z20.2.1,z20.2.2.1,z20.2.2.2.1,z20.2.2.2.2.1,z20.2.2.2.2.2))) (fun vz19=>
    eC (.pan vz19))))) (by kernel_rfl) (by kernel_rfl) h (⟨fun h=>AR n _ _ _ _ _ _ h,⟨fun h=>AR n _ _ _ _ _ _ h,fun _=>fun _=>⟨fun _=>aE (enc:=dq) rfl,fun _=>aE (enc:=dq) rfl⟩⟩⟩)
def Cb{N:RecC}{r:PR am}(n:Nat)(Zj:List UInt8)(Zg:Int)(Zi:Int)(Ze:Nat)(Zh:List Vstep)(h:dg N n Zj Zg Zi Ze Zh=some r):rk N r (AO (aa 0 Try.f67)) (Bl Zj Zg Zi Ze Zh):=
 au (m:=4000) (t:=
 .bnd (aq N.n ({ kind:=3,a:=w64 (2 * (w64 (Zi+1))),b:=0,set_:=(none:Option (List Bool)) }:Vstep) Zj (w64 (Zg+1)) (w64 (Zi+1)) Ze Zh) fun z21=>
 .sm z21 (fun z22=>
  .bnd (dY N z22.2.1 z22.2.2.1 z22.2.2.2.1 z22.2.2.2.2.1 z22.2.2.2.2.2) fun z23=>
  .sm z23 (fun z24=>
   .bnd (aq N.n ({ kind:=3,a:=w64 ((w64 (2 * (w64 (Zi+1))))+1),b:=0,set_:=(none:Option (List Bool)) }:Vstep) z24.2.1 z24.2.2.1 z24.2.2.2.1 z24.2.2.2.2.1 z24.2.2.2.2.2) fun z25=>
   .sm z25 (fun z26=>
    .bnd (bj N.n 41 z26.2.1 z26.2.2.1 z26.2.2.2.1 z26.2.2.2.2.1 z26.2.2.2.2.2) fun z27=>
    .sm z27 (fun z28=>
     .cond (!z28.1)
     (
      .bnd (aY N.n 1 z28.2.2.1 z28.2.1 z28.2.2.1 z28.2.2.2.1 z28.2.2.2.2.1 z28.2.2.2.2.2) fun z29=>
      .sm z29 (fun z30=>
       eC (.ok (z24.1,z30.1,z30.2.1,z30.2.2.1,z30.2.2.2.1,z30.2.2.2.2))) (fun vz29=>
       eC (.pan vz29)))
     (
      eC (.ok (z24.1,z28.2.1,z28.2.2.1,z28.2.2.2.1,z28.2.2.2.2.1,z28.2.2.2.2.2)))) (fun vz27=>
     eC (.pan vz27))) (fun vz25=>
    eC (.pan vz25))) (fun vz23=>
   eC (.pan vz23))) (fun vz21=>
  eC (.pan vz21))) (by kernel_rfl) (by kernel_rfl) h (fun _=>⟨fun _=>fun _=>⟨fun _=>fun _=>⟨fun _=>fun _=>⟨fun _=>⟨fun _=>⟨fun _=>aE (enc:=dq) rfl,fun _=>aE (enc:=dq) rfl⟩,aE (enc:=dq) rfl⟩,fun _=>aE (enc:=dq) rfl⟩,fun _=>aE (enc:=dq) rfl⟩,fun _=>aE (enc:=dq) rfl⟩,fun _=>aE (enc:=dq) rfl⟩)
def FH{N:RecC}{r:PR am}(n:Nat)(x3:UInt8)(Zj:List UInt8)(Zg:Int)(Zi:Int)(Ze:Nat)(Zh:List Vstep)(h:dr N n x3 Zj Zg Zi Ze Zh=some r):rk N r (Fv (aa 0 Try.f67)) (Fd x3 Zj Zg Zi Ze Zh):=
 au (m:=4000) (t:=
 .bnd (iE N.n x3) fun z31=>
 .bnd (aq N.n ({ kind:=0,a:=0,b:=0,set_:=z31 }:Vstep) Zj (w64 (Zg+1)) Zi Ze Zh) fun z32=>
 .sm z32 (fun z33=>
  eC (.ok (false,z33.2.1,z33.2.2.1,z33.2.2.2.1,z33.2.2.2.2.1,z33.2.2.2.2.2))) (fun vz32=>
  eC (.pan vz32))) (by kernel_rfl) (by kernel_rfl) h (fun _=>fun _=>⟨fun _=>aE (enc:=dq) rfl,fun _=>aE (enc:=dq) rfl⟩)
def RE{N:RecC}{r:PR am}(y0_0:List UInt8)(y0_1:Int)(y0_2:Int)(y0_3:Nat)(y1:List Vstep)(h:bT N y0_0 y0_1 y0_2 y0_3 y1=some r):rk N r (L6 (aa 0 Try.f67)) (Mo y0_0 y0_1 y0_2 y0_3 y1):=
 au (m:=4000) (t:=
 .bnd (ci y0_0 y0_1) fun z1=>
 .cond ((b2i z1)==(b2i 46))
 (
  A6 (aa 0 Try.f67) (cJ N N.n) 0 (List.replicate 256 false) y0_0 (w64 (y0_1+1)) y0_2 y0_3 y1)
 (
  .cond ((b2i z1)==(b2i 92))
  (
   .bnd (aT N.n y0_0 (w64 (y0_1+1)) y0_2 y0_3 y1) fun z2=>
   .sm z2 (fun z3=>
    .cond (decide ((b2i z3.1)>=(b2i 97)))
    (
     .cond (decide ((b2i z3.1)<=(b2i 122)))
     (
      gA (aa 0 Try.f67) (ar N N.n) z3.1 z3.2.1 true z3.2.2.1 z3.2.2.2.1 z3.2.2.2.2.1 z3.2.2.2.2.2.1 z3.2.2.2.2.2.2)
     (
      .cond (decide ((b2i z3.1)>=(b2i 65)))
      (
       .cond (decide ((b2i z3.1)<=(b2i 90)))
       (
        gA (aa 0 Try.f67) (ar N N.n) z3.1 z3.2.1 true z3.2.2.1 z3.2.2.2.1 z3.2.2.2.2.1 z3.2.2.2.2.2.1 z3.2.2.2.2.2.2)
       (
        .cond (decide ((b2i z3.1)>=(b2i 48)))
        (
         gA (aa 0 Try.f67) (ar N N.n) z3.1 z3.2.1 (decide ((b2i z3.1)<=(b2i 57))) z3.2.2.1 z3.2.2.2.1 z3.2.2.2.2.1 z3.2.2.2.2.2.1 z3.2.2.2.2.2.2)
        (
         gA (aa 0 Try.f67) (ar N N.n) z3.1 z3.2.1 false z3.2.2.1 z3.2.2.2.1 z3.2.2.2.2.1 z3.2.2.2.2.2.1 z3.2.2.2.2.2.2)))
      (
       .cond (decide ((b2i z3.1)>=(b2i 48)))
       (
        gA (aa 0 Try.f67) (ar N N.n) z3.1 z3.2.1 (decide ((b2i z3.1)<=(b2i 57))) z3.2.2.1 z3.2.2.2.1 z3.2.2.2.2.1 z3.2.2.2.2.2.1 z3.2.2.2.2.2.2)
       (
        gA (aa 0 Try.f67) (ar N N.n) z3.1 z3.2.1 false z3.2.2.1 z3.2.2.2.1 z3.2.2.2.2.1 z3.2.2.2.2.2.1 z3.2.2.2.2.2.2))))
    (
     .cond (decide ((b2i z3.1)>=(b2i 65)))
     (
      .cond (decide ((b2i z3.1)<=(b2i 90)))
      (
       gA (aa 0 Try.f67) (ar N N.n) z3.1 z3.2.1 true z3.2.2.1 z3.2.2.2.1 z3.2.2.2.2.1 z3.2.2.2.2.2.1 z3.2.2.2.2.2.2)
      (
       .cond (decide ((b2i z3.1)>=(b2i 48)))
       (
        gA (aa 0 Try.f67) (ar N N.n) z3.1 z3.2.1 (decide ((b2i z3.1)<=(b2i 57))) z3.2.2.1 z3.2.2.2.1 z3.2.2.2.2.1 z3.2.2.2.2.2.1 z3.2.2.2.2.2.2)
       (
        gA (aa 0 Try.f67) (ar N N.n) z3.1 z3.2.1 false z3.2.2.1 z3.2.2.2.1 z3.2.2.2.2.1 z3.2.2.2.2.2.1 z3.2.2.2.2.2.2)))
     (
      .cond (decide ((b2i z3.1)>=(b2i 48)))
      (
       gA (aa 0 Try.f67) (ar N N.n) z3.1 z3.2.1 (decide ((b2i z3.1)<=(b2i 57))) z3.2.2.1 z3.2.2.2.1 z3.2.2.2.2.1 z3.2.2.2.2.2.1 z3.2.2.2.2.2.2)
      (
       gA (aa 0 Try.f67) (ar N N.n) z3.1 z3.2.1 false z3.2.2.1 z3.2.2.2.1 z3.2.2.2.2.1 z3.2.2.2.2.2.1 z3.2.2.2.2.2.2)))) (fun vz2=>
    eC (.pan vz2)))
  (
   .cond ((b2i z1)==(b2i 91))
   (
    .bnd (dD N.n y0_0 (w64 (y0_1+1)) y0_2 y0_3 y1) fun z4=>
    .sm z4 (fun z5=>
     .bnd (aq N.n ({ kind:=0,a:=0,b:=0,set_:=z5.1 }:Vstep) z5.2.1 z5.2.2.1 z5.2.2.2.1 z5.2.2.2.2.1 z5.2.2.2.2.2) fun z6=>
     .sm z6 (fun z7=>
      eC (.ok (false,z7.2.1,z7.2.2.1,z7.2.2.2.1,z7.2.2.2.2.1,z7.2.2.2.2.2))) (fun vz6=>
      eC (.pan vz6))) (fun vz4=>
     eC (.pan vz4)))
   (
    .cond ((b2i z1)==(b2i 40))
    (
     .cond (y0_2==9)
     (
      .bnd (aY N.n 2 y0_1 y0_0 y0_1 y0_2 y0_3 y1) fun z8=>
      .sm z8 (fun z9=>
       AQ (aa 0 Try.f67) (dg N N.n) z9.1 z9.2.1 z9.2.2.1 z9.2.2.2.1 z9.2.2.2.2) (fun vz8=>
       eC (.pan vz8)))
     (
      AQ (aa 0 Try.f67) (dg N N.n) y0_0 y0_1 y0_2 y0_3 y1))
    (
     .bnd (da N.n ([42,43,63,41,124,93] :List UInt8) z1) fun z10=>
     .cond (decide (z10>=0))
     (
      .bnd (aY N.n 1 y0_1 y0_0 y0_1 y0_2 y0_3 y1) fun z11=>
      .sm z11 (fun z12=>
       Ha (aa 0 Try.f67) (dr N N.n) z1 z12.1 z12.2.1 z12.2.2.1 z12.2.2.2.1 z12.2.2.2.2) (fun vz11=>
       eC (.pan vz11)))
     (
      Ha (aa 0 Try.f67) (dr N N.n) z1 y0_0 y0_1 y0_2 y0_3 y1)))))) (by kernel_rfl) (by kernel_rfl) h (fun _=>⟨fun h=>AY N.n _ _ _ _ _ _ _ h,⟨fun _=>⟨fun _=>⟨⟨fun h=>w67i0oR20 N.n _ _ _ _ _ _ _ _ h,⟨⟨fun h=>w67i0oR20 N.n _ _ _ _ _ _ _ _ h,⟨fun h=>w67i0oR20 N.n _ _ _ _ _ _ _ _ h,fun h=>w67i0oR20 N.n _ _ _ _ _ _ _ _ h⟩⟩,⟨fun h=>w67i0oR20 N.n _ _ _ _ _ _ _ _ h,fun h=>w67i0oR20 N.n _ _ _ _ _ _ _ _ h⟩⟩⟩,⟨⟨fun h=>w67i0oR20 N.n _ _ _ _ _ _ _ _ h,⟨fun h=>w67i0oR20 N.n _ _ _ _ _ _ _ _ h,fun h=>w67i0oR20 N.n _ _ _ _ _ _ _ _ h⟩⟩,⟨fun h=>w67i0oR20 N.n _ _ _ _ _ _ _ _ h,fun h=>w67i0oR20 N.n _ _ _ _ _ _ _ _ h⟩⟩⟩,fun _=>aE (enc:=dq) rfl⟩,⟨fun _=>⟨fun _=>fun _=>⟨fun _=>aE (enc:=dq) rfl,fun _=>aE (enc:=dq) rfl⟩,fun _=>aE (enc:=dq) rfl⟩,⟨⟨fun _=>⟨fun _=>fun h=>Cb N.n _ _ _ _ _ h,fun _=>aE (enc:=dq) rfl⟩,fun h=>Cb N.n _ _ _ _ _ h⟩,fun _=>⟨fun _=>⟨fun _=>fun h=>FH N.n _ _ _ _ _ _ h,fun _=>aE (enc:=dq) rfl⟩,fun h=>FH N.n _ _ _ _ _ _ h⟩⟩⟩⟩⟩)
def JS(y0_0:List UInt8)(y0_1:Int)(y0_2:Int)(y0_3:Nat)(y1:List Vstep):List (TV EE.T):=[.a (.box 100000 0)]
def Cs(y0_0:List UInt8)(y0_1:Int)(y0_2:Int)(y0_3:Nat)(y1:List Vstep):List (Nat × TB EE.T):=[(100000,.cs [.d .str y0_0,.d (.int .i64) y0_1,.d (.int .i64) y0_2,.vec (.nam 7) 200001 y0_3]),(200001,.vec 200001 (.nam 7) y1)]
def nc{N:RecC}(hN:ke N)(y0_0:List UInt8)(y0_1:Int)(y0_2:Int)(y0_3:Nat)(y1:List Vstep){r:PR am}(h:bT N y0_0 y0_1 y0_2 y0_3 y1=some r)(I:Rn)(hi:Inj I (Cs y0_0 y0_1 y0_2 y0_3 y1)):aI Try.prog 67 ((JS y0_0 y0_1 y0_2 y0_3 y1).map (TV.to EE.toEnc I)) (hTo EE.toEnc I (Cs y0_0 y0_1 y0_2 y0_3 y1)) (cH EE I fun u=>u=dq r):=
 dI (aa 0 Try.f67) 187 mixed (M8 N hN) Try.func67 (by kernel_rfl) rfl rfl rfl rfl (RE y0_0 y0_1 y0_2 y0_3 y1 h) I hi
def jo(N:RecC)(us:List (TV EE.T))(hs:List (Nat × TB EE.T)):XR EE.T:=
 gdX (d7 us 1) <|
 bnX (aB us 0) fun i0=>
 bnX (bC hs i0) fun l0=>
 gdX (d7 l0 4) <|
 bnX (cD .str l0 0) fun y0_0=>
 bnX (cD (.int .i64) l0 1) fun y0_1=>
 bnX (cD (.int .i64) l0 2) fun y0_2=>
 bnX (cVi (.nam 7) l0 3) fun i1=>
 bnX (cVn (.nam 7) l0 3) fun y0_3=>
 bnX (bV (.nam 7) hs i1) fun y1=>
 gdX (bx hs [i0,i1]) <|
 gdX (ip [i0,i1]) <|
 .mv (bT N y0_0 y0_1 y0_2 y0_3 y1) [i0,i1] (mvL [i0,i1] [100000,200001]) 0 (fe i0 i1) (xC i0 i1)
def mH(N:RecC)(hN:ke N):XOk Try.prog EE 67 (jo N):=fun us hs=>
 ay fun h1=>ab fun i0 h2=>ab fun l0 h3=>ay fun h4=>ab fun y0_0 h5=>ab fun y0_1 h6=>ab fun y0_2 h7=>ab fun i1 h8=>ab fun y0_3 h9=>ab fun y1 h10=>ay fun h11=>ay fun h12=>fun p hz I hi=>gh (ex:=[]) (ks:=[100000,200001]) (us':=JS y0_0 y0_1 y0_2 y0_3 y1) (h0:=Cs y0_0 y0_1 y0_2 y0_3 y1) (ρ':=jh I [i0,i1]) (uc:=fe 100000 200001) (u:=fe i0 i1) (hc:=xC 100000 200001) (h:=xC i0 i1) hi h11 (by kernel_rfl) ⟨gG h2 (by kernel_rfl),bA h1⟩ ⟨(by kernel_rfl),jD h3 ⟨ei h5,ei h6,ei h7,gi h8 h9 (by kernel_rfl),bA h4⟩,(by kernel_rfl),iw h10 (by kernel_rfl),trivial⟩ ⟨.inr rfl,.inl rfl,trivial⟩ h12 (fun hj=>nc hN y0_0 y0_1 y0_2 y0_3 y1 hz _ hj) (fun z=>⟨by kernel_rfl,by kernel_rfl,by kernel_rfl,by kernel_rfl⟩)
def eQ(i0:Nat)(i1:Nat)(r:aG):TV EE.T:=.a (.d .bool r.1)
def xx(i0:Nat)(i1:Nat)(r:aG):List (Nat × TB EE.T):=[(i0,.cs [.d .str r.2.1,.d (.int .i64) r.2.2.1,.d (.int .i64) r.2.2.2.1,.vec (.nam 7) i1 r.2.2.2.2.1]),(i1,.vec i1 (.nam 7) r.2.2.2.2.2)]
def er(r:PR aG):RL EE.T:=mM (eQ 100000 200001) (xx 100000 200001) r
def Tu:Lvs:=⟨[(2,⟨[(0,false),(3,false)],[],[(100000,(none,[])),(200001,(none,[]))],[]⟩),(7,⟨[(0,false),(3,false),(4,false),(5,false),(6,false)],[],[(100000,(none,[])),(200001,(none,[]))],[]⟩),(9,⟨[(0,false),(3,false),(6,false)],[],[(100000,(none,[])),(200001,(none,[]))],[]⟩),(14,⟨[(0,false),(3,false),(8,false),(9,false)],[],[(100000,(none,[])),(200001,(none,[]))],[]⟩),(17,⟨[(0,false),(9,false)],[],[(100000,(none,[])),(200001,(none,[]))],[]⟩),(22,⟨[(0,false),(10,false)],[],[(100000,(none,[])),(200001,(none,[]))],[]⟩),(25,⟨[(0,false),(3,false),(8,false),(11,false)],[],[(100000,(none,[])),(200001,(none,[]))],[]⟩),(27,⟨[(0,false),(11,false)],[],[(100000,(none,[])),(200001,(none,[]))],[]⟩)],[],[7,9],[],false,[(100000,(none,[]))],[100000,200001],[],[]⟩
def Tc:List ResultVar:=[.tmp 2]
def Rd(N:RecC):Gam EE:=⟨[],EQT,[⟨52,gR N.n⟩,⟨36,eo N.n⟩,⟨35,dX N.n⟩,⟨61,dB N.n⟩,⟨67,jo N⟩,⟨51,gS N.n⟩],[]⟩
def QV(N:RecC)(hN:ke N):GOk Try.prog TT EE (Rd N):=GOk.consx (iX N.n) (GOk.consx (eT N.n) (GOk.consx (eB N.n) (GOk.consx (dK N.n) (GOk.consx (mH N hN) (GOk.consx (i8 N.n) (GOk.nil cQ))))))
def FT(c:Code):List It2:=atR 9 c
def FP(x3:Int)(x6:UInt8)(Zj:List UInt8)(Zg:Int)(Zi:Int)(Ze:Nat)(Zh:List Vstep):TS EE.T:=⟨164,[(0,.a (.box 100000 0)),(3,.a (.d (.int .i64) x3)),(6,.a (.d .byte x6))],[(100000,.cs [.d .str Zj,.d (.int .i64) Zg,.d (.int .i64) Zi,.vec (.nam 7) 200001 Ze]),(200001,.vec 200001 (.nam 7) Zh)],[]⟩
def EI(c:Code):List It2:=atR 7 c
def Ev(x3:Int)(x4:Bool)(x5:Bool)(x6:UInt8)(Zj:List UInt8)(Zg:Int)(Zi:Int)(Ze:Nat)(Zh:List Vstep):TS EE.T:=⟨164,[(0,.a (.box 100000 0)),(3,.a (.d (.int .i64) x3)),(4,.a (.d .bool x4)),(5,.a (.d .bool x5)),(6,.a (.d .byte x6))],[(100000,.cs [.d .str Zj,.d (.int .i64) Zg,.d (.int .i64) Zi,.vec (.nam 7) 200001 Ze]),(200001,.vec 200001 (.nam 7) Zh)],[]⟩
def PX(c:Code):List It2:=[.c c]
def PZ(y0_0:List UInt8)(y0_1:Int)(y0_2:Int)(y0_3:Nat)(y1:List Vstep):TS EE.T:=⟨164,[(0,.a (.box 100000 0))],[(100000,.cs [.d .str y0_0,.d (.int .i64) y0_1,.d (.int .i64) y0_2,.vec (.nam 7) 200001 y0_3]),(200001,.vec 200001 (.nam 7) y1)],[]⟩
def uL(c:Code)(f:Int->UInt8->(List UInt8)->Int->Int->Nat->(List Vstep)->Option (PR aG))(x3:Int)(x6:UInt8)(Zj:List UInt8)(Zg:Int)(Zi:Int)(Ze:Nat)(Zh:List Vstep):Tree (Lf EE.T × Option (PR aG)):=.leaf (.go (FT c) (FP x3 x6 Zj Zg Zi Ze Zh),f x3 x6 Zj Zg Zi Ze Zh)
def zP(c:Code)(f:Int->Bool->Bool->UInt8->(List UInt8)->Int->Int->Nat->(List Vstep)->Option (PR aG))(x3:Int)(x4:Bool)(x5:Bool)(x6:UInt8)(Zj:List UInt8)(Zg:Int)(Zi:Int)(Ze:Nat)(Zh:List Vstep):Tree (Lf EE.T × Option (PR aG)):=.leaf (.go (EI c) (Ev x3 x4 x5 x6 Zj Zg Zi Ze Zh),f x3 x4 x5 x6 Zj Zg Zi Ze Zh)
abbrev DG(N:RecC)(r:PR aG)(k:List It2)(s:TS EE.T):Prop:=fL (Y:=TT) EE (Rd N) Tu Tc (fun u=>u=er r) k s
def gq(x:PR aG):Tree (Lf EE.T × Option (PR aG)):=.leaf (.done (er x),some x)
def uX{N:RecC}{r:PR aG}(n:Nat)(x3:Int)(x6:UInt8)(Zj:List UInt8)(Zg:Int)(Zi:Int)(Ze:Nat)(Zh:List Vstep)(h:bo N n x3 x6 Zj Zg Zi Ze Zh=some r):DG N r (FT (aa 0 Try.f62)) (FP x3 x6 Zj Zg Zi Ze Zh):=
 au (m:=4000) (t:=
 .bnd (cz N.n x3 Zj (w64 (Zg+1)) Zi Ze Zh) fun z8=>
 .sm z8 (fun z9=>
  .cond ((b2i x6)==(b2i 42))
  (
   .bnd (aq N.n ({ kind:=1,a:=0,b:=0,set_:=(none:Option (List Bool)) }:Vstep) z9.2.1 z9.2.2.1 z9.2.2.2.1 z9.2.2.2.2.1 z9.2.2.2.2.2) fun z10=>
   .sm z10 (fun z11=>
    .bnd (cf z11.2.2.2.2.1 z11.1) fun z12=>
    .bnd (z11.2.2.2.2.2[z12]?) fun z13=>
    .bnd (bq N.n z9.1 x3 z11.2.1 z11.2.2.1 z11.2.2.2.1 z11.2.2.2.2.1 (List.set z11.2.2.2.2.2 z12 ({ kind:=z13.kind,a:=(z11.2.2.2.2.1:Int),b:=z13.b,set_:=z13.set_ }:Vstep))) fun z14=>
    .sm z14 (fun z15=>
     .bnd (aq N.n ({ kind:=2,a:=z11.1,b:=0,set_:=(none:Option (List Bool)) }:Vstep) z15.1 z15.2.1 z15.2.2.1 z15.2.2.2.1 z15.2.2.2.2) fun z16=>
     .sm z16 (fun z17=>
      .bnd (cf z17.2.2.2.2.1 z11.1) fun z18=>
      .bnd (z17.2.2.2.2.2[z18]?) fun z19=>
      gq (.ok (true,z17.2.1,z17.2.2.1,z17.2.2.2.1,z17.2.2.2.2.1,List.set z17.2.2.2.2.2 z18 ({ kind:=z19.kind,a:=z19.a,b:=(z17.2.2.2.2.1:Int),set_:=z19.set_ }:Vstep)))) (fun vz16=>
      gq (.pan vz16))) (fun vz14=>
     gq (.pan vz14))) (fun vz10=>
    gq (.pan vz10)))
  (
   .cond ((b2i x6)==(b2i 43))
   (
    .bnd (bq N.n z9.1 x3 z9.2.1 z9.2.2.1 z9.2.2.2.1 z9.2.2.2.2.1 z9.2.2.2.2.2) fun z20=>
    .sm z20 (fun z21=>
     .bnd (aq N.n ({ kind:=1,a:=x3,b:=0,set_:=(none:Option (List Bool)) }:Vstep) z21.1 z21.2.1 z21.2.2.1 z21.2.2.2.1 z21.2.2.2.2) fun z22=>
     .sm z22 (fun z23=>
      .bnd (cf z23.2.2.2.2.1 z23.1) fun z24=>
      .bnd (z23.2.2.2.2.2[z24]?) fun z25=>
      gq (.ok (false,z23.2.1,z23.2.2.1,z23.2.2.2.1,z23.2.2.2.2.1,List.set z23.2.2.2.2.2 z24 ({ kind:=z25.kind,a:=z25.a,b:=(z23.2.2.2.2.1:Int),set_:=z25.set_ }:Vstep)))) (fun vz22=>
      gq (.pan vz22))) (fun vz20=>
     gq (.pan vz20)))
   (
    .bnd (aq N.n ({ kind:=1,a:=0,b:=0,set_:=(none:Option (List Bool)) }:Vstep) z9.2.1 z9.2.2.1 z9.2.2.2.1 z9.2.2.2.2.1 z9.2.2.2.2.2) fun z26=>
    .sm z26 (fun z27=>
     .bnd (cf z27.2.2.2.2.1 z27.1) fun z28=>
     .bnd (z27.2.2.2.2.2[z28]?) fun z29=>
     .bnd (bq N.n z9.1 x3 z27.2.1 z27.2.2.1 z27.2.2.2.1 z27.2.2.2.2.1 (List.set z27.2.2.2.2.2 z28 ({ kind:=z29.kind,a:=(z27.2.2.2.2.1:Int),b:=z29.b,set_:=z29.set_ }:Vstep))) fun z30=>
     .sm z30 (fun z31=>
      .bnd (cf z31.2.2.2.1 z27.1) fun z32=>
      .bnd (z31.2.2.2.2[z32]?) fun z33=>
      gq (.ok (true,z31.1,z31.2.1,z31.2.2.1,z31.2.2.2.1,List.set z31.2.2.2.2 z32 ({ kind:=z33.kind,a:=z33.a,b:=(z31.2.2.2.1:Int),set_:=z33.set_ }:Vstep)))) (fun vz30=>
      gq (.pan vz30))) (fun vz26=>
     gq (.pan vz26))))) (fun vz8=>
  gq (.pan vz8))) (by kernel_rfl) (by kernel_rfl) h (fun _=>⟨fun _=>⟨fun _=>⟨fun _=>fun _=>fun _=>fun _=>⟨fun _=>fun _=>⟨fun _=>fun _=>fun _=>aE (enc:=er) rfl,fun _=>aE (enc:=er) rfl⟩,fun _=>aE (enc:=er) rfl⟩,fun _=>aE (enc:=er) rfl⟩,⟨fun _=>⟨fun _=>fun _=>⟨fun _=>fun _=>fun _=>aE (enc:=er) rfl,fun _=>aE (enc:=er) rfl⟩,fun _=>aE (enc:=er) rfl⟩,fun _=>⟨fun _=>fun _=>fun _=>fun _=>⟨fun _=>fun _=>fun _=>aE (enc:=er) rfl,fun _=>aE (enc:=er) rfl⟩,fun _=>aE (enc:=er) rfl⟩⟩⟩,fun _=>aE (enc:=er) rfl⟩)
def yY{N:RecC}{r:PR aG}(n:Nat)(x3:Int)(x4:Bool)(x5:Bool)(x6:UInt8)(Zj:List UInt8)(Zg:Int)(Zi:Int)(Ze:Nat)(Zh:List Vstep)(h:be N n x3 x4 x5 x6 Zj Zg Zi Ze Zh=some r):DG N r (EI (aa 0 Try.f62)) (Ev x3 x4 x5 x6 Zj Zg Zi Ze Zh):=
 au (m:=4000) (t:=
 .cond (x5)
 (
  .cond (x4)
  (
   .cond ((b2i x6) != (b2i 63))
   (
    .bnd (aY N.n 4 Zg Zj Zg Zi Ze Zh) fun z6=>
    .sm z6 (fun z7=>
     uL (aa 0 Try.f62) (bo N n) x3 x6 z7.1 z7.2.1 z7.2.2.1 z7.2.2.2.1 z7.2.2.2.2) (fun vz6=>
     gq (.pan vz6)))
   (
    uL (aa 0 Try.f62) (bo N n) x3 x6 Zj Zg Zi Ze Zh))
  (
   uL (aa 0 Try.f62) (bo N n) x3 x6 Zj Zg Zi Ze Zh))
 (
  uL (aa 0 Try.f62) (bo N n) x3 x6 Zj Zg Zi Ze Zh)) (by kernel_rfl) (by kernel_rfl) h (⟨⟨⟨fun _=>⟨fun _=>fun h=>uX n _ _ _ _ _ _ _ h,fun _=>aE (enc:=er) rfl⟩,fun h=>uX n _ _ _ _ _ _ _ h⟩,fun h=>uX n _ _ _ _ _ _ _ h⟩,fun h=>uX n _ _ _ _ _ _ _ h⟩)
def MZ{N:RecC}{r:PR aG}(y0_0:List UInt8)(y0_1:Int)(y0_2:Int)(y0_3:Nat)(y1:List Vstep)(h:dp N y0_0 y0_1 y0_2 y0_3 y1=some r):DG N r (PX (aa 0 Try.f62)) (PZ y0_0 y0_1 y0_2 y0_3 y1):=
 au (m:=4000) (t:=
 .bnd (ci y0_0 y0_1) fun z1=>
 .bnd (bT N y0_0 y0_1 y0_2 y0_3 y1) fun z2=>
 .sm z2 (fun z3=>
  .bnd (aT N.n z3.2.1 z3.2.2.1 z3.2.2.2.1 z3.2.2.2.2.1 z3.2.2.2.2.2) fun z4=>
  .sm z4 (fun z5=>
   .cond (!z5.2.1)
   (
    gq (.ok (z3.1,z5.2.2.1,z5.2.2.2.1,z5.2.2.2.2.1,z5.2.2.2.2.2.1,z5.2.2.2.2.2.2)))
   (
    .cond ((b2i z5.1) != (b2i 42))
    (
     .cond ((b2i z5.1) != (b2i 43))
     (
      .cond ((b2i z5.1) != (b2i 63))
      (
       gq (.ok (z3.1,z5.2.2.1,z5.2.2.2.1,z5.2.2.2.2.1,z5.2.2.2.2.2.1,z5.2.2.2.2.2.2)))
      (
       zP (aa 0 Try.f62) (be N N.n) (y0_3:Int) ((b2i z1)==(b2i 40)) z3.1 z5.1 z5.2.2.1 z5.2.2.2.1 z5.2.2.2.2.1 z5.2.2.2.2.2.1 z5.2.2.2.2.2.2))
     (
      zP (aa 0 Try.f62) (be N N.n) (y0_3:Int) ((b2i z1)==(b2i 40)) z3.1 z5.1 z5.2.2.1 z5.2.2.2.1 z5.2.2.2.2.1 z5.2.2.2.2.2.1 z5.2.2.2.2.2.2))
    (
     zP (aa 0 Try.f62) (be N N.n) (y0_3:Int) ((b2i z1)==(b2i 40)) z3.1 z5.1 z5.2.2.1 z5.2.2.2.1 z5.2.2.2.2.1 z5.2.2.2.2.2.1 z5.2.2.2.2.2.2))) (fun vz4=>
   gq (.pan vz4))) (fun vz2=>
  gq (.pan vz2))) (by kernel_rfl) (by kernel_rfl) h (fun _=>fun _=>⟨fun _=>fun _=>⟨fun _=>⟨aE (enc:=er) rfl,⟨⟨⟨aE (enc:=er) rfl,fun h=>yY N.n _ _ _ _ _ _ _ _ _ h⟩,fun h=>yY N.n _ _ _ _ _ _ _ _ _ h⟩,fun h=>yY N.n _ _ _ _ _ _ _ _ _ h⟩⟩,fun _=>aE (enc:=er) rfl⟩,fun _=>aE (enc:=er) rfl⟩)
def Jb(y0_0:List UInt8)(y0_1:Int)(y0_2:Int)(y0_3:Nat)(y1:List Vstep):List (TV EE.T):=[.a (.box 100000 0)]
def D3(y0_0:List UInt8)(y0_1:Int)(y0_2:Int)(y0_3:Nat)(y1:List Vstep):List (Nat × TB EE.T):=[(100000,.cs [.d .str y0_0,.d (.int .i64) y0_1,.d (.int .i64) y0_2,.vec (.nam 7) 200001 y0_3]),(200001,.vec 200001 (.nam 7) y1)]
def mF{N:RecC}(hN:ke N)(y0_0:List UInt8)(y0_1:Int)(y0_2:Int)(y0_3:Nat)(y1:List Vstep){r:PR aG}(h:dp N y0_0 y0_1 y0_2 y0_3 y1=some r)(I:Rn)(hi:Inj I (D3 y0_0 y0_1 y0_2 y0_3 y1)):aI Try.prog 62 ((Jb y0_0 y0_1 y0_2 y0_3 y1).map (TV.to EE.toEnc I)) (hTo EE.toEnc I (D3 y0_0 y0_1 y0_2 y0_3 y1)) (cH EE I fun u=>u=er r):=
 dI (aa 0 Try.f62) 164 mixed (QV N hN) Try.func62 (by kernel_rfl) rfl rfl rfl rfl (MZ y0_0 y0_1 y0_2 y0_3 y1 h) I hi
def iU(N:RecC)(us:List (TV EE.T))(hs:List (Nat × TB EE.T)):XR EE.T:=
 gdX (d7 us 1) <|
 bnX (aB us 0) fun i0=>
 bnX (bC hs i0) fun l0=>
 gdX (d7 l0 4) <|
 bnX (cD .str l0 0) fun y0_0=>
 bnX (cD (.int .i64) l0 1) fun y0_1=>
 bnX (cD (.int .i64) l0 2) fun y0_2=>
 bnX (cVi (.nam 7) l0 3) fun i1=>
 bnX (cVn (.nam 7) l0 3) fun y0_3=>
 bnX (bV (.nam 7) hs i1) fun y1=>
 gdX (bx hs [i0,i1]) <|
 gdX (ip [i0,i1]) <|
 .mv (dp N y0_0 y0_1 y0_2 y0_3 y1) [i0,i1] (mvL [i0,i1] [100000,200001]) 0 (eQ i0 i1) (xx i0 i1)
def lS(N:RecC)(hN:ke N):XOk Try.prog EE 62 (iU N):=fun us hs=>
 ay fun h1=>ab fun i0 h2=>ab fun l0 h3=>ay fun h4=>ab fun y0_0 h5=>ab fun y0_1 h6=>ab fun y0_2 h7=>ab fun i1 h8=>ab fun y0_3 h9=>ab fun y1 h10=>ay fun h11=>ay fun h12=>fun p hz I hi=>gh (ex:=[]) (ks:=[100000,200001]) (us':=Jb y0_0 y0_1 y0_2 y0_3 y1) (h0:=D3 y0_0 y0_1 y0_2 y0_3 y1) (ρ':=jh I [i0,i1]) (uc:=eQ 100000 200001) (u:=eQ i0 i1) (hc:=xx 100000 200001) (h:=xx i0 i1) hi h11 (by kernel_rfl) ⟨gG h2 (by kernel_rfl),bA h1⟩ ⟨(by kernel_rfl),jD h3 ⟨ei h5,ei h6,ei h7,gi h8 h9 (by kernel_rfl),bA h4⟩,(by kernel_rfl),iw h10 (by kernel_rfl),trivial⟩ ⟨.inr rfl,.inl rfl,trivial⟩ h12 (fun hj=>mF hN y0_0 y0_1 y0_2 y0_3 y1 hz _ hj) (fun z=>⟨by kernel_rfl,by kernel_rfl,by kernel_rfl,by kernel_rfl⟩)
def fz(i0:Nat)(i1:Nat)(r:bm):TV EE.T:=.a (.d .bool r.1)
def xw(i0:Nat)(i1:Nat)(r:bm):List (Nat × TB EE.T):=[(i0,.cs [.d .str r.2.1,.d (.int .i64) r.2.2.1,.d (.int .i64) r.2.2.2.1,.vec (.nam 7) i1 r.2.2.2.2.1]),(i1,.vec i1 (.nam 7) r.2.2.2.2.2)]
def kG(r:PR bm):RL EE.T:=mM (fz 100000 200001) (xw 100000 200001) r
def Su:Lvs:=⟨[],[(2,⟨[(0,false),(3,false)],[],[(100000,(none,[])),(200001,(none,[]))],[]⟩)],[],[],false,[(100000,(none,[]))],[100000,200001],[],[]⟩
def Sg:List ResultVar:=[.tmp 2]
def QT(N:RecC):Gam EE:=⟨[],EQT,[⟨62,iU N⟩,⟨61,dB N.n⟩],[]⟩
def P3(N:RecC)(hN:ke N):GOk Try.prog TT EE (QT N):=GOk.consx (lS N hN) (GOk.consx (dK N.n) (GOk.nil cQ))
def Fg(c:Code):List It2:=atL 2 c
def Hq(x3:Bool)(Zj:List UInt8)(Zg:Int)(Zi:Int)(Ze:Nat)(Zh:List Vstep):TS EE.T:=⟨25,[(0,.a (.box 100000 0)),(3,.a (.d .bool x3))],[(100000,.cs [.d .str Zj,.d (.int .i64) Zg,.d (.int .i64) Zi,.vec (.nam 7) 200001 Ze]),(200001,.vec 200001 (.nam 7) Zh)],[]⟩
def N8(c:Code):List It2:=[.c c]
def NO(y0_0:List UInt8)(y0_1:Int)(y0_2:Int)(y0_3:Nat)(y1:List Vstep):TS EE.T:=⟨25,[(0,.a (.box 100000 0))],[(100000,.cs [.d .str y0_0,.d (.int .i64) y0_1,.d (.int .i64) y0_2,.vec (.nam 7) 200001 y0_3]),(200001,.vec 200001 (.nam 7) y1)],[]⟩
def zX(c:Code)(f:Bool->(List UInt8)->Int->Int->Nat->(List Vstep)->Option (PR bm))(x3:Bool)(Zj:List UInt8)(Zg:Int)(Zi:Int)(Ze:Nat)(Zh:List Vstep):Tree (Lf EE.T × Option (PR bm)):=.leaf (.go (Fg c) (Hq x3 Zj Zg Zi Ze Zh),f x3 Zj Zg Zi Ze Zh)
abbrev Kc(N:RecC)(r:PR bm)(k:List It2)(s:TS EE.T):Prop:=fL (Y:=TT) EE (QT N) Su Sg (fun u=>u=kG r) k s
def uq(x:PR bm):Tree (Lf EE.T × Option (PR bm)):=.leaf (.done (kG x),some x)
def xW{N:RecC}{r:PR bm}:∀ (n:Nat) (x3:Bool) (Zj:List UInt8) (Zg:Int) (Zi:Int) (Ze:Nat) (Zh:List Vstep),bH N n x3 Zj Zg Zi Ze Zh=some r->Kc N r (Fg (aa 0 Try.f49)) (Hq x3 Zj Zg Zi Ze Zh)
 |0,_,_,_,_,_,_,h=>by cases h
 |n+1,x3,Zj,Zg,Zi,Ze,Zh,h=>au (m:=4000) (t:=
  .bnd (aT N.n Zj Zg Zi Ze Zh) fun z1=>
  .sm z1 (fun z2=>
   .cond (!z2.2.1)
   (
    uq (.ok (x3,z2.2.2.1,z2.2.2.2.1,z2.2.2.2.2.1,z2.2.2.2.2.2.1,z2.2.2.2.2.2.2)))
   (
    .cond ((b2i z2.1)==(b2i 124))
    (
     uq (.ok (x3,z2.2.2.1,z2.2.2.2.1,z2.2.2.2.2.1,z2.2.2.2.2.2.1,z2.2.2.2.2.2.2)))
    (
     .cond ((b2i z2.1)==(b2i 41))
     (
      uq (.ok (x3,z2.2.2.1,z2.2.2.2.1,z2.2.2.2.2.1,z2.2.2.2.2.2.1,z2.2.2.2.2.2.2)))
     (
      .bnd (dp N z2.2.2.1 z2.2.2.2.1 z2.2.2.2.2.1 z2.2.2.2.2.2.1 z2.2.2.2.2.2.2) fun z3=>
      .sm z3 (fun z4=>
       .cond (!z4.1)
       (
        zX (aa 0 Try.f49) (bH N n) false z4.2.1 z4.2.2.1 z4.2.2.2.1 z4.2.2.2.2.1 z4.2.2.2.2.2)
       (
        zX (aa 0 Try.f49) (bH N n) x3 z4.2.1 z4.2.2.1 z4.2.2.2.1 z4.2.2.2.2.1 z4.2.2.2.2.2)) (fun vz3=>
       uq (.pan vz3)))))) (fun vz1=>
   uq (.pan vz1))) (by kernel_rfl) (by kernel_rfl) h (fun _=>⟨fun _=>⟨aE (enc:=kG) rfl,⟨aE (enc:=kG) rfl,⟨aE (enc:=kG) rfl,fun _=>⟨fun _=>⟨fun h=>(xW n) _ _ _ _ _ _ h,fun h=>(xW n) _ _ _ _ _ _ h⟩,fun _=>aE (enc:=kG) rfl⟩⟩⟩⟩,fun _=>aE (enc:=kG) rfl⟩)
def MO{N:RecC}{r:PR bm}(y0_0:List UInt8)(y0_1:Int)(y0_2:Int)(y0_3:Nat)(y1:List Vstep)(h:ea N y0_0 y0_1 y0_2 y0_3 y1=some r):Kc N r (N8 (aa 0 Try.f49)) (NO y0_0 y0_1 y0_2 y0_3 y1):=
 au (m:=4000) (t:=
 zX (aa 0 Try.f49) (bH N N.n) true y0_0 y0_1 y0_2 y0_3 y1) (by kernel_rfl) (by kernel_rfl) h (fun h=>xW N.n _ _ _ _ _ _ h)
def I9(y0_0:List UInt8)(y0_1:Int)(y0_2:Int)(y0_3:Nat)(y1:List Vstep):List (TV EE.T):=[.a (.box 100000 0)]
def CK(y0_0:List UInt8)(y0_1:Int)(y0_2:Int)(y0_3:Nat)(y1:List Vstep):List (Nat × TB EE.T):=[(100000,.cs [.d .str y0_0,.d (.int .i64) y0_1,.d (.int .i64) y0_2,.vec (.nam 7) 200001 y0_3]),(200001,.vec 200001 (.nam 7) y1)]
def nT{N:RecC}(hN:ke N)(y0_0:List UInt8)(y0_1:Int)(y0_2:Int)(y0_3:Nat)(y1:List Vstep){r:PR bm}(h:ea N y0_0 y0_1 y0_2 y0_3 y1=some r)(I:Rn)(hi:Inj I (CK y0_0 y0_1 y0_2 y0_3 y1)):aI Try.prog 49 ((I9 y0_0 y0_1 y0_2 y0_3 y1).map (TV.to EE.toEnc I)) (hTo EE.toEnc I (CK y0_0 y0_1 y0_2 y0_3 y1)) (cH EE I fun u=>u=kG r):=
 dI (aa 0 Try.f49) 25 mixed (P3 N hN) Try.func49 (by kernel_rfl) rfl rfl rfl rfl (MO y0_0 y0_1 y0_2 y0_3 y1 h) I hi
def jU(N:RecC)(us:List (TV EE.T))(hs:List (Nat × TB EE.T)):XR EE.T:=
 gdX (d7 us 1) <|
 bnX (aB us 0) fun i0=>
 bnX (bC hs i0) fun l0=>
 gdX (d7 l0 4) <|
 bnX (cD .str l0 0) fun y0_0=>
 bnX (cD (.int .i64) l0 1) fun y0_1=>
 bnX (cD (.int .i64) l0 2) fun y0_2=>
 bnX (cVi (.nam 7) l0 3) fun i1=>
 bnX (cVn (.nam 7) l0 3) fun y0_3=>
 bnX (bV (.nam 7) hs i1) fun y1=>
 gdX (bx hs [i0,i1]) <|
 gdX (ip [i0,i1]) <|
 .mv (ea N y0_0 y0_1 y0_2 y0_3 y1) [i0,i1] (mvL [i0,i1] [100000,200001]) 0 (fz i0 i1) (xw i0 i1)
def ng(N:RecC)(hN:ke N):XOk Try.prog EE 49 (jU N):=fun us hs=>
 ay fun h1=>ab fun i0 h2=>ab fun l0 h3=>ay fun h4=>ab fun y0_0 h5=>ab fun y0_1 h6=>ab fun y0_2 h7=>ab fun i1 h8=>ab fun y0_3 h9=>ab fun y1 h10=>ay fun h11=>ay fun h12=>fun p hz I hi=>gh (ex:=[]) (ks:=[100000,200001]) (us':=I9 y0_0 y0_1 y0_2 y0_3 y1) (h0:=CK y0_0 y0_1 y0_2 y0_3 y1) (ρ':=jh I [i0,i1]) (uc:=fz 100000 200001) (u:=fz i0 i1) (hc:=xw 100000 200001) (h:=xw i0 i1) hi h11 (by kernel_rfl) ⟨gG h2 (by kernel_rfl),bA h1⟩ ⟨(by kernel_rfl),jD h3 ⟨ei h5,ei h6,ei h7,gi h8 h9 (by kernel_rfl),bA h4⟩,(by kernel_rfl),iw h10 (by kernel_rfl),trivial⟩ ⟨.inr rfl,.inl rfl,trivial⟩ h12 (fun hj=>nT hN y0_0 y0_1 y0_2 y0_3 y1 hz _ hj) (fun z=>⟨by kernel_rfl,by kernel_rfl,by kernel_rfl,by kernel_rfl⟩)
def fd(i0:Nat)(i1:Nat)(r:cm):TV EE.T:=.a (.d .bool r.1)
def xB(i0:Nat)(i1:Nat)(r:cm):List (Nat × TB EE.T):=[(i0,.cs [.d .str r.2.1,.d (.int .i64) r.2.2.1,.d (.int .i64) r.2.2.2.1,.vec (.nam 7) i1 r.2.2.2.2.1]),(i1,.vec i1 (.nam 7) r.2.2.2.2.2)]
def pH(r:PR cm):RL EE.T:=mM (fd 100000 200001) (xB 100000 200001) r
def RY:Lvs:=⟨[],[],[],[],false,[(100000,(none,[]))],[100000,200001],[],[]⟩
def SN:List ResultVar:=[.tmp 2]
def Q8(N:RecC):Gam EE:=⟨[],EQT,[⟨34,fG N⟩],[]⟩
def Q1(N:RecC)(hN:ke N):GOk Try.prog TT EE (Q8 N):=GOk.consx (iZ N hN) (GOk.nil cQ)
def MH(c:Code):List It2:=[.c c]
def Qh(y0_0:List UInt8)(y0_1:Int)(y0_2:Int)(y0_3:Nat)(y1:List Vstep):TS EE.T:=⟨5,[(0,.a (.box 100000 0))],[(100000,.cs [.d .str y0_0,.d (.int .i64) y0_1,.d (.int .i64) y0_2,.vec (.nam 7) 200001 y0_3]),(200001,.vec 200001 (.nam 7) y1)],[]⟩
abbrev Tk(N:RecC)(r:PR cm)(k:List It2)(s:TS EE.T):Prop:=fL (Y:=TT) EE (Q8 N) RY SN (fun u=>u=pH r) k s
def IX(x:PR cm):Tree (Lf EE.T × Option (PR cm)):=.leaf (.done (pH x),some x)
def QN{N:RecC}{r:PR cm}(y0_0:List UInt8)(y0_1:Int)(y0_2:Int)(y0_3:Nat)(y1:List Vstep)(h:dP N y0_0 y0_1 y0_2 y0_3 y1=some r):Tk N r (MH (aa 0 Try.f53)) (Qh y0_0 y0_1 y0_2 y0_3 y1):=
 au (m:=4000) (t:=
 .bnd (dY N y0_0 y0_1 y0_2 y0_3 y1) fun z1=>
 .sm z1 (fun z2=>
  IX (.ok (z2.1,z2.2.1,z2.2.2.1,z2.2.2.2.1,z2.2.2.2.2.1,z2.2.2.2.2.2))) (fun vz1=>
  IX (.pan vz1))) (by kernel_rfl) (by kernel_rfl) h (fun _=>⟨fun _=>aE (enc:=pH) rfl,fun _=>aE (enc:=pH) rfl⟩)
def Js(y0_0:List UInt8)(y0_1:Int)(y0_2:Int)(y0_3:Nat)(y1:List Vstep):List (TV EE.T):=[.a (.box 100000 0)]
def El(y0_0:List UInt8)(y0_1:Int)(y0_2:Int)(y0_3:Nat)(y1:List Vstep):List (Nat × TB EE.T):=[(100000,.cs [.d .str y0_0,.d (.int .i64) y0_1,.d (.int .i64) y0_2,.vec (.nam 7) 200001 y0_3]),(200001,.vec 200001 (.nam 7) y1)]
def nz{N:RecC}(hN:ke N)(y0_0:List UInt8)(y0_1:Int)(y0_2:Int)(y0_3:Nat)(y1:List Vstep){r:PR cm}(h:dP N y0_0 y0_1 y0_2 y0_3 y1=some r)(I:Rn)(hi:Inj I (El y0_0 y0_1 y0_2 y0_3 y1)):aI Try.prog 53 ((Js y0_0 y0_1 y0_2 y0_3 y1).map (TV.to EE.toEnc I)) (hTo EE.toEnc I (El y0_0 y0_1 y0_2 y0_3 y1)) (cH EE I fun u=>u=pH r):=
 dI (aa 0 Try.f53) 5 mixed (Q1 N hN) Try.func53 (by kernel_rfl) rfl rfl rfl rfl (QN y0_0 y0_1 y0_2 y0_3 y1 h) I hi
def jq(N:RecC)(us:List (TV EE.T))(hs:List (Nat × TB EE.T)):XR EE.T:=
 gdX (d7 us 1) <|
 bnX (aB us 0) fun i0=>
 bnX (bC hs i0) fun l0=>
 gdX (d7 l0 4) <|
 bnX (cD .str l0 0) fun y0_0=>
 bnX (cD (.int .i64) l0 1) fun y0_1=>
 bnX (cD (.int .i64) l0 2) fun y0_2=>
 bnX (cVi (.nam 7) l0 3) fun i1=>
 bnX (cVn (.nam 7) l0 3) fun y0_3=>
 bnX (bV (.nam 7) hs i1) fun y1=>
 gdX (bx hs [i0,i1]) <|
 gdX (ip [i0,i1]) <|
 .mv (dP N y0_0 y0_1 y0_2 y0_3 y1) [i0,i1] (mvL [i0,i1] [100000,200001]) 0 (fd i0 i1) (xB i0 i1)
def mG(N:RecC)(hN:ke N):XOk Try.prog EE 53 (jq N):=fun us hs=>
 ay fun h1=>ab fun i0 h2=>ab fun l0 h3=>ay fun h4=>ab fun y0_0 h5=>ab fun y0_1 h6=>ab fun y0_2 h7=>ab fun i1 h8=>ab fun y0_3 h9=>ab fun y1 h10=>ay fun h11=>ay fun h12=>fun p hz I hi=>gh (ex:=[]) (ks:=[100000,200001]) (us':=Js y0_0 y0_1 y0_2 y0_3 y1) (h0:=El y0_0 y0_1 y0_2 y0_3 y1) (ρ':=jh I [i0,i1]) (uc:=fd 100000 200001) (u:=fd i0 i1) (hc:=xB 100000 200001) (h:=xB i0 i1) hi h11 (by kernel_rfl) ⟨gG h2 (by kernel_rfl),bA h1⟩ ⟨(by kernel_rfl),jD h3 ⟨ei h5,ei h6,ei h7,gi h8 h9 (by kernel_rfl),bA h4⟩,(by kernel_rfl),iw h10 (by kernel_rfl),trivial⟩ ⟨.inr rfl,.inl rfl,trivial⟩ h12 (fun hj=>nz hN y0_0 y0_1 y0_2 y0_3 y1 hz _ hj) (fun z=>⟨by kernel_rfl,by kernel_rfl,by kernel_rfl,by kernel_rfl⟩)
def eY(i0:Nat)(i1:Nat)(r:az):TV EE.T:=.a (.d .bool r.1)
def xE(i0:Nat)(i1:Nat)(r:az):List (Nat × TB EE.T):=[(i0,.cs [.d .str r.2.1,.d (.int .i64) r.2.2.1,.d (.int .i64) r.2.2.2.1,.vec (.nam 7) i1 r.2.2.2.2.1]),(i1,.vec i1 (.nam 7) r.2.2.2.2.2)]
def gV(r:PR az):RL EE.T:=mM (eY 100000 200001) (xE 100000 200001) r
def UL:Lvs:=⟨[(6,⟨[(0,false),(3,false),(4,false),(5,false),(6,false)],[],[(100000,(none,[])),(200001,(none,[]))],[]⟩),(9,⟨[(0,false),(4,false),(6,false),(7,false)],[],[(100000,(none,[])),(200001,(none,[]))],[]⟩),(12,⟨[(0,false),(4,false),(7,false)],[],[(100000,(none,[])),(200001,(none,[]))],[]⟩)],[(3,⟨[(0,false),(3,false),(4,false)],[],[(100000,(none,[])),(200001,(none,[]))],[]⟩)],[12],[],false,[(100000,(none,[]))],[100000,200001],[],[]⟩
def Sz:List ResultVar:=[.tmp 2]
def PP(N:RecC):Gam EE:=⟨[],EQT,[⟨52,gR N.n⟩,⟨36,eo N.n⟩,⟨49,jU N⟩,⟨50,fx N.n⟩,⟨53,jq N⟩,⟨51,gS N.n⟩],[]⟩
def Qu(N:RecC)(hN:ke N):GOk Try.prog TT EE (PP N):=GOk.consx (iX N.n) (GOk.consx (eT N.n) (GOk.consx (ng N hN) (GOk.consx (gd N.n) (GOk.consx (mG N hN) (GOk.consx (i8 N.n) (GOk.nil cQ))))))
def A7(c:Code):List It2:=atR 12 c
def Ci(x4:Bool)(x7:Int)(Zj:List UInt8)(Zg:Int)(Zi:Int)(Ze:Nat)(Zh:List Vstep):TS EE.T:=⟨70,[(0,.a (.box 100000 0)),(4,.a (.d .bool x4)),(7,.a (.d (.int .i64) x7))],[(100000,.cs [.d .str Zj,.d (.int .i64) Zg,.d (.int .i64) Zi,.vec (.nam 7) 200001 Ze]),(200001,.vec 200001 (.nam 7) Zh)],[]⟩
def zq(c:Code):List It2:=atL 3 c
def zE(x3:Int)(x4:Bool)(Zj:List UInt8)(Zg:Int)(Zi:Int)(Ze:Nat)(Zh:List Vstep):TS EE.T:=⟨70,[(0,.a (.box 100000 0)),(3,.a (.d (.int .i64) x3)),(4,.a (.d .bool x4))],[(100000,.cs [.d .str Zj,.d (.int .i64) Zg,.d (.int .i64) Zi,.vec (.nam 7) 200001 Ze]),(200001,.vec 200001 (.nam 7) Zh)],[]⟩
def MU(c:Code):List It2:=[.c c]
def M7(y0_0:List UInt8)(y0_1:Int)(y0_2:Int)(y0_3:Nat)(y1:List Vstep):TS EE.T:=⟨70,[(0,.a (.box 100000 0))],[(100000,.cs [.d .str y0_0,.d (.int .i64) y0_1,.d (.int .i64) y0_2,.vec (.nam 7) 200001 y0_3]),(200001,.vec 200001 (.nam 7) y1)],[]⟩
def AX(c:Code)(f:Bool->Int->(List UInt8)->Int->Int->Nat->(List Vstep)->Option (PR az))(x4:Bool)(x7:Int)(Zj:List UInt8)(Zg:Int)(Zi:Int)(Ze:Nat)(Zh:List Vstep):Tree (Lf EE.T × Option (PR az)):=.leaf (.go (A7 c) (Ci x4 x7 Zj Zg Zi Ze Zh),f x4 x7 Zj Zg Zi Ze Zh)
def QP(c:Code)(f:Int->Bool->(List UInt8)->Int->Int->Nat->(List Vstep)->Option (PR az))(x3:Int)(x4:Bool)(Zj:List UInt8)(Zg:Int)(Zi:Int)(Ze:Nat)(Zh:List Vstep):Tree (Lf EE.T × Option (PR az)):=.leaf (.go (zq c) (zE x3 x4 Zj Zg Zi Ze Zh),f x3 x4 Zj Zg Zi Ze Zh)
abbrev xu(N:RecC)(r:PR az)(k:List It2)(s:TS EE.T):Prop:=fL (Y:=TT) EE (PP N) UL Sz (fun u=>u=gV r) k s
def lB(x:PR az):Tree (Lf EE.T × Option (PR az)):=.leaf (.done (gV x),some x)
def Ca{N:RecC}{r:PR az}{k3:Int->Bool->(List UInt8)->Int->Int->Nat->(List Vstep)->Option (PR az)}(hk3:∀x3 x4 Zj Zg Zi Ze Zh,k3 x3 x4 Zj Zg Zi Ze Zh=some r->xu N r (zq (aa 0 Try.f34)) (zE x3 x4 Zj Zg Zi Ze Zh))(n:Nat)(x4:Bool)(x7:Int)(Zj:List UInt8)(Zg:Int)(Zi:Int)(Ze:Nat)(Zh:List Vstep)(h:cK N k3 n x4 x7 Zj Zg Zi Ze Zh=some r):xu N r (A7 (aa 0 Try.f34)) (Ci x4 x7 Zj Zg Zi Ze Zh):=
 au (m:=4000) (t:=
 .bnd (cf Ze x7) fun z19=>
 .bnd (Zh[z19]?) fun z20=>
 lB (.ok (x4,Zj,Zg,Zi,Ze,List.set Zh z19 ({ kind:=z20.kind,a:=(Ze:Int),b:=z20.b,set_:=z20.set_ }:Vstep)))) (by kernel_rfl) (by kernel_rfl) h (fun _=>fun _=>aE (enc:=gV) rfl)
def yF{N:RecC}{r:PR az}:∀ (n:Nat) (x3:Int) (x4:Bool) (Zj:List UInt8) (Zg:Int) (Zi:Int) (Ze:Nat) (Zh:List Vstep),bk N n x3 x4 Zj Zg Zi Ze Zh=some r->xu N r (zq (aa 0 Try.f34)) (zE x3 x4 Zj Zg Zi Ze Zh)
 |0,_,_,_,_,_,_,_,h=>by cases h
 |n+1,x3,x4,Zj,Zg,Zi,Ze,Zh,h=>au (m:=4000) (t:=
  .bnd (bj N.n 124 Zj Zg Zi Ze Zh) fun z3=>
  .sm z3 (fun z4=>
   .cond (z4.1)
   (
    .bnd (cz N.n x3 z4.2.1 z4.2.2.1 z4.2.2.2.1 z4.2.2.2.2.1 z4.2.2.2.2.2) fun z5=>
    .sm z5 (fun z6=>
     .bnd (aq N.n ({ kind:=1,a:=0,b:=0,set_:=(none:Option (List Bool)) }:Vstep) z6.2.1 z6.2.2.1 z6.2.2.2.1 z6.2.2.2.2.1 z6.2.2.2.2.2) fun z7=>
     .sm z7 (fun z8=>
      .bnd (cf z8.2.2.2.2.1 z8.1) fun z9=>
      .bnd (z8.2.2.2.2.2[z9]?) fun z10=>
      .bnd (bq N.n z6.1 x3 z8.2.1 z8.2.2.1 z8.2.2.2.1 z8.2.2.2.2.1 (List.set z8.2.2.2.2.2 z9 ({ kind:=z10.kind,a:=(z8.2.2.2.2.1:Int),b:=z10.b,set_:=z10.set_ }:Vstep))) fun z11=>
      .sm z11 (fun z12=>
       .bnd (aq N.n ({ kind:=2,a:=0,b:=0,set_:=(none:Option (List Bool)) }:Vstep) z12.1 z12.2.1 z12.2.2.1 z12.2.2.2.1 z12.2.2.2.2) fun z13=>
       .sm z13 (fun z14=>
        .bnd (cf z14.2.2.2.2.1 z8.1) fun z15=>
        .bnd (z14.2.2.2.2.2[z15]?) fun z16=>
        .bnd (dP N z14.2.1 z14.2.2.1 z14.2.2.2.1 z14.2.2.2.2.1 (List.set z14.2.2.2.2.2 z15 ({ kind:=z16.kind,a:=z16.a,b:=(z14.2.2.2.2.1:Int),set_:=z16.set_ }:Vstep))) fun z17=>
        .sm z17 (fun z18=>
         .cond (z18.1)
         (
          AX (aa 0 Try.f34) (cK N (bk N n) n) true z14.1 z18.2.1 z18.2.2.1 z18.2.2.2.1 z18.2.2.2.2.1 z18.2.2.2.2.2)
         (
          AX (aa 0 Try.f34) (cK N (bk N n) n) x4 z14.1 z18.2.1 z18.2.2.1 z18.2.2.2.1 z18.2.2.2.2.1 z18.2.2.2.2.2)) (fun vz17=>
         lB (.pan vz17))) (fun vz13=>
        lB (.pan vz13))) (fun vz11=>
       lB (.pan vz11))) (fun vz7=>
      lB (.pan vz7))) (fun vz5=>
     lB (.pan vz5)))
   (
    lB (.ok (x4,z4.2.1,z4.2.2.1,z4.2.2.2.1,z4.2.2.2.2.1,z4.2.2.2.2.2)))) (fun vz3=>
   lB (.pan vz3))) (by kernel_rfl) (by kernel_rfl) h (fun _=>⟨fun _=>⟨fun _=>⟨fun _=>fun _=>⟨fun _=>fun _=>fun _=>fun _=>⟨fun _=>fun _=>⟨fun _=>fun _=>fun _=>fun _=>⟨fun _=>⟨fun h=>Ca (yF n) n _ _ _ _ _ _ _ h,fun h=>Ca (yF n) n _ _ _ _ _ _ _ h⟩,fun _=>aE (enc:=gV) rfl⟩,fun _=>aE (enc:=gV) rfl⟩,fun _=>aE (enc:=gV) rfl⟩,fun _=>aE (enc:=gV) rfl⟩,fun _=>aE (enc:=gV) rfl⟩,aE (enc:=gV) rfl⟩,fun _=>aE (enc:=gV) rfl⟩)
def PB{N:RecC}{r:PR az}(y0_0:List UInt8)(y0_1:Int)(y0_2:Int)(y0_3:Nat)(y1:List Vstep)(h:dw N y0_0 y0_1 y0_2 y0_3 y1=some r):xu N r (MU (aa 0 Try.f34)) (M7 y0_0 y0_1 y0_2 y0_3 y1):=
 au (m:=4000) (t:=
 .bnd (ea N y0_0 y0_1 y0_2 y0_3 y1) fun z1=>
 .sm z1 (fun z2=>
  QP (aa 0 Try.f34) (bk N N.n) (y0_3:Int) z2.1 z2.2.1 z2.2.2.1 z2.2.2.2.1 z2.2.2.2.2.1 z2.2.2.2.2.2) (fun vz1=>
  lB (.pan vz1))) (by kernel_rfl) (by kernel_rfl) h (fun _=>⟨fun _=>fun h=>yF N.n _ _ _ _ _ _ _ h,fun _=>aE (enc:=gV) rfl⟩)
def JV(y0_0:List UInt8)(y0_1:Int)(y0_2:Int)(y0_3:Nat)(y1:List Vstep):List (TV EE.T):=[.a (.box 100000 0)]
def Dl(y0_0:List UInt8)(y0_1:Int)(y0_2:Int)(y0_3:Nat)(y1:List Vstep):List (Nat × TB EE.T):=[(100000,.cs [.d .str y0_0,.d (.int .i64) y0_1,.d (.int .i64) y0_2,.vec (.nam 7) 200001 y0_3]),(200001,.vec 200001 (.nam 7) y1)]
def i9{N:RecC}(hN:ke N)(y0_0:List UInt8)(y0_1:Int)(y0_2:Int)(y0_3:Nat)(y1:List Vstep){r:PR az}(h:dw N y0_0 y0_1 y0_2 y0_3 y1=some r)(I:Rn)(hi:Inj I (Dl y0_0 y0_1 y0_2 y0_3 y1)):aI Try.prog 34 ((JV y0_0 y0_1 y0_2 y0_3 y1).map (TV.to EE.toEnc I)) (hTo EE.toEnc I (Dl y0_0 y0_1 y0_2 y0_3 y1)) (cH EE I fun u=>u=gV r):=
 dI (aa 0 Try.f34) 70 mixed (Qu N hN) Try.func34 (by kernel_rfl) rfl rfl rfl rfl (PB y0_0 y0_1 y0_2 y0_3 y1 h) I hi
def n7(N:RecC)(us:List (TV EE.T))(hs:List (Nat × TB EE.T)):XR EE.T:=
 gdX (d7 us 1) <|
 bnX (aB us 0) fun i0=>
 bnX (bC hs i0) fun l0=>
 gdX (d7 l0 4) <|
 bnX (cD .str l0 0) fun y0_0=>
 bnX (cD (.int .i64) l0 1) fun y0_1=>
 bnX (cD (.int .i64) l0 2) fun y0_2=>
 bnX (cVi (.nam 7) l0 3) fun i1=>
 bnX (cVn (.nam 7) l0 3) fun y0_3=>
 bnX (bV (.nam 7) hs i1) fun y1=>
 gdX (bx hs [i0,i1]) <|
 gdX (ip [i0,i1]) <|
 .mv (dw N y0_0 y0_1 y0_2 y0_3 y1) [i0,i1] (mvL [i0,i1] [100000,200001]) 0 (eY i0 i1) (xE i0 i1)
def mD(N:RecC)(hN:ke N):XOk Try.prog EE 34 (n7 N):=fun us hs=>
 ay fun h1=>ab fun i0 h2=>ab fun l0 h3=>ay fun h4=>ab fun y0_0 h5=>ab fun y0_1 h6=>ab fun y0_2 h7=>ab fun i1 h8=>ab fun y0_3 h9=>ab fun y1 h10=>ay fun h11=>ay fun h12=>fun p hz I hi=>gh (ex:=[]) (ks:=[100000,200001]) (us':=JV y0_0 y0_1 y0_2 y0_3 y1) (h0:=Dl y0_0 y0_1 y0_2 y0_3 y1) (ρ':=jh I [i0,i1]) (uc:=eY 100000 200001) (u:=eY i0 i1) (hc:=xE 100000 200001) (h:=xE i0 i1) hi h11 (by kernel_rfl) ⟨gG h2 (by kernel_rfl),bA h1⟩ ⟨(by kernel_rfl),jD h3 ⟨ei h5,ei h6,ei h7,gi h8 h9 (by kernel_rfl),bA h4⟩,(by kernel_rfl),iw h10 (by kernel_rfl),trivial⟩ ⟨.inr rfl,.inl rfl,trivial⟩ h12 (fun hj=>i9 hN y0_0 y0_1 y0_2 y0_3 y1 hz _ hj) (fun z=>⟨by kernel_rfl,by kernel_rfl,by kernel_rfl,by kernel_rfl⟩)
def jQ(n0:Nat):∀m,ke ⟨n0,bp n0 m⟩
 |0=>Qd n0
 |m+1=>mD ⟨n0,bp n0 m⟩ (jQ n0 m)
def hQ(r:aL):TV EE.T:=.a (.d (.sl .str) r.1)
def C5(i0:Nat)(r:aL):List (Nat × TB EE.T):=[(i0,.cs (cL EE (.nam 8) r.2))]
def yj(r:aL):RL EE.T:=.ret (hQ r) (C5 100000 r)
def S3:Lvs:=⟨[(6,⟨[(0,false),(1,false),(2,false),(7,false),(8,false),(9,false)],[],[(100000,(some 8,[]))],[]⟩),(7,⟨[(0,false),(1,false),(2,false),(7,false),(8,false)],[],[(100000,(some 8,[]))],[]⟩),(8,⟨[(0,false),(1,false),(2,false),(7,false),(8,false),(9,false)],[],[(100000,(some 8,[]))],[]⟩)],[(3,⟨[(0,false),(1,false),(2,false),(7,false),(8,false)],[],[(100000,(some 8,[]))],[]⟩)],[8],[],false,[(100000,(some 8,[]))],[100000],[],[]⟩
def T5:List ResultVar:=[.tmp 6]
def Mj(N:Nat):Gam EE:=⟨[],EQT,[],[]⟩
def Or(N:Nat):GOk Try.prog TT EE (Mj N):=GOk.nil cQ
def G5(c:Code):List It2:=atR 8 c
def EP(x1:List UInt8)(x2:List Int)(x7:List (List UInt8))(x8:Int)(x9:List UInt8)(Zf:VMask):TS EE.T:=⟨56,[(0,.a (.box 100000 0)),(1,.a (.d .str x1)),(2,.a (.d (.sl (.int .i64)) x2)),(7,.a (.own .str x7)),(8,.a (.d (.int .i64) x8)),(9,.a (.d .str x9))],[(100000,.cs (cL EE (.nam 8) Zf))],[]⟩
def zn(c:Code):List It2:=atL 3 c
def zp(x1:List UInt8)(x2:List Int)(x7:List (List UInt8))(x8:Int)(Zf:VMask):TS EE.T:=⟨56,[(0,.a (.box 100000 0)),(1,.a (.d .str x1)),(2,.a (.d (.sl (.int .i64)) x2)),(7,.a (.own .str x7)),(8,.a (.d (.int .i64) x8))],[(100000,.cs (cL EE (.nam 8) Zf))],[]⟩
def Mi(c:Code):List It2:=[.c c]
def Pv(x1:List UInt8)(x2:List Int)(y0:VMask):TS EE.T:=⟨56,[(0,.a (.box 100000 0)),(1,.a (.d .str x1)),(2,.a (.d (.sl (.int .i64)) x2))],[(100000,.cs (cL EE (.nam 8) y0))],[]⟩
def zF(c:Code)(f:(List UInt8)->(List Int)->(List (List UInt8))->Int->(List UInt8)->VMask->Option aL)(x1:List UInt8)(x2:List Int)(x7:List (List UInt8))(x8:Int)(x9:List UInt8)(Zf:VMask):Tree (Lf EE.T × Option aL):=.leaf (.go (G5 c) (EP x1 x2 x7 x8 x9 Zf),f x1 x2 x7 x8 x9 Zf)
def FN(c:Code)(f:(List UInt8)->(List Int)->(List (List UInt8))->Int->VMask->Option aL)(x1:List UInt8)(x2:List Int)(x7:List (List UInt8))(x8:Int)(Zf:VMask):Tree (Lf EE.T × Option aL):=.leaf (.go (zn c) (zp x1 x2 x7 x8 Zf),f x1 x2 x7 x8 Zf)
abbrev w4(N:Nat)(r:aL)(k:List It2)(s:TS EE.T):Prop:=fL (Y:=TT) EE (Mj N) S3 T5 (fun u=>u=yj r) k s
def Up(x:aL):Tree (Lf EE.T × Option aL):=.leaf (.done (yj x),some x)
def yy{N:Nat}{r:aL}{k3:(List UInt8)->(List Int)->(List (List UInt8))->Int->VMask->Option aL}(hk3:∀x1 x2 x7 x8 Zf,k3 x1 x2 x7 x8 Zf=some r->w4 N r (zn (aa 0 Try.f39)) (zp x1 x2 x7 x8 Zf))(n:Nat)(x1:List UInt8)(x2:List Int)(x7:List (List UInt8))(x8:Int)(x9:List UInt8)(Zf:VMask)(h:cw N k3 n x1 x2 x7 x8 x9 Zf=some r):w4 N r (G5 (aa 0 Try.f39)) (EP x1 x2 x7 x8 x9 Zf):=
 au (m:=4000) (t:=
 .bnd (ie 16 x7 ([x9] :List (List UInt8))) fun z7=>
 FN (aa 0 Try.f39) k3 x1 x2 z7 (w64 (x8+1)) Zf) (by kernel_rfl) (by kernel_rfl) h (fun _=>fun h=>hk3 _ _ _ _ _ h)
def t8{N:Nat}{r:aL}:∀ (n:Nat) (x1:List UInt8) (x2:List Int) (x7:List (List UInt8)) (x8:Int) (Zf:VMask),bn N n x1 x2 x7 x8 Zf=some r->w4 N r (zn (aa 0 Try.f39)) (zp x1 x2 x7 x8 Zf)
 |0,_,_,_,_,_,h=>by cases h
 |n+1,x1,x2,x7,x8,Zf,h=>au (m:=4000) (t:=
  .cond (decide (x8<=Zf.Groups))
  (
   .bnd (ci x2 (w64 (2 * x8))) fun z1=>
   .cond (decide (z1>=0))
   (
    .bnd (ci x2 (w64 ((w64 (2 * x8))+1))) fun z2=>
    .bnd (ci x2 (w64 (2 * x8))) fun z3=>
    .cond (decide (z2>=z3))
    (
     .bnd (ci x2 (w64 (2 * x8))) fun z4=>
     .bnd (ci x2 (w64 ((w64 (2 * x8))+1))) fun z5=>
     .bnd (mI x1 z4 z5) fun z6=>
     zF (aa 0 Try.f39) (cw N (bn N n) n) x1 x2 x7 x8 z6 Zf)
    (
     zF (aa 0 Try.f39) (cw N (bn N n) n) x1 x2 x7 x8 ([] :List UInt8) Zf))
   (
    zF (aa 0 Try.f39) (cw N (bn N n) n) x1 x2 x7 x8 ([] :List UInt8) Zf))
  (
   Up (x7,Zf))) (by kernel_rfl) (by kernel_rfl) h (⟨fun _=>⟨fun _=>fun _=>⟨fun _=>fun _=>fun _=>fun h=>yy (t8 n) n _ _ _ _ _ _ h,fun h=>yy (t8 n) n _ _ _ _ _ _ h⟩,fun h=>yy (t8 n) n _ _ _ _ _ _ h⟩,aE (enc:=yj) rfl⟩)
def L4{N:Nat}{r:aL}(x1:List UInt8)(x2:List Int)(y0:VMask)(h:ey N x1 x2 y0=some r):w4 N r (Mi (aa 0 Try.f39)) (Pv x1 x2 y0):=
 au (m:=4000) (t:=
 FN (aa 0 Try.f39) (bn N N) x1 x2 ([] :List (List UInt8)) 1 y0) (by kernel_rfl) (by kernel_rfl) h (fun h=>t8 N _ _ _ _ _ h)
def Jo(x1:List UInt8)(x2:List Int)(y0:VMask):List (TV EE.T):=[.a (.box 100000 0),.a (.d .str x1),.a (.d (.sl (.int .i64)) x2)]
def D7(x1:List UInt8)(x2:List Int)(y0:VMask):List (Nat × TB EE.T):=[(100000,.cs (cL EE (.nam 8) y0))]
def oH{N:Nat}(x1:List UInt8)(x2:List Int)(y0:VMask){r:aL}(h:ey N x1 x2 y0=some r)(I:Rn)(hi:Inj I (D7 x1 x2 y0)):aI Try.prog 39 ((Jo x1 x2 y0).map (TV.to EE.toEnc I)) (hTo EE.toEnc I (D7 x1 x2 y0)) (fun out H=>out=.ret ((hQ r).to EE.toEnc I)/\H=hTo EE.toEnc I (C5 100000 r)):=
 (dI (aa 0 Try.f39) 56 mixed (Or N) Try.func39 (by kernel_rfl) rfl rfl rfl rfl (L4 x1 x2 y0 h) I hi).mono fun out H h=>cH.retH rfl rfl h
def kd(N:Nat)(us:List (TV EE.T))(hs:List (Nat × TB EE.T)):XR EE.T:=
 gdX (d7 us 3) <|
 bnX (aB us 0) fun i0=>
 bnX (aD .str us 1) fun x1=>
 bnX (aD (.sl (.int .i64)) us 2) fun x2=>
 bnX (bS EE 8 hs i0) fun y0=>
 gdX (bx hs [i0]) <|
 .ret (ey N x1 x2 y0) [i0] hQ (C5 i0)
def nG(N:Nat):XOk Try.prog EE 39 (kd N):=fun us hs=>
 ay fun h1=>ab fun i0 h2=>ab fun x1 h3=>ab fun x2 h4=>ab fun y0 h5=>ay fun h6=>fun z hz=>⟨rfl,fun I hi=>nk (us':=Jo x1 x2 y0) (h0:=D7 x1 x2 y0) (ρ':=jh I [i0]) hi h6 (by kernel_rfl) ⟨gG h2 (by kernel_rfl),gB h3,gB h4,bA h1⟩ ⟨(by kernel_rfl),tW h5,trivial⟩ (fun hj=>oH x1 x2 y0 hz _ hj) (fun out H h=>⟨h.1.trans (by kernel_rfl),h.2.trans (by kernel_rfl)⟩)⟩
def l6(r:Bool):TV EE.T:=.a (.d .bool r)
def Eg(r:Bool):RL EE.T:=.ret (l6 r) []
def XP:Lvs:=⟨[],[],[],[],false,[],[],[],[]⟩
def X5:List ResultVar:=[.tmp 2]
def YL(N:Nat):Gam EE:=⟨[],EQT,[],[]⟩
def V0(N:Nat):GOk Try.prog TT EE (YL N):=GOk.nil cQ
def Wu(c:Code):List It2:=[.c c]
def Wj(x0:UInt8):TS EE.T:=⟨9,[(0,.a (.d .byte x0))],[],[]⟩
abbrev XO(N:Nat)(r:Bool)(k:List It2)(s:TS EE.T):Prop:=fL (Y:=TT) EE (YL N) XP X5 (fun u=>u=Eg r) k s
def Vi(x:Bool):Tree (Lf EE.T × Option Bool):=.leaf (.done (Eg x),some x)
def VC{N:Nat}{r:Bool}(x0:UInt8)(h:gO N x0=some r):XO N r (Wu (aa 0 Try.f47)) (Wj x0):=
 au (m:=4000) (t:=
 .cond (decide ((b2i x0)>=(b2i 48)))
 (
  Vi (decide ((b2i x0)<=(b2i 57))))
 (
  Vi false)) (by kernel_rfl) (by kernel_rfl) h (⟨aE (enc:=Eg) rfl,aE (enc:=Eg) rfl⟩)
def wL{N:Nat}(x0:UInt8){r:Bool}(h:gO N x0=some r)(I:Rn):aI Try.prog 47 (([.a (.d .byte x0)] :List (TV EE.T)).map (TV.to EE.toEnc I)) [] (fun out H=>out=.ret ((l6 r).to EE.toEnc I)/\H=[]):=
 (uF (aa 0 Try.f47) 9 mixed (V0 N) Try.func47 (by kernel_rfl) rfl rfl rfl rfl (VC x0 h) I).mono fun out H h=>cH.ret rfl h
def me(N:Nat):List (TV EE.T)->PV EE.T
 | [u0] =>match nr .byte u0 with
   |some x0=>.opt (gO N x0) l6
   |_=>.bad
 |_=>.bad
def vb(N:Nat)(us:List (TV EE.T)):(me N us).ok fun u=>∀I,aI Try.prog 47 (us.map (TV.to EE.toEnc I)) [] (fun out H=>out=.ret (u.to EE.toEnc I)/\H=[]):=by
 unfold me;split
 ·split
  ·rename_i h0;intro z hz I;refine gz ?_ (wL _ hz I);exact⟨fB h0 I,trivial⟩
  ·trivial
 ·trivial
def sq(r:dE):TV EE.T:=.tu [.a (.d (.sl (.nam 6)) r.1),.a (.d .bool r.2)]
def qY(r:dE):RL EE.T:=.ret (sq r) []
def Yd:Lvs:=⟨[],[(2,⟨[(0,false),(4,false)],[],[],[]⟩)],[],[],false,[],[],[],[]⟩
def Yy:List ResultVar:=[.tmp 2,.tmp 3]
def Xw(N:Nat):Gam EE:=⟨[⟨47,me N⟩,⟨46,fp N⟩],EQT,[],[]⟩
def Xk(N:Nat):GOk Try.prog TT EE (Xw N):=GOk.cons (vb N) (GOk.cons (hD N) (GOk.nil cQ))
def Ot(c:Code):List It2:=atL 2 c
def Nz(x0:List UInt8)(x4:List Vpiece):TS EE.T:=⟨83,[(0,.a (.d .str x0)),(4,.a (.own (.nam 6) x4))],[],[]⟩
def Vu(c:Code):List It2:=[.c c]
def W7(x0:List UInt8):TS EE.T:=⟨83,[(0,.a (.d .str x0))],[],[]⟩
def yT(c:Code)(f:(List UInt8)->(List Vpiece)->Option dE)(x0:List UInt8)(x4:List Vpiece):Tree (Lf EE.T × Option dE):=.leaf (.go (Ot c) (Nz x0 x4),f x0 x4)
abbrev Ve(N:Nat)(r:dE)(k:List It2)(s:TS EE.T):Prop:=fL (Y:=TT) EE (Xw N) Yd Yy (fun u=>u=qY r) k s
def Cn(x:dE):Tree (Lf EE.T × Option dE):=.leaf (.done (qY x),some x)
def xZ{N:Nat}{r:dE}:∀ (n:Nat) (x0:List UInt8) (x4:List Vpiece),dC N n x0 x4=some r->Ve N r (Ot (aa 0 Try.f28)) (Nz x0 x4)
 |0,_,_,h=>by cases h
 |n+1,x0,x4,h=>au (m:=4000) (t:=
  .cond (!decide (x0=([] :List UInt8)))
  (
   .bnd (ci x0 0) fun z1=>
   .cond ((b2i z1) != (b2i 36))
   (
    .bnd (TI x0 ([36] :List UInt8)) fun z2=>
    .bnd (da N z2 36) fun z3=>
    .bnd (mI x0 0 z3) fun z4=>
    .bnd (ie 24 x4 ([({ text:=z4,group:=(-1) }:Vpiece)] :List Vpiece)) fun z5=>
    .bnd (mI x0 z3 (x0.length:Int)) fun z6=>
    yT (aa 0 Try.f28) (dC N n) z6 z5)
   (
    .bnd (mI x0 1 (x0.length:Int)) fun z7=>
    .cond (decide (z7=([] :List UInt8)))
    (
     Cn (([] :List Vpiece),false))
    (
     .bnd (ci z7 0) fun z8=>
     .cond ((b2i z8)==(b2i 36))
     (
      .bnd (ie 24 x4 ([({ text:=([36] :List UInt8),group:=(-1) }:Vpiece)] :List Vpiece)) fun z9=>
      .bnd (mI z7 1 (z7.length:Int)) fun z10=>
      yT (aa 0 Try.f28) (dC N n) z10 z9)
     (
      .bnd (ci z7 0) fun z11=>
      .bnd (gO N z11) fun z12=>
      .cond (z12)
      (
       .bnd (ci z7 0) fun z13=>
       .bnd (ie 24 x4 ([({ text:=([] :List UInt8),group:=w64 (b2i (toB (IntKind.wrap .u8 ((b2i z13) - (b2i 48))))) }:Vpiece)] :List Vpiece)) fun z14=>
       .bnd (mI z7 1 (z7.length:Int)) fun z15=>
       yT (aa 0 Try.f28) (dC N n) z15 z14)
      (
       .cond (decide ((z7.length:Int) > 2))
       (
        .bnd (ci z7 0) fun z16=>
        .cond ((b2i z16)==(b2i 123))
        (
         .bnd (ci z7 1) fun z17=>
         .bnd (gO N z17) fun z18=>
         .cond (z18)
         (
          .bnd (ci z7 2) fun z19=>
          .cond ((b2i z19)==(b2i 125))
          (
           .bnd (ci z7 1) fun z20=>
           .bnd (ie 24 x4 ([({ text:=([] :List UInt8),group:=w64 (b2i (toB (IntKind.wrap .u8 ((b2i z20) - (b2i 48))))) }:Vpiece)] :List Vpiece)) fun z21=>
           .bnd (mI z7 3 (z7.length:Int)) fun z22=>
           yT (aa 0 Try.f28) (dC N n) z22 z21)
          (
           Cn (([] :List Vpiece),false)))
         (
          Cn (([] :List Vpiece),false)))
        (
         Cn (([] :List Vpiece),false)))
       (
        Cn (([] :List Vpiece),false)))))))
  (
   Cn (x4,true))) (by kernel_rfl) (by kernel_rfl) h (⟨fun _=>⟨fun _=>fun _=>fun _=>fun _=>fun _=>fun h=>(xZ n) _ _ h,fun _=>⟨aE (enc:=qY) rfl,fun _=>⟨fun _=>fun _=>fun h=>(xZ n) _ _ h,fun _=>fun _=>⟨fun _=>fun _=>fun _=>fun h=>(xZ n) _ _ h,⟨fun _=>⟨fun _=>fun _=>⟨fun _=>⟨fun _=>fun _=>fun _=>fun h=>(xZ n) _ _ h,aE (enc:=qY) rfl⟩,aE (enc:=qY) rfl⟩,aE (enc:=qY) rfl⟩,aE (enc:=qY) rfl⟩⟩⟩⟩⟩,aE (enc:=qY) rfl⟩)
def WZ{N:Nat}{r:dE}(x0:List UInt8)(h:kR N x0=some r):Ve N r (Vu (aa 0 Try.f28)) (W7 x0):=
 au (m:=4000) (t:=
 yT (aa 0 Try.f28) (dC N N) x0 ([] :List Vpiece)) (by kernel_rfl) (by kernel_rfl) h (fun h=>xZ N _ _ h)
def qF{N:Nat}(x0:List UInt8){r:dE}(h:kR N x0=some r)(I:Rn):aI Try.prog 28 (([.a (.d .str x0)] :List (TV EE.T)).map (TV.to EE.toEnc I)) [] (fun out H=>out=.ret ((sq r).to EE.toEnc I)/\H=[]):=
 (uF (aa 0 Try.f28) 83 mixed (Xk N) Try.func28 (by kernel_rfl) rfl rfl rfl rfl (WZ x0 h) I).mono fun out H h=>cH.ret rfl h
def ux(i0:Nat)(i1:Nat)(i2:Nat)(r:Nat × VMask × (List Vthread) × (List (Int × Bool))):TV EE.T:=.a (.vec (.nam 10) i1 r.1)
def tA(i0:Nat)(i1:Nat)(i2:Nat)(r:Nat × VMask × (List Vthread) × (List (Int × Bool))):List (Nat × TB EE.T):=[(i0,.cs (cL EE (.nam 8) r.2.1)),(i1,.vec i1 (.nam 10) r.2.2.1),(i2,.imap .bool r.2.2.2)]
def ib(N:RecC2)(us:List (TV EE.T))(hs:List (Nat × TB EE.T)):XR EE.T:=
 gdX (d7 us 5) <|
 bnX (aB us 0) fun i0=>
 bnX (aVi (.nam 10) us 1) fun i1=>
 bnX (aVn (.nam 10) us 1) fun x1_n=>
 bnX (aM us 2) fun i2=>
 bnX (aS EE 10 us 3) fun x3=>
 bnX (aD (.int .i64) us 4) fun x4=>
 bnX (bS EE 8 hs i0) fun y0=>
 bnX (bV (.nam 10) hs i1) fun y1=>
 bnX (bI .bool hs i2) fun y2=>
 gdX (bx hs [i0,i1,i2]) <|
 gdX (ip [i0,i1,i2]) <|
 .mv (dF N x1_n x3 x4 y0 y1 y2) [i0,i1,i2] (mvL [i0,i1,i2] [100000,200001,100002]) 0 (ux i0 i1 i2) (tA i0 i1 i2)
def vu(N:RecC2):Prop:=XOk Try.prog EE 38 (ib N)
def sc(N:RecC2)(hN:vu N):XOk Try.prog EE 38 (ib N):=hN
def KG(n:Nat):vu ⟨n,fun _ _ _ _ _ _=>none⟩:=fun us hs=>
 ay fun h1=>ab fun i0 h2=>ab fun i1 h3=>ab fun x1_n h4=>ab fun i2 h5=>ab fun x3 h6=>ab fun x4 h7=>ab fun y0 h8=>ab fun y1 h9=>ab fun y2 h10=>ay fun h11=>ay fun h12=>fun p hz=>by cases hz
def gN(i0:Nat)(i1:Nat)(i2:Nat)(r:bX):TV EE.T:=.a (.vec (.nam 10) i1 r.1)
def w5(i0:Nat)(i1:Nat)(i2:Nat)(r:bX):List (Nat × TB EE.T):=[(i0,.cs (cL EE (.nam 8) r.2.1)),(i1,.vec i1 (.nam 10) r.2.2.1),(i2,.imap .bool r.2.2.2)]
def gD(r:PR bX):RL EE.T:=mM (gN 100000 200001 100002) (w5 100000 200001 100002) r
def RR:Lvs:=⟨[(4,⟨[(0,false),(1,false),(2,false),(4,false),(8,false)],[],[(8,(some 10,[])),(100000,(some 8,[])),(100002,(none,[])),(200001,(none,[]))],[]⟩),(5,⟨[(0,false),(1,false),(2,false),(4,false),(8,false),(11,false)],[],[(8,(some 10,[])),(11,(some 7,[])),(100000,(some 8,[])),(100002,(none,[])),(200001,(none,[]))],[]⟩)],[],[5],[],false,[(100000,(some 8,[]))],[100000,200001,100002],[(14,[.cl 401104 (.v (.int .i64)) (.s 12)])],[(88,200001)]⟩
def Uh:List ResultVar:=[.tmp 10]
def Qy(N:RecC2):Gam EE:=⟨[],EQT,[⟨38,ib N⟩,⟨55,qW N.n⟩],[]⟩
def Nj(N:RecC2)(hN:vu N):GOk Try.prog TT EE (Qy N):=GOk.consx (sc N hN) (GOk.consx (su N.n) (GOk.nil cQ))
def GA(c:Code):List It2:=atR 5 c
def EV(x1_n:Nat)(x4:Int)(b8:Vthread)(b11:Vstep)(Zf:VMask)(Zu:List (Int × Bool))(Zh:List Vthread):TS EE.T:=⟨89,[(0,.a (.box 100000 0)),(1,.a (.vec (.nam 10) 200001 x1_n)),(2,.a (.mpr 100002)),(4,.a (.d (.int .i64) x4)),(8,.a (.box 8 0)),(11,.a (.box 11 0))],[(8,.cs (cL EE (.nam 10) b8)),(11,.cs (cL EE (.nam 7) b11)),(100000,.cs (cL EE (.nam 8) Zf)),(100002,.imap .bool Zu),(200001,.vec 200001 (.nam 10) Zh)],[]⟩
def Q0(c:Code):List It2:=[.c c]
def NY(x1_n:Nat)(x3:Vthread)(x4:Int)(y0:VMask)(y1:List Vthread)(y2:List (Int × Bool)):TS EE.T:=⟨89,[(0,.a (.box 100000 0)),(1,.a (.vec (.nam 10) 200001 x1_n)),(2,.a (.mpr 100002)),(3,.ag (cL EE (.nam 10) x3)),(4,.a (.d (.int .i64) x4))],[(100000,.cs (cL EE (.nam 8) y0)),(200001,.vec 200001 (.nam 10) y1),(100002,.imap .bool y2)],[]⟩
def LQ(c:Code)(f:Nat->Int->Vthread->Vstep->VMask->(List (Int × Bool))->(List Vthread)->Option (PR bX))(x1_n:Nat)(x4:Int)(b8:Vthread)(b11:Vstep)(Zf:VMask)(Zu:List (Int × Bool))(Zh:List Vthread):Tree (Lf EE.T × Option (PR bX)):=.leaf (.go (GA c) (EV x1_n x4 b8 b11 Zf Zu Zh),f x1_n x4 b8 b11 Zf Zu Zh)
abbrev JH(N:RecC2)(r:PR bX)(k:List It2)(s:TS EE.T):Prop:=fL (Y:=TT) EE (Qy N) RR Uh (fun u=>u=gD r) k s
def kF(x:PR bX):Tree (Lf EE.T × Option (PR bX)):=.leaf (.done (gD x),some x)
def MQ{N:RecC2}{r:PR bX}(n:Nat)(x1_n:Nat)(x4:Int)(b8:Vthread)(b11:Vstep)(Zf:VMask)(Zu:List (Int × Bool))(Zh:List Vthread)(h:fi N n x1_n x4 b8 b11 Zf Zu Zh=some r):JH N r (GA (aa 0 Try.f38)) (EV x1_n x4 b8 b11 Zf Zu Zh):=
 au (m:=4000) (t:=
 .cond (b11.kind==2)
 (
  .bnd (dF N x1_n ({ at_:=b11.a,slots:=b8.slots }:Vthread) x4 Zf Zh Zu) fun z2=>
  .sm z2 (fun z3=>
   kF (.ok (z3.1,z3.2.1,z3.2.2.1,z3.2.2.2))) (fun vz2=>
   kF (.pan vz2)))
 (
  .cond (b11.kind==1)
  (
   .bnd (dF N x1_n ({ at_:=b11.a,slots:=b8.slots }:Vthread) x4 Zf Zh Zu) fun z4=>
   .sm z4 (fun z5=>
    .bnd (dF N z5.1 ({ at_:=b11.b,slots:=b8.slots }:Vthread) x4 z5.2.1 z5.2.2.1 z5.2.2.2) fun z6=>
    .sm z6 (fun z7=>
     kF (.ok (z7.1,z7.2.1,z7.2.2.1,z7.2.2.2))) (fun vz6=>
     kF (.pan vz6))) (fun vz4=>
    kF (.pan vz4)))
  (
   .cond (b11.kind==3)
   (
    .bnd (iH N.n b8.slots) fun z8=>
    .sm z8 (fun z9=>
     .bnd (cf z9.1 b11.a) fun z10=>
     .bnd (z9.2[z10]?) fun z11=>
     .bnd (m9 z9.1 (List.set z9.2 z10 x4)) fun z12=>
     .bnd (dF N x1_n ({ at_:=w64 (b8.at_+1),slots:=z12 }:Vthread) x4 Zf Zh Zu) fun z13=>
     .sm z13 (fun z14=>
      kF (.ok (z14.1,z14.2.1,z14.2.2.1,z14.2.2.2))) (fun vz13=>
      kF (.pan vz13))) (fun vz8=>
     kF (.pan vz8)))
   (
    .bnd (lg 32 x1_n Zh ([b8] :List Vthread)) fun z15=>
    kF (.ok (z15.length,Zf,z15,Zu)))))) (by kernel_rfl) (by kernel_rfl) h (⟨fun _=>⟨fun _=>aE (enc:=gD) rfl,fun _=>aE (enc:=gD) rfl⟩,⟨fun _=>⟨fun _=>fun _=>⟨fun _=>aE (enc:=gD) rfl,fun _=>aE (enc:=gD) rfl⟩,fun _=>aE (enc:=gD) rfl⟩,⟨fun _=>⟨fun _=>fun _=>fun _=>fun _=>fun _=>⟨fun _=>aE (enc:=gD) rfl,fun _=>aE (enc:=gD) rfl⟩,fun _=>aE (enc:=gD) rfl⟩,fun _=>aE (enc:=gD) rfl⟩⟩⟩)
def MJ{N:RecC2}{r:PR bX}(x1_n:Nat)(x3:Vthread)(x4:Int)(y0:VMask)(y1:List Vthread)(y2:List (Int × Bool))(h:dW N x1_n x3 x4 y0 y1 y2=some r):JH N r (Q0 (aa 0 Try.f38)) (NY x1_n x3 x4 y0 y1 y2):=
 au (m:=4000) (t:=
 .cond ((mL y2 x3.at_).getD false)
 (
  kF (.ok (x1_n,y0,y1,y2)))
 (
  nlR 134 (
   .bnd (ci y0.steps x3.at_) fun z1=>
   LQ (aa 0 Try.f38) (fi N N.n) x1_n x4 x3 z1 y0 (mJ y2 x3.at_ true) y1))) (by kernel_rfl) (by kernel_rfl) h (⟨aE (enc:=gD) rfl,xc (fun _=>fun h=>MQ N.n _ _ _ _ _ _ _ h)⟩)
def JJ(x1_n:Nat)(x3:Vthread)(x4:Int)(y0:VMask)(y1:List Vthread)(y2:List (Int × Bool)):List (TV EE.T):=[.a (.box 100000 0),.a (.vec (.nam 10) 200001 x1_n),.a (.mpr 100002),.ag (cL EE (.nam 10) x3),.a (.d (.int .i64) x4)]
def Cx(x1_n:Nat)(x3:Vthread)(x4:Int)(y0:VMask)(y1:List Vthread)(y2:List (Int × Bool)):List (Nat × TB EE.T):=[(100000,.cs (cL EE (.nam 8) y0)),(200001,.vec 200001 (.nam 10) y1),(100002,.imap .bool y2)]
def sa{N:RecC2}(hN:vu N)(x1_n:Nat)(x3:Vthread)(x4:Int)(y0:VMask)(y1:List Vthread)(y2:List (Int × Bool)){r:PR bX}(h:dW N x1_n x3 x4 y0 y1 y2=some r)(I:Rn)(hi:Inj I (Cx x1_n x3 x4 y0 y1 y2)):aI Try.prog 38 ((JJ x1_n x3 x4 y0 y1 y2).map (TV.to EE.toEnc I)) (hTo EE.toEnc I (Cx x1_n x3 x4 y0 y1 y2)) (cH EE I fun u=>u=gD r):=
 dI (aa 0 Try.f38) 89 mixed (Nj N hN) Try.func38 (by kernel_rfl) rfl rfl rfl rfl (MJ x1_n x3 x4 y0 y1 y2 h) I hi
def sZ(N:RecC2)(us:List (TV EE.T))(hs:List (Nat × TB EE.T)):XR EE.T:=
 gdX (d7 us 5) <|
 bnX (aB us 0) fun i0=>
 bnX (aVi (.nam 10) us 1) fun i1=>
 bnX (aVn (.nam 10) us 1) fun x1_n=>
 bnX (aM us 2) fun i2=>
 bnX (aS EE 10 us 3) fun x3=>
 bnX (aD (.int .i64) us 4) fun x4=>
 bnX (bS EE 8 hs i0) fun y0=>
 bnX (bV (.nam 10) hs i1) fun y1=>
 bnX (bI .bool hs i2) fun y2=>
 gdX (bx hs [i0,i1,i2]) <|
 gdX (ip [i0,i1,i2]) <|
 .mv (dW N x1_n x3 x4 y0 y1 y2) [i0,i1,i2] (mvL [i0,i1,i2] [100000,200001,100002]) 0 (gN i0 i1 i2) (w5 i0 i1 i2)
def pW(N:RecC2)(hN:vu N):XOk Try.prog EE 38 (sZ N):=fun us hs=>
 ay fun h1=>ab fun i0 h2=>ab fun i1 h3=>ab fun x1_n h4=>ab fun i2 h5=>ab fun x3 h6=>ab fun x4 h7=>ab fun y0 h8=>ab fun y1 h9=>ab fun y2 h10=>ay fun h11=>ay fun h12=>fun p hz I hi=>gh (ex:=[]) (ks:=[100000,200001,100002]) (us':=JJ x1_n x3 x4 y0 y1 y2) (h0:=Cx x1_n x3 x4 y0 y1 y2) (ρ':=jh I [i0,i1,i2]) (uc:=gN 100000 200001 100002) (u:=gN i0 i1 i2) (hc:=w5 100000 200001 100002) (h:=w5 i0 i1 i2) hi h11 (by kernel_rfl) ⟨gG h2 (by kernel_rfl),VD h3 h4 (by kernel_rfl),Vd h5 (by kernel_rfl),Bq h6,gB h7,bA h1⟩ ⟨(by kernel_rfl),tW h8,(by kernel_rfl),iw h9 (by kernel_rfl),(by kernel_rfl),UW h10,trivial⟩ ⟨.inr rfl,.inl rfl,.inr rfl,trivial⟩ h12 (fun hj=>sa hN x1_n x3 x4 y0 y1 y2 hz _ hj) (fun z=>⟨by kernel_rfl,by kernel_rfl,by kernel_rfl,by kernel_rfl⟩)
def mS(n0:Nat):∀m,vu ⟨n0,b7 n0 m⟩
 |0=>KG n0
 |m+1=>pW ⟨n0,b7 n0 m⟩ (mS n0 m)
def jR(N:Nat):List (TV EE.T)->List (Nat × TB EE.T)->XR EE.T:=ib ⟨N,b7 N N⟩
def lp(N:Nat):XOk Try.prog EE 38 (jR N):=mS N N
attribute [local irreducible] AS.nf OpV br Stk m8 Rk aI dM P2 QE Awp VY K4 rF oF XB YR OD
set_option maxHeartbeats 8000000
def lfs{T:Nat->Type}:Tree (OL T)->List (TS T)
 |.leaf (.st s)=>[s]
 |.nl [] a b=>lfs a++lfs b
 |_=>[]
def okL{T:Nat->Type}:Tree (OL T)->Bool
 |.leaf (.st _)=>true
 |.nl [] a b=>okL a && okL b
 |_=>false
def vP{T:Nat->Type}{R:OL T->Prop}:∀ {t:Tree (OL T)},okL t=true->(∀s∈lfs t,R (.st s))->t.holds R
 |.leaf (.st s),_,h=>h s (List.mem_singleton_self s)
 |.leaf (.pan v),h0,_=>by cases h0
 |.nl [] a b,h0,h=>by simp only[okL,Bool.and_eq_true] at h0;exact⟨fun _=>vP h0.1 fun s hs=>h s (aaf.2 (.inl hs)),vP h0.2 fun s hs=>h s (aaf.2 (.inr hs))⟩
 |.nl (_::_) a b,h0,_=>by cases h0
 |.cond _ _ _,h0,_=>by cases h0
 |.bnd _ _,h0,_=>by cases h0
 |.sm _ _ _,h0,_=>by cases h0
 |.fail,h0,_=>by cases h0
def Ku:List Oper:=[{ dst:=some 10,op:=Op.load 28 (Operand.tmp 2),type:=28,pos:= "mask.go:248",after:= #[{ on:=1,ground:=Ground.gcOnly Departure.lateStores }],guard:=none },
 { dst:=none,op:=Op.store 54 (Operand.tmp 0) (Operand.const (Value.pointer none)),type:=0,pos:= "mask.go:248",after:= #[{ on:=0,ground:=Ground.textOnly Departure.lateStores }],guard:=none },
 { dst:=none,op:=Op.store 28 (Operand.tmp 1) (Operand.tmp 10),type:=0,pos:= "mask.go:248",after:= #[{ on:=0,ground:=Ground.data },{ on:=1,ground:=Ground.chain },{ on:=0,ground:=Ground.phase },{ on:=1,ground:=Ground.phase }],guard:=none }]
def cpT(e a:Int):TS EE.T:=⟨11,[(0,.a (.box 100000 0)),(1,.a (.box 100001 0)),(2,.a (.box 100002 0)),(3,.a .tt),(9,.a .tt)],[(100002,.cs [.d (.int .i64) e,.d (.int .i64) a]),(100000,.cs [.raw (.pointer none)]),(100001,.cs [.d (.int .i64) (0:Int),.d (.int .i64) (0:Int)])],[]⟩
def cpH(e a:Int):List (Nat × TB EE.T):=[(100001,.cs [.d (.int .i64) e,.d (.int .i64) a]),(100000,.cs [.raw (.pointer none)]),(100002,.cs [.d (.int .i64) e,.d (.int .i64) a]),(100000,.cs [.raw (.pointer none)]),(100001,.cs [.d (.int .i64) (0:Int),.d (.int .i64) (0:Int)])]
def cpR(k2 k3 kb:Nat):Rn:=⟨fun i=>if i=100000 then⟨k2,false,[]⟩ else if i=100001 then⟨k3,false,[]⟩ else⟨kb,false,[]⟩⟩
def K2(e a:Int):okL (Kz TT EE ⟨[],EQT,[],[]⟩ Ku (cpT e a))=true:=by kernel_rfl
def QR(e a:Int):(lfs (Kz TT EE ⟨[],EQT,[],[]⟩ Ku (cpT e a))).map (·.h)=[cpH e a,cpH e a] :=by kernel_rfl
def faultV(e a:Int):Value:=.iface 28 (.agg #[.int .i64 e,.int .i64 a])
set_option maxRecDepth 100000 in
def Sh(k2 k3:Nat)(u0 c0 c1:AV)(hne:k2≠k3):OD Try.prog 33 [.v (.pointer (some ⟨k2,0,none⟩)),.v (.pointer (some ⟨k3,0,none⟩))] [(k2,[u0]),(k3,[c0,c1])] .returning .returning (fun out H'=>out=.ret (.tu [])/\look H' k2=some [u0] /\look H' k3=some [c0,c1]):=by
 unfold OD;refine yf Try.func33 rfl rfl rfl (fun X=>.v .nilIface) rfl rfl RW ?_;dsimp only[slotsOf,List.drop_succ_cons,List.drop_zero];repeat (first
  | ((first|apply GU);(next=>(first| (simp only[go_sem,Nat.reduceBEq,Nat.reduceEqDiff,reduceIte,reduceCtorEq,String.reduceEq,Nat.reduceAdd,Int.reduceToNat];exact rfl))))
  | ((first|apply zH rfl rfl rfl rfl);(next=>(first
   | (refine um (T:=TT) rfl ?_;(first|exact trivial))
   | (apply opk ⟨_,.typeAssert _ _ _ _,_,_,_,_⟩;first|exact wV (T:=TT) rfl rfl rfl rfl|fail)
   |fail)))
  | (refine arO _ ?_;first
   | (refine arO ⟨_,.store _ _ _,_,_,_,_⟩ ?_;first
    | (apply IZ rfl rfl;(next=>(first
     | (apply iv (T:=TT) rfl;(next=>(first|exact iM|fail));(next=>rfl);(next=>rfl);(next=>rfl);(next=>rfl);(next=>rfl);(next=>rfl);(next=>rfl);(next=>rfl))
     |fail)))
    |fail)
   | (refine arO ⟨_,.alloc _,_,_,_,_⟩ ?_;first
    | (refine l7 rfl rfl (ro (T:=TT) rfl rfl ?_);intro kb hkb;(repeat (have hkn:=(rD hkb).1;replace hkb:=(rD hkb).2));(try have hkl:=qU hkb);clear hkb;refine U8 ?_)
    |fail)
   |fail)
  |refine yU ?_
  | (refine arE ?_;refine tM [0,1,2,3,9] rfl ?_)
  |refine ot ?_
  |refine Dp ?_
  |refine EB rfl ?_
  | (refine arC (.cond _ _ _) ?_;first| (refine kE rfl ?_ ?_;(next=>(first|rfl)))|fail)
  |fail)
 rename_i hkn2;exact Mz ⟨_,rfl,rfl,t7 hkn2 iM,t7 hkn (t7 (fun e=>hne e.symm) iM)⟩
set_option maxRecDepth 100000 in
def T9(k2 k3:Nat)(e a:Int)(hne:k2≠k3):OD Try.prog 33 [.v (.pointer (some ⟨k2,0,none⟩)),.v (.pointer (some ⟨k3,0,none⟩))] [(k2,[.v (.pointer none)]),(k3,[.v (.int .i64 0),.v (.int .i64 0)])] (.panicking [⟨faultV e a,false,false⟩]) (.panicking [⟨faultV e a,true,false⟩]) (fun out H'=>out=.ret (.tu [])/\look H' k2=some [.v (.pointer none)] /\look H' k3=some [.v (.int .i64 e),.v (.int .i64 a)]):=by
 unfold OD;refine yf (ru:=.ifc 28 (.ag [.v (.int .i64 e),.v (.int .i64 a)])) Try.func33 rfl rfl rfl (fun X=>.ifc _ _ _ (.ag _ #[_,_] rfl (fun i u x hu hx=>by
  match i,hu,hx with
  |0,hu,hx=>simp at hu hx;subst hu hx;exact .v _
  |1,hu,hx=>simp at hu hx;subst hu hx;exact .v _))) rfl rfl (SL (faultV e a)) ?_
 dsimp only[slotsOf,List.drop_succ_cons,List.drop_zero];repeat (first
  | ((first|apply GU);(next=>(first| (simp only[go_sem,Nat.reduceBEq,Nat.reduceEqDiff,reduceIte,reduceCtorEq,String.reduceEq,Nat.reduceAdd,Int.reduceToNat];exact rfl))))
  | (apply zH rfl rfl rfl rfl;(next=>(first
   | (refine um (T:=TT) rfl ?_;(first|exact trivial))
   | (apply opk ⟨_,.typeAssert _ _ _ _,_,_,_,_⟩;first|exact wW (T:=TT) rfl rfl rfl rfl|fail)
   |fail)))
  | (refine arO _ ?_;first
   | (refine arO ⟨_,.store _ _ _,_,_,_,_⟩ ?_;first
    | (apply IZ rfl rfl;(next=>(first
     | (apply iv (T:=TT) rfl;(next=>(first|exact iM|fail));(next=>rfl);(next=>rfl);(next=>rfl);(next=>rfl);(next=>rfl);(next=>rfl);(next=>rfl);(next=>rfl))
     |fail)))
    |fail)
   | (refine arO ⟨_,.alloc _,_,_,_,_⟩ ?_;first
    | (refine l7 rfl rfl (ro (T:=TT) rfl rfl ?_);intro kb hkb;(repeat (have hkn:=(rD hkb).1;replace hkb:=(rD hkb).2));(try have hkl:=qU hkb);clear hkb;refine U8 ?_)
    |fail)
   |fail)
  |refine yU ?_
  | (refine arE ?_;refine tM [0,1,2,3,9] rfl ?_)
  |refine ot ?_
  |refine EB rfl ?_
  | (refine arC (.cond _ _ _) ?_;first| (refine pb rfl ?_ ?_;(next=>(first|rfl)))|fail)
  |fail)
 rename_i hkn2;have hinj:Inj (cpR k2 k3 kb) (cpT e a).h:=by intro p hp q hq;simp only[cpT,List.mem_cons,List.not_mem_nil,or_false] at hp hq;rcases hp with rfl|rfl|rfl<;> rcases hq with rfl|rfl|rfl<;> refine⟨fun _ _ h=> ?_,fun h=> ?_⟩<;> first|rfl| (exfalso;revert h;simp[cpR,Rn.b];omega)| (exfalso;revert h;simp)
 refine IA (Y:=TT) (E:=EE) (G:=⟨[],EQT,[],[]⟩) (I:=cpR k2 k3 kb) (O:=cpT e a) (ops:=Ku) mixed (GOk.nil cQ) hinj (vP (K2 e a) fun s hs=> ?_);have hs2:s.h=cpH e a:=by have:s.h∈(lfs (Kz TT EE ⟨[],EQT,[],[]⟩ Ku (cpT e a))).map (·.h):=aaQ hs;rw[QR] at this;simpa using this
 intro ρ' hi' ha;have e0:ρ' 100000=k2:=by have:=ha 100000 rfl;show(ρ'.k 100000).b=k2;rw[this];rfl
 have e1:ρ' 100001=k3:=by have:=ha 100001 rfl;show(ρ'.k 100001).b=k3;rw[this];rfl
 have hh:(TS.to EE.toEnc ρ' s).h=hTo EE.toEnc ρ' (cpH e a):=by rw[<- hs2];rfl
 refine Mz ⟨.tu [],rfl,rfl,?_,?_⟩
 ·rw[hh,<- e0];exact t7 (fun e=>hne (by rw[<- e0,<- e1];exact e)) iM
 ·rw[hh,<- e1];exact iM
end Go.Proofs.Ytlhjbhgkhpbnfaa
namespace Go.Proofs.Ytlhjbhgkhpbnfaa
open Go.Shelf Go.RowKit P
def Try.laysR_166:Go.Shelf.Ren:=⟨fun|166=>30|169=>31|170=>29|240=>48|276=>60|n=>n,fun|0=>0|3=>3|4=>4|5=>5|9=>9|20=>20|37=>46|70=>79|72=>81|75=>86|80=>89|127=>116|164=>124|n=>n,fun|n=>n⟩
set_option maxRecDepth 100000 in
def Try.laysn166:Go.Proofs.Lays.n166 Try.prog Try.laysR_166:={ mixed:=by kernel_rfl,f166:=Try.func30.trans (aas some (by kernel_rfl)),f240:=Try.func48.trans (aas some (by kernel_rfl)),f276:=Try.func60.trans (aas some (by kernel_rfl)),t0:=Try.underlying0,a0:=Try.isAgg0,z0:=Try.sizeOf0,v0:=Try.zeroValue0,t3:=Try.underlying3,a3:=Try.isAgg3,z3:=Try.sizeOf3,v3:=Try.zeroValue3,t4:=Try.underlying4,a4:=Try.isAgg4,z4:=Try.sizeOf4,v4:=Try.zeroValue4,t9:=Try.underlying9,a9:=Try.isAgg9,z9:=Try.sizeOf9,v9:=Try.zeroValue9,t20:=Try.underlying20,a20:=Try.isAgg20,z20:=Try.sizeOf20,v20:=Try.zeroValue20,t37:=Try.underlying46,a37:=Try.isAgg46,z37:=Try.sizeOf46,v37:=Try.zeroValue46,t70:=Try.underlying79,a70:=Try.isAgg79,z70:=Try.sizeOf79,v70:=Try.zeroValue79,t72:=Try.underlying81,a72:=Try.isAgg81,z72:=Try.sizeOf81,v72:=Try.zeroValue81,t75:=Try.underlying86,a75:=Try.isAgg86,z75:=Try.sizeOf86,v75:=Try.zeroValue86,t164:=Try.underlying124,a164:=Try.isAgg124,z164:=Try.sizeOf124,v164:=Try.zeroValue124 }
set_option maxRecDepth 100000 in
def Try.laysn170:Go.Proofs.Lays.n170 Try.prog Try.laysR_166:={ mixed:=by kernel_rfl,f170:=Try.func29.trans (aas some (by kernel_rfl)),t0:=Try.underlying0,a0:=Try.isAgg0,z0:=Try.sizeOf0,v0:=Try.zeroValue0,t3:=Try.underlying3,a3:=Try.isAgg3,z3:=Try.sizeOf3,v3:=Try.zeroValue3,t37:=Try.underlying46,a37:=Try.isAgg46,z37:=Try.sizeOf46,v37:=Try.zeroValue46,t70:=Try.underlying79,a70:=Try.isAgg79,z70:=Try.sizeOf79,v70:=Try.zeroValue79,t72:=Try.underlying81,a72:=Try.isAgg81,z72:=Try.sizeOf81,v72:=Try.zeroValue81 }
set_option maxRecDepth 100000 in
def Try.laysn169:Go.Proofs.Lays.n169 Try.prog Try.laysR_166:={ mixed:=by kernel_rfl,f169:=Try.func31.trans (aas some (by kernel_rfl)),t0:=Try.underlying0,a0:=Try.isAgg0,z0:=Try.sizeOf0,v0:=Try.zeroValue0,t3:=Try.underlying3,a3:=Try.isAgg3,z3:=Try.sizeOf3,v3:=Try.zeroValue3,t9:=Try.underlying9,a9:=Try.isAgg9,z9:=Try.sizeOf9,v9:=Try.zeroValue9,t37:=Try.underlying46,a37:=Try.isAgg46,z37:=Try.sizeOf46,v37:=Try.zeroValue46,t70:=Try.underlying79,a70:=Try.isAgg79,z70:=Try.sizeOf79,v70:=Try.zeroValue79,t72:=Try.underlying81,a72:=Try.isAgg81,z72:=Try.sizeOf81,v72:=Try.zeroValue81,t127:=Try.underlying116,a127:=Try.isAgg116,z127:=Try.sizeOf116,v127:=Try.zeroValue116 }
def Hk:Builder.Extra Try.prog Try.laysR_166:={ sizeBuilder:=by kernel_rfl,liesBuilder:=by kernel_rfl,t5:=Try.underlying5,a5:=Try.isAgg5,z5:=Try.sizeOf5,v5:=Try.zeroValue5,infoByte:=by kernel_rfl,cellsByte:=by kernel_rfl,sizeByte:=by kernel_rfl,neB5:=by decide }
abbrev KK(B b:Nat)(g:List UInt8)(w:World):Prop:=Lib.IsBuilder 81 5 B b (Lib.byteCells g) w
def rb{T e:TypeId}{B b:Nat}{bs:List Value}{w w':World}(h:Lib.IsBuilder T e B b bs w)(hb:Below w.heap.size w w'):Lib.IsBuilder T e B b bs w':=by
 have key:∀p,Lib.BuilderAt T e B b p bs w->Lib.BuilderAt T e B b p bs w':=by
  rintro p ⟨h1,v,h2,h3,h4⟩;refine⟨h1,v,?_,?_,h4⟩
  ·rw[hb.block b (ZU.1 h2).1];exact h2
  ·refine⟨h3.1,?_⟩;rcases h3.2 with hn| ⟨g,cap,cur,rfl,k1,k2,rest⟩
   ·exact .inl hn
   ·exact .inr ⟨g,cap,cur,rfl,k1,by rw[hb.block g (ZU.1 k2).1];exact k2,rest⟩
 rcases h with h|h
 ·exact .inl (key _ h)
 ·exact .inr (key _ h)
def qq{B B':Nat}{w w':World}(h:Below B' w w')(hB:B<=B'):Below B w w':=⟨h.os,h.tape,h.output,h.size,fun k hk=>h.block k (by omega)⟩
def w6(B b:Nat)(g s:List UInt8)(w:World)(h:KK B b g w)(hlen:g.length+s.length<=140737488355328)(hBw:B<=w.heap.size):
  Calls Try.prog 30 #[.pointer (some ⟨b,0,none⟩),.string (mkB s)] w fun e w'=>e=.returned (.tuple #[.int .i64 s.length,.nilIface])/\(KK B b (g++s) w'/\Below B w w'):=
 (Any.Builder_WriteString Try.laysn166 Hk B b (Lib.byteCells g) (mkB s) w h (by rw[Lib.byteCells_length];exact hlen) hBw).mono fun e w' k=>by obtain⟨k1,k2,k3⟩:=k;refine⟨k1,.inr ?_,k3⟩;rw[Lib.byteCells_append,show Lib.byteCells s=Lib.strCells (mkB s) from(Lib.strCells_eq (mkB s)).symm];exact k2
def wv(B b:Nat)(g:List UInt8)(w:World)(h:KK B b g w):
  Calls Try.prog 29 #[.pointer (some ⟨b,0,none⟩)] w fun e w'=>e=.returned (.int .i64 g.length)/\w'=w:=
 (Any.Builder_Len Try.laysn170 B b (Lib.byteCells g) w h).mono fun e w' k=>by rw[Lib.byteCells_length] at k;exact k
def Yu(B b:Nat)(g:List UInt8)(w:World)(h:KK B b g w)(hBw:B<=w.heap.size):
  Calls Try.prog 31 #[.pointer (some ⟨b,0,none⟩)] w fun e w'=>e=.returned (.string (mkB g))/\Below B w w':=
 Any.Builder_String_any Try.laysn169 Hk B b g w h hBw
def nW{P:Program}{f:FuncId}{us:List AV}{u:AV}{vs:List Value}{X:GW}(h:aI P f us [] (fun out H=>out=.ret u/\H=[]))(hl:vs.length=us.length)(hg:∀b n,X.g b=some n->b < X.w.heap.size)
  (hr:∀ (i:Nat) u x,us[i]? =some u->vs[i]? =some x->Rel X u x/\de (some u)=none):
  Calls P f vs.toArray X.w fun e w'=>∃X' y,e=.returned y/\X'.w=w'/\Rel X' u y/\Below X.w.heap.size X.w w'/\(∀b n,X'.g b=some n->b < w'.heap.size)/\∀b,b < X.w.heap.size->X'.g b=X.g b:=by
 have hnown:∀r,AS.own ⟨us.length,slotsOf 0 us,[],[]⟩ r=none:=by
  intro r;cases r with
  |c k o=>rfl
  |s t=>
   simp only[AS.own];cases hlk:look (slotsOf 0 us) t with
   |none=>rfl
   |some u=>
    obtain⟨_,h2⟩:=dy us 0 t u hlk;rw[aaX] at h2;have ht:t < vs.length:=by rw[hl];exact(ZD.1 h2).1
    exact(hr t u vs[t] h2 (ZE ht)).2
 have hs:SimE (fun b=>b < X.w.heap.size) X ⟨us.length,slotsOf 0 us,[],[]⟩ vs.toArray:=by
  refine⟨⟨by simp[hl],hg,fun b hb=>hb,fun t u hu=> ?_,fun k cs hk=>by simp[aP] at hk,fun x r hx=>by simp[aP] at hx,(fun r sz l ho=>by rw[hnown r] at ho;cases ho),(fun r r' sz l sz' l' a n c a' n' c' _ ho=>by rw[hnown r] at ho;cases ho)⟩,(fun p hp=>by cases hp)⟩;obtain⟨_,h2⟩:=dy us 0 t u hu;rw[aaX] at h2
  have ht:t < vs.length:=by rw[hl];exact(ZD.1 h2).1
  have:vs.toArray.getD t undef=vs[t] :=by simp[ht]
  rw[this];exact(hr t u vs[t] h2 (ZE ht)).1
 refine(h.2 _ X vs.toArray hs).mono fun e w' ⟨X',out,H',p1,p2,p3,p4⟩=> ?_;obtain⟨rfl,rfl⟩:=p2;obtain⟨y,rfl,hy⟩:=p3;subst p1;exact⟨X',y,rfl,rfl,by simpa using hy.slot 0 u (by simp[ae]),⟨p4.os,p4.tape,p4.output,p4.size,fun b hb=>(p4.frame b hb).1⟩,hy.gb,fun b hb=>(p4.frame b hb).2⟩
def mc{B:Nat}{w w':World}{a:Addr}{v:Value}(hb:Below B w w')(ha:a.block < B)(h:w.cell? a=some v):w'.cell? a=some v:=by have:=hb.block a.block ha;simp only[World.cell?,this] at h ⊢;exact h
end Go.Proofs.Ytlhjbhgkhpbnfaa
namespace Go.Proofs.Ytlhjbhgkhpbnfaa
open Go.RowKit P
def lJ{F:Nat->Prop}{X:GW}{O:AS}{tm:Array Value}(h:SimE F X O tm){B o:Nat}{cs:List AV}(hb:look O.h B=some cs)(hm:fU cs=false){v:Value}(hu:cs[o]? =some (.v v)):X.w.cell? ⟨B,o,none⟩=some v/\X.w.frozen? ⟨B,o,none⟩=false:=by
 obtain⟨_,_,arr,e,fr,h1,h2,h3,h4⟩:=(h.box B cs hb).cells hm;have ho:o < arr.size:=by rw[h2];exact(ZD.1 hu).1
 have hx:arr[o]? =some arr[o] :=ZV ho;have:=cE (h4 o _ _ hu hx);refine⟨?_,h3 o⟩;rw[World.cell?,h1];show arr[o]? =some v;rw[hx,this]
def AW(N:Nat)(m:List UInt8):Option (PR az):=dw ⟨N,bp N N⟩ m 0 0 0 []
def cmH(s:List UInt8)(at_ gr:Int)(n:Nat)(l:List Vstep):List (Nat × TB EE.T):=[(100000,.cs [.d .str s,.d (.int .i64) at_,.d (.int .i64) gr,.vec (.nam 7) 200001 n]),(200001,.vec 200001 (.nam 7) l)]
def cmR(kx:Nat):Rn:=⟨fun i=>if i=100000 then⟨kx,false,[]⟩ else⟨0,true,[]⟩⟩
abbrev u7(W:World)(kx:Nat)(b:Nat):Prop:=b < W.heap.size/\b≠kx
def OY(m:List UInt8)(W:World)(kx:Nat)(T:TypeId)(hk:W.heap[kx]? =some (.cells #[.string (mkB m),.int .i64 0,.int .i64 0,.slice none 0 0] T (0,0))):SimE (u7 W kx) ⟨W,fun _=>none⟩ ⟨1,slotsOf 0 [.v (.pointer (some ⟨kx,0,none⟩))],[(kx,[.v (.string (mkB m)),.v (.int .i64 0),.v (.int .i64 0),.v (.slice none 0 0)])],[]⟩ #[.pointer (some ⟨kx,0,none⟩)] :=by
 refine⟨⟨rfl,fun b n h=>(by cases h),fun b h=>h.1,fun t u hu=> ?_,fun k cs hk'=> ?_,fun x r hx=>by simp[aP] at hx,fun r sz l ho=> ?_,fun r r' sz l sz' l' a n c a' n' c' _ ho=> ?_⟩,fun p hp=>by cases hp⟩
 ·simp only[slotsOf,ae,aP] at hu;split at hu
  ·rename_i e;subst e;cases hu;exact .v _
  ·cases hu
 ·simp only[ae,aP] at hk';split at hk'
  ·rename_i e;subst e;cases hk';refine ef.box ⟨rfl,fun h=>h.2 rfl,_,_,_,hk,rfl,fun o=>by simp[World.frozen?,hk],fun o u x hu hx=> ?_⟩
   match o,hu,hx with
   |0,hu,hx=>simp at hu hx;subst hu hx;exact .v _
   |1,hu,hx=>simp at hu hx;subst hu hx;exact .v _
   |2,hu,hx=>simp at hu hx;subst hu hx;exact .v _
   |3,hu,hx=>simp at hu hx;subst hu hx;exact .v _
   |n+4,hu,hx=>simp at hu
  ·cases hk'
 all_goals
  exfalso;cases r with
  |s t=>simp only[AS.own,slotsOf,ae,aP] at ho;split at ho<;> cases ho
  |c k o=>
   simp only[AS.own,ae,aP] at ho;split at ho
   ·rename_i cs hcs;split at hcs
    ·cases hcs
     match o,ho with
     |0,ho=>cases ho
     |1,ho=>cases ho
     |2,ho=>cases ho
     |3,ho=>cases ho
     |n+4,ho=>simp[de] at ho
    ·cases hcs
   ·cases ho
def Ij{N:Nat}(m:List UInt8)(W:World)(kx:Nat)(T:TypeId)(hk:W.heap[kx]? =some (.cells #[.string (mkB m),.int .i64 0,.int .i64 0,.slice none 0 0] T (0,0))){r:PR az}(h:AW N m=some r):
  Calls Try.prog 34 #[.pointer (some ⟨kx,0,none⟩)] W fun e w'=>∃X':GW,X'.w=w'/\Ext (u7 W kx) ⟨W,fun _=>none⟩ X'/\match r with
   |.ok z=>e=.returned (.bool z.1)/\∃I:Rn,I 100000=kx/\Inj I (cmH z.2.1 z.2.2.1 z.2.2.2.1 z.2.2.2.2.1 z.2.2.2.2.2)/\SimE (u7 W kx) X' ⟨1,[(0,.v (.bool z.1))],hTo EE.toEnc I (cmH z.2.1 z.2.2.1 z.2.2.2.1 z.2.2.2.2.1 z.2.2.2.2.2),[]⟩ #[.bool z.1]
   |.pan v=>e=.panicked [{ v:=v,recovered:=false }] :=by
 have hinj:Inj (cmR kx) (cmH m 0 0 0 []):=by
  intro p hp q hq;simp only[cmH,List.mem_cons,List.not_mem_nil,or_false] at hp hq;rcases hp with rfl|rfl<;> rcases hq with rfl|rfl
  ·exact⟨fun _ _ _=>rfl,fun _=>rfl⟩
  ·exact⟨(fun _ h2 _=>by cases h2),(fun h=>by cases h)⟩
  ·exact⟨(fun h1 _ _=>by cases h1),(fun h=>by cases h)⟩
  ·exact⟨fun _ _ _=>rfl,fun _=>rfl⟩
 have hc:=i9 (jQ N N) m 0 0 0 [] h (cmR kx) hinj;refine(hc.2 (u7 W kx) ⟨W,fun _=>none⟩ #[.pointer (some ⟨kx,0,none⟩)] (OY m W kx T hk)).mono ?_;rintro e w' ⟨X',out,H',rfl,hp,he,hx⟩;refine⟨X',rfl,hx,?_⟩;obtain⟨q,I,rfl,ha,hq⟩:=hp;cases r with
 |ok z=>
  obtain⟨rfl,rfl,hi⟩:=hq;obtain⟨v,rfl,hs⟩:=he;have hv:v=.bool z.1:=by have:=cE (hs.slot 0 (.v (.bool z.1)) (by exact iM));simpa using this
  subst hv;refine⟨rfl,I,?_,hi,hs⟩;have:=ha 100000 rfl;show(I.k 100000).b=kx;rw[this];rfl
 |pan v=>obtain⟨rfl,rfl⟩:=hq;exact he.1
def SimE.args{F:Nat->Prop}{X:GW}{n:Nat}{t:List (Nat × AV)}{H:List (Nat × List AV)}{tm vs:Array Value}{us:List AV}(h:SimE F X ⟨n,t,H,[]⟩ tm)(hl:vs.size=us.length)(hu:∀ (i:Nat) u,us[i]? =some u->Rel X u (vs.getD i undef)/\de (some u)=none):SimE F X ⟨us.length,slotsOf 0 us,H,[]⟩ vs:=by
 have hnoc:∀ (s sz:Nat) l,AS.own ⟨us.length,slotsOf 0 us,H,[]⟩ (.s s)=some (sz,l)->False:=fun s sz l ho=>by
  simp only[AS.own] at ho;cases hlk:look (slotsOf 0 us) s with
  |none=>rw[hlk] at ho;cases ho
  |some u=>obtain⟨_,h2⟩:=dy us 0 s u hlk;rw[aaX] at h2;rw[hlk,(hu s u h2).2] at ho;cases ho
 refine h.other hl h.fb (fun s u hs=> ?_) (fun k cs hk=>⟨hk,(h.box k cs hk).nF⟩) rfl (fun r=>r) (fun r sz l ho=>.inr ?_) (fun _ _ _ _ _ _ _ _ hne _ _ _ _=>hne)
 ·obtain⟨_,h2⟩:=dy us 0 s u hs;rw[aaX] at h2;exact(hu s u h2).1
 ·cases r with
  |s s=>exact(hnoc s sz l ho).elim
  |c k o=>exact⟨ho,rfl,fun q n c hr=>(h.own_nF (r:=.c k o) ho hr).1⟩
def VH{F:Nat->Prop}{X:GW}{n:Nat}{t:List (Nat × AV)}{tm:Array Value}{kx:Nat}{I:Rn}{s:List UInt8}{at_ gr:Int}{k:Nat}{l:List Vstep}(hs:SimE F X ⟨n,t,hTo EE.toEnc I (cmH s at_ gr k l),[]⟩ tm)(hk:I 100000=kx)(hi:Inj I (cmH s at_ gr k l))(e a:Int):
  Calls Try.prog 35 #[.pointer (some ⟨kx,0,none⟩),.int .i64 e,.int .i64 a] X.w fun x w'=>x=.panicked [{ v:=faultV e a,recovered:=false }] /\∃X':GW,X'.w=w'/\Ext F X X':=by
 have hc:=iW (N:=0) e a s at_ gr k l (r:=.pan (faultV e a)) rfl I hi;subst hk;refine(hc.2 F X #[.pointer (some ⟨I 100000,0,none⟩),.int .i64 e,.int .i64 a] (hs.args rfl fun i u hu=> ?_)).mono ?_
 ·match i,hu with
  |0,hu=>cases hu;exact⟨.v _,rfl⟩
  |1,hu=>cases hu;exact⟨.v _,rfl⟩
  |2,hu=>cases hu;exact⟨.v _,rfl⟩
  |n+3,hu=>cases hu
 ·rintro x w' ⟨X',out,H',rfl,hp,he,hx⟩;obtain⟨q,ρ',rfl,ha,hq⟩:=hp;obtain⟨rfl,rfl⟩:=hq;exact⟨he.1,X',rfl,hx⟩
def doneS:Vstep:=⟨4,0,0,none⟩
def XL{F:Nat->Prop}{X:GW}{n:Nat}{t:List (Nat × AV)}{tm:Array Value}{kx:Nat}{I:Rn}{s:List UInt8}{at_ gr:Int}{k:Nat}{l l':List Vstep}(hs:SimE F X ⟨n,t,hTo EE.toEnc I (cmH s at_ gr k l),[]⟩ tm)(hk:I 100000=kx)(hi:Inj I (cmH s at_ gr k l))(hv:lg 32 k l [doneS] =some l'):
  Calls Try.prog 36 #[.pointer (some ⟨kx,0,none⟩),.agg #[.int .i64 4,.int .i64 0,.int .i64 0,.pointer none]] X.w fun x w'=>(∃v,x=.returned v)/\∃X':GW,X'.w=w'/\Ext F X X'/\∃ (ρ':Rn) (t':List (Nat × AV)) (tm':Array Value),ρ' 100000=kx/\Inj ρ' (cmH s at_ gr l'.length l')/\SimE F X' ⟨1,t',hTo EE.toEnc ρ' (cmH s at_ gr l'.length l'),[]⟩ tm':=by
 have hc:=jy (N:=0) doneS s at_ gr k l (r:=.ok (w64 ((l'.length:Int) - 1),s,at_,gr,l'.length,l')) (by unfold aq;rw[hv];rfl) I hi;subst hk;refine(hc.2 F X #[.pointer (some ⟨I 100000,0,none⟩),.agg #[.int .i64 4,.int .i64 0,.int .i64 0,.pointer none]] (hs.args rfl fun i u hu=> ?_)).mono ?_
 ·match i,hu with
  |0,hu=>cases hu;exact⟨.v _,rfl⟩
  |1,hu=>
   cases hu;refine⟨.ag _ #[_,_,_,_] rfl (fun i u x hu hx=> ?_),rfl⟩
   match i,hu,hx with
   |0,hu,hx=>cases hu;cases hx;exact .v _
   |1,hu,hx=>cases hu;cases hx;exact .v _
   |2,hu,hx=>cases hu;cases hx;exact .v _
   |3,hu,hx=>cases hu;cases hx;exact .v _
   |n+4,hu,hx=>cases hu
  |n+2,hu=>cases hu
 ·rintro x w' ⟨X',out,H',rfl,hp,he,hx⟩;obtain⟨q,ρ',rfl,ha,hq⟩:=hp;obtain⟨rfl,rfl,hi'⟩:=hq;obtain⟨v,rfl,hs'⟩:=he;exact⟨⟨v,rfl⟩,X',rfl,hx,ρ',_,_,aas Bk.b (ha 100000 rfl),hi',hs'⟩
def M2(W:World)(k2 k3:Nat)(hne:k2≠k3)(p:Value)(e a:Int)(T2 T3:TypeId)(h2:W.heap[k2]? =some (.cells #[p] T2 (0,0)))(h3:W.heap[k3]? =some (.cells #[.int .i64 e,.int .i64 a] T3 (0,0))):
  SimE (fun b=>b < W.heap.size/\b≠k2/\b≠k3) ⟨W,fun _=>none⟩ ⟨2,slotsOf 0 [.v (.pointer (some ⟨k2,0,none⟩)),.v (.pointer (some ⟨k3,0,none⟩))],[(k2,[.v p]),(k3,[.v (.int .i64 e),.v (.int .i64 a)])],[]⟩ #[.pointer (some ⟨k2,0,none⟩),.pointer (some ⟨k3,0,none⟩)] :=by
 have hno:∀r sz l,AS.own ⟨2,slotsOf 0 [.v (.pointer (some ⟨k2,0,none⟩)),.v (.pointer (some ⟨k3,0,none⟩))],[(k2,[.v p]),(k3,[.v (.int .i64 e),.v (.int .i64 a)])],[]⟩ r=some (sz,l)->False:=by
  intro r sz l ho;cases r with
  |s t=>
   simp only[AS.own,slotsOf,ae,aP] at ho;split at ho
   ·cases ho
   ·split at ho<;> cases ho
  |c k o=>
   simp only[AS.own,ae,aP] at ho;split at ho
   ·rename_i cs hcs;split at hcs
    ·cases hcs
     match o,ho with
     |0,ho=>cases ho
     |n+1,ho=>simp[de] at ho
    ·split at hcs
     ·cases hcs
      match o,ho with
      |0,ho=>cases ho
      |1,ho=>cases ho
      |n+2,ho=>simp[de] at ho
     ·cases hcs
   ·cases ho
 refine⟨⟨rfl,fun b n h=>(by cases h),fun b h=>h.1,fun t u hu=> ?_,fun k cs hk'=> ?_,fun x r hx=>by simp[aP] at hx,fun r sz l ho=>(hno r sz l ho).elim,fun r r' sz l sz' l' a n c a' n' c' _ ho=>(hno r sz l ho).elim⟩,fun p hp=>by cases hp⟩
 ·simp only[slotsOf,ae,aP] at hu;split at hu
  ·rename_i e;subst e;cases hu;exact .v _
  ·split at hu
   ·rename_i e;subst e;cases hu;exact .v _
   ·cases hu
 ·simp only[ae,aP] at hk';split at hk'
  ·rename_i e;subst e;cases hk';refine ef.box ⟨rfl,fun h=>h.2.1 rfl,_,_,_,h2,rfl,fun o=>by simp[World.frozen?,h2],fun o u x hu hx=> ?_⟩
   match o,hu,hx with
   |0,hu,hx=>simp at hu hx;subst hu hx;exact .v _
   |n+1,hu,hx=>simp at hu
  ·split at hk'
   ·rename_i e;subst e;cases hk';refine ef.box ⟨rfl,fun h=>h.2.2 rfl,_,_,_,h3,rfl,fun o=>by simp[World.frozen?,h3],fun o u x hu hx=> ?_⟩
    match o,hu,hx with
    |0,hu,hx=>simp at hu hx;subst hu hx;exact .v _
    |1,hu,hx=>simp at hu hx;subst hu hx;exact .v _
    |n+2,hu,hx=>simp at hu
   ·cases hk'
def JD(W:World)(k2 k3:Nat)(hne:k2≠k3)(e a:Int)(T2 T3:TypeId)(h2:W.heap[k2]? =some (.cells #[.pointer none] T2 (0,0)))(h3:W.heap[k3]? =some (.cells #[.int .i64 0,.int .i64 0] T3 (0,0))):
  CallsD Try.prog 33 #[.pointer (some ⟨k2,0,none⟩),.pointer (some ⟨k3,0,none⟩)] (.panicking [{ v:=faultV e a,recovered:=false }]) W fun x u' w'=>u'=.panicking [{ v:=faultV e a,recovered:=true }] /\(∃v,x=.returned v)/\w'.cell? ⟨k2,0,none⟩=some (.pointer none)/\w'.cell? ⟨k3,0,none⟩=some (.int .i64 e)/\w'.cell? ⟨k3,1,none⟩=some (.int .i64 a)/\(∃X':GW,X'.w=w'/\Ext (fun b=>b < W.heap.size/\b≠k2/\b≠k3) ⟨W,fun _=>none⟩ X'):=by
 refine(T9 k2 k3 e a hne _ ⟨W,fun _=>none⟩ _ (M2 W k2 k3 hne _ 0 0 T2 T3 h2 h3)).mono ?_;rintro x u' w' ⟨rfl,X',out,H',rfl,⟨rfl,l2,l3⟩,⟨v,rfl,hs⟩,hx⟩;exact⟨rfl,⟨v,rfl⟩,(lJ hs l2 rfl rfl).1,(lJ hs l3 rfl rfl).1,(lJ hs l3 rfl rfl).1,X',rfl,hx⟩
def SX(W:World)(k2 k3:Nat)(hne:k2≠k3)(p:Value)(e a:Int)(T2 T3:TypeId)(h2:W.heap[k2]? =some (.cells #[p] T2 (0,0)))(h3:W.heap[k3]? =some (.cells #[.int .i64 e,.int .i64 a] T3 (0,0))):
  CallsD Try.prog 33 #[.pointer (some ⟨k2,0,none⟩),.pointer (some ⟨k3,0,none⟩)] .returning W fun x u' w'=>u'=.returning/\(∃v,x=.returned v)/\w'.cell? ⟨k2,0,none⟩=some p/\w'.cell? ⟨k3,0,none⟩=some (.int .i64 e)/\w'.cell? ⟨k3,1,none⟩=some (.int .i64 a)/\(∃X':GW,X'.w=w'/\Ext (fun b=>b < W.heap.size/\b≠k2/\b≠k3) ⟨W,fun _=>none⟩ X'):=by
 refine(Sh k2 k3 (.v p) (.v (.int .i64 e)) (.v (.int .i64 a)) hne _ ⟨W,fun _=>none⟩ _ (M2 W k2 k3 hne p e a T2 T3 h2 h3)).mono ?_;rintro x u' w' ⟨rfl,X',out,H',rfl,⟨rfl,l2,l3⟩,⟨v,rfl,hs⟩,hx⟩;exact⟨rfl,⟨v,rfl⟩,(lJ hs l2 rfl rfl).1,(lJ hs l3 rfl rfl).1,(lJ hs l3 rfl rfl).1,X',rfl,hx⟩
def gm(w:World)(o:Obj):(w.alloc o).heap.size=w.heap.size+1:=by unfold World.alloc;exact Array.size_push ..
abbrev cpW(m:List UInt8)(w:World):World:=((w.alloc (.cells #[.pointer none] 54)).alloc (.cells #[.int .i64 0,.int .i64 0] 28)).alloc (.cells #[.string (mkB m),.int .i64 0,.int .i64 0,.slice none 0 0] 97)
def eX(m:List UInt8)(w:World):(cpW m w).heap.size=w.heap.size+1+1+1:=by rw[gm,gm,gm]
def NT(m:List UInt8)(w:World):(cpW m w).heap[w.heap.size+1+1]? =some (.cells #[.string (mkB m),.int .i64 0,.int .i64 0,.slice none 0 0] 97 (0,0)):=by
 have:=heap_alloc_new ((w.alloc (.cells #[.pointer none] 54)).alloc (.cells #[.int .i64 0,.int .i64 0] 28)) (.cells #[.string (mkB m),.int .i64 0,.int .i64 0,.slice none 0 0] 97)
 rwa [gm,gm] at this
def MI(m:List UInt8)(w:World):(cpW m w).heap[w.heap.size+1]? =some (.cells #[.int .i64 0,.int .i64 0] 28 (0,0)):=by
 rw[Below.heap_alloc _ _ _ (by rw[gm,gm];omega)];have:=heap_alloc_new (w.alloc (.cells #[.pointer none] 54)) (.cells #[.int .i64 0,.int .i64 0] 28)
 rwa [gm] at this
def N9(m:List UInt8)(w:World):(cpW m w).heap[w.heap.size]? =some (.cells #[.pointer none] 54 (0,0)):=by rw[Below.heap_alloc _ _ _ (by rw[gm,gm];omega),Below.heap_alloc _ _ _ (by rw[gm];omega)];exact heap_alloc_new w (.cells #[.pointer none] 54)
def wd(m:List UInt8)(w:World):Below w.heap.size w (cpW m w):=(((Below.refl _ w).alloc (ZN _) _).alloc (by rw[gm];omega) _).alloc (by rw[gm,gm];omega) _
def iL{B:Nat}{F:Nat->Prop}{X X':GW}(h:Ext F X X')(hF:∀b,b < B->F b):Below B X.w X'.w:=⟨h.os,h.tape,h.output,h.size,fun b hb=>(h.frame b (hF b hb)).1⟩
set_option maxRecDepth 100000 in
set_option maxHeartbeats 4000000 in
def Ee{N:Nat}(m:List UInt8)(hm:m.length<=60)(e a:Int)(h:AW N m=some (.pan (faultV e a)))(w:World):
  Calls Try.prog 21 #[.string (mkB m)] w fun x w'=>x=.returned (.tuple #[.pointer none,.agg #[.int .i64 e,.int .i64 a]])/\Below w.heap.size w w':=by
 have hsize:= @lU;have hmf:∀ (fn:Fn) (first cap:Array Value) (w:World),(Instr.makeFunc fn first cap).run Try.prog w=.ok (.func fn first cap) w:=fun _ _ _ _=>rfl;have hmw:=Ij m (cpW m w) (w.heap.size+1+1) _ (NT m w) h
 go_enter_defers Try.func21,Try.ntmps21
 go_wp2_with (go_at_call 34;refine hmw.mono ?_)
 intro x w' X1 hw hx1 hpan;subst hw hpan;have hne:w.heap.size≠w.heap.size+1:=by omega
 have f2:=(hx1.frame w.heap.size ⟨by rw[eX];omega,by omega⟩).1;have f3:=(hx1.frame (w.heap.size+1) ⟨by rw[eX];omega,by omega⟩).1;have hb1:Below w.heap.size w X1.w:=(wd m w).trans (iL hx1 fun b hb=>⟨by rw[eX];omega,by omega⟩);have hclo:=JD X1.w w.heap.size (w.heap.size+1) hne e a _ _ (f2.trans (N9 m w)) (f3.trans (MI m w))
 show bodyPostD _ _ _ _ _ _;refine leaves_cons (f:=33) (args:= #[.pointer (some ⟨w.heap.size,0,none⟩),.pointer (some ⟨w.heap.size+1,0,none⟩)]) (by simp) (by simp[go_sem]) ?_;refine hclo.mono ?_;rintro y u' w2 ⟨rfl,⟨v,rfl⟩,c2,c3,c4,X2,rfl,hx2⟩;simp[Leaves,settle,results,Try.results21,go_sem,c2,c3,c4]
 have hz:=iL (B:=w.heap.size) hx2 fun b hb=>⟨aaj hb hb1.size,by omega,by omega⟩
 exact hb1.trans hz
def yC{F:Nat->Prop}{X:GW}{n:Nat}{t:List (Nat × AV)}{tm:Array Value}{kx:Nat}{I:Rn}{s:List UInt8}{at_ gr:Int}{k:Nat}{l:List Vstep}(hs:SimE F X ⟨n,t,hTo EE.toEnc I (cmH s at_ gr k l),[]⟩ tm)(hk:I 100000=kx):X.w.cell? ⟨kx,1,none⟩=some (.int .i64 at_)/\X.w.cell? ⟨kx,2,none⟩=some (.int .i64 gr)/\X.w.cell? ⟨kx,3,none⟩=some (vecV (I.k 200001) 4 k):=by subst hk;have hb:look (hTo EE.toEnc I (cmH s at_ gr k l)) (I 100000)=some [.v (.string (mkB s)),.v (.int .i64 at_),.v (.int .i64 gr),.v (vecV (I.k 200001) 4 k)] :=iM;exact⟨(lJ hs hb rfl rfl).1,(lJ hs hb rfl rfl).1,(lJ hs hb rfl rfl).1⟩
set_option maxRecDepth 100000 in
set_option maxHeartbeats 4000000 in
def CN{N:Nat}(m:List UInt8)(hm:m.length<=60){emp:Bool}{s:List UInt8}{at_ gr:Int}{k:Nat}{l:List Vstep}(h:AW N m=some (.ok (emp,s,at_,gr,k,l)))(hat:at_ < (m.length:Int))(w:World):
  Calls Try.prog 21 #[.string (mkB m)] w fun x w'=>x=.returned (.tuple #[.pointer none,.agg #[.int .i64 1,.int .i64 at_]])/\Below w.heap.size w w':=by
 have hsize:= @lU;have hmf:∀ (fn:Fn) (first cap:Array Value) (w:World),(Instr.makeFunc fn first cap).run Try.prog w=.ok (.func fn first cap) w:=fun _ _ _ _=>rfl;have hmw:=Ij m (cpW m w) (w.heap.size+1+1) _ (NT m w) h
 go_enter_defers Try.func21,Try.ntmps21
 go_wp2_with (go_at_call 34;refine hmw.mono ?_)
 intro x w' X1 hw hx1 hx I hρ hi hs;subst hw hx;obtain⟨c1,c2,c3⟩:=yC hs hρ;have hne:w.heap.size≠w.heap.size+1:=by omega
 have f2:=(hx1.frame w.heap.size ⟨by rw[eX];omega,by omega⟩).1;have f3:=(hx1.frame (w.heap.size+1) ⟨by rw[eX];omega,by omega⟩).1;have hb1:Below w.heap.size w X1.w:=(wd m w).trans (iL hx1 fun b hb=>⟨by rw[eX];omega,by omega⟩);have hfw:=VH hs hρ hi 1 at_
 go_wp2_with (go_at_call 35;refine hfw.mono ?_)
 rintro x w' ⟨hx,X2,hw,hx2⟩;subst hw hx;have g2:=(hx2.frame w.heap.size ⟨by rw[eX];omega,by omega⟩).1;have g3:=(hx2.frame (w.heap.size+1) ⟨by rw[eX];omega,by omega⟩).1;have hb2:Below w.heap.size w X2.w:=hb1.trans (iL hx2 fun b hb=>⟨by rw[eX];omega,by omega⟩)
 have hclo:=JD X2.w w.heap.size (w.heap.size+1) hne 1 at_ _ _ (g2.trans (f2.trans (N9 m w))) (g3.trans (f3.trans (MI m w)));show bodyPostD _ _ _ _ _ _;refine leaves_cons (f:=33) (args:= #[.pointer (some ⟨w.heap.size,0,none⟩),.pointer (some ⟨w.heap.size+1,0,none⟩)]) (by simp) (by simp[go_sem]) ?_;refine hclo.mono ?_
 rintro y u' w2 ⟨rfl,⟨v,rfl⟩,c2,c3,c4,X3,rfl,hx3⟩;simp[Leaves,settle,results,Try.results21,go_sem,c2,c3,c4];have hz:=iL (B:=w.heap.size) hx3 fun b hb=>⟨aaj hb hb2.size,by omega,by omega⟩
 exact hb2.trans hz
set_option maxRecDepth 100000 in
def C2(m:List UInt8)(hm:60 < m.length)(w:World):
  Calls Try.prog 21 #[.string (mkB m)] w fun x w'=>x=.returned (.tuple #[.pointer none,.agg #[.int .i64 2,.int .i64 0]])/\Below w.heap.size w w':=by
 have hsize:= @lU
 go_enter_defers Try.func21,Try.ntmps21
 go_wp2
 simp[bodyPostD,Leaves,settle,results,Try.results21,go_sem];exact((Below.refl _ w).alloc (ZN _) _).alloc (by rw[gm];omega) _
def Vz(b:Bk)(sz n:Nat)(hn:n≠0):vecV b sz n=.slice (some ⟨b.b,0,none⟩) n (n+b.sp.length / sz):=by unfold vecV;rw[ZH];simp only[Bool.and_eq_true,not_and];intro _ h;exact hn (ZK h)
def yp{w:World}{b:Nat}{cs:Array Value}{T:TypeId}(h:w.heap[b]? =some (.cells cs T (0,0)))(o:Nat):w.frozen? ⟨b,o,none⟩=false:=by simp[World.frozen?,h]
def vZ{U:World}{b:Nat}{cs:Array Value}{T:TypeId}{fr:Nat × Nat}(h:U.heap[b]? =some (.cells cs T fr))(o:Nat)(v:Value):(U.setCell ⟨b,o,none⟩ v).heap[b]? =some (.cells (cs.setIfInBounds o v) T fr):=by simp[World.setCell,Array.getElem?_modify,h]
abbrev enW(U:World)(k2 k3:Nat)(p:Value):World:=(((U.setCell ⟨k2,0,none⟩ p).setCell ⟨k3,0,none⟩ (.int .i64 0)).setCell ⟨k3,1,none⟩ (.int .i64 0)).drew
def Yj{U:World}{k2 k3:Nat}{p q:Value}{T:TypeId}(hne:k2≠k3)(h:U.heap[k2]? =some (.cells #[q] T (0,0))):(enW U k2 k3 p).heap[k2]? =some (.cells #[p] T (0,0)):=by show(((U.setCell ⟨k2,0,none⟩ p).setCell ⟨k3,0,none⟩ (.int .i64 0)).setCell ⟨k3,1,none⟩ (.int .i64 0)).heap[k2]? =_;rw[Below.heap_setCell _ _ _ _ hne,Below.heap_setCell _ _ _ _ hne];exact vZ h 0 p
def Xx{U:World}{k2 k3:Nat}{p a b:Value}{T:TypeId}(hne:k2≠k3)(h:U.heap[k3]? =some (.cells #[a,b] T (0,0))):(enW U k2 k3 p).heap[k3]? =some (.cells #[.int .i64 0,.int .i64 0] T (0,0)):=by
 have h1:(U.setCell ⟨k2,0,none⟩ p).heap[k3]? =some (.cells #[a,b] T (0,0)):=by rw[Below.heap_setCell _ _ _ _ (Ne.symm hne)];exact h
 exact vZ (vZ h1 0 (.int .i64 0)) 1 (.int .i64 0)
def Vl{U:World}{k2 k3 b:Nat}{p:Value}(h2:b≠k2)(h3:b≠k3):(enW U k2 k3 p).heap[b]? =U.heap[b]? :=by show(((U.setCell ⟨k2,0,none⟩ p).setCell ⟨k3,0,none⟩ (.int .i64 0)).setCell ⟨k3,1,none⟩ (.int .i64 0)).heap[b]? =_;rw[Below.heap_setCell _ _ _ _ h3,Below.heap_setCell _ _ _ _ h3,Below.heap_setCell _ _ _ _ h2]
def Ox(U:World)(k2 k3:Nat)(p:Value):(enW U k2 k3 p).heap.size=U.heap.size:=by show(((U.setCell ⟨k2,0,none⟩ p).setCell ⟨k3,0,none⟩ (.int .i64 0)).setCell ⟨k3,1,none⟩ (.int .i64 0)).heap.size=_;simp[World.setCell]
def EN{F:Nat->Prop}{X2 X4:GW}{w:World}{n k2 k3:Nat}{t2:List (Nat × AV)}{tm2:Array Value}{ρ2:Rn}{s:List UInt8}{at_ gr:Int}{l':List Vstep}{p:Value}{T:TypeId}(hs2:SimE F X2 ⟨n,t2,hTo EE.toEnc ρ2 (cmH s at_ gr l'.length l'),[]⟩ tm2)(hi2:Inj ρ2 (cmH s at_ gr l'.length l'))(hl0:l'.length≠0)
  (hF2:F k2) (hF3:F k3) (g2:X2.g k2=none) (g3:X2.g k3=none) (hg:∀b,b < w.heap.size->F b/\X2.g b=none) (hk2:w.heap.size<=k2) (hk3:w.heap.size<=k3) (hkm2:k2 < X2.w.heap.size) (hkm3:k3 < X2.w.heap.size)
  (hx4:Ext (fun b=>b < (enW (X2.w.alloc (.cells #[.int .i64 gr,.slice (some ⟨(ρ2.k 200001).b,0,none⟩) l'.length (l'.length+ (ρ2.k 200001).sp.length / 4)] T)) k2 k3 p).heap.size/\b≠k2/\b≠k3) ⟨enW (X2.w.alloc (.cells #[.int .i64 gr,.slice (some ⟨(ρ2.k 200001).b,0,none⟩) l'.length (l'.length+ (ρ2.k 200001).sp.length / 4)] T)) k2 k3 p,fun _=>none⟩ X4) (hb:Below w.heap.size w X2.w):
  ∃X':GW,X'.w=X4.w/\Ext (fun b=>b < w.heap.size) ⟨w,fun _=>none⟩ X'/\SimE (fun b=>b < w.heap.size) X' ⟨1,[],[(X2.w.heap.size,[.v (.int .i64 gr),.sl false 4 (l'.map (cells EE.toEnc (.nam 7)))])],[]⟩ #[undef] :=by
 have hlive:bi ρ2 (.vec 200001 (.nam 7) l':TB EE.T)=true:=by
  cases l' with
  |nil=>exact absurd rfl hl0
  |cons x xs=>show(!((ρ2.k 200001).nil && false))=true;rw[abz];rfl
 have hto:hTo EE.toEnc ρ2 (cmH s at_ gr l'.length l')=[(ρ2 100000,[.v (.string (mkB s)),.v (.int .i64 at_),.v (.int .i64 gr),.v (vecV (ρ2.k 200001) 4 l'.length)]),(ρ2 200001,(l'.map (cells EE.toEnc (.nam 7))).flatten++ (ρ2.k 200001).sp.map AV.v)] :=by
  show List.map _ (List.filter _ [_,_])=_;rw[List.filter_cons_of_pos (by rfl),List.filter_cons_of_pos (by exact hlive)];rfl
 have hnk:ρ2 200001≠ρ2 100000:=fun e=>by have:=(hi2 _ (ZP) _ (ZM _ ZP)).1 rfl hlive e.symm;cases this
 have hbv:look (hTo EE.toEnc ρ2 (cmH s at_ gr l'.length l')) (ρ2 200001)=some ((l'.map (cells EE.toEnc (.nam 7))).flatten++ (ρ2.k 200001).sp.map AV.v):=by rw[hto];exact t7 hnk iM
 obtain⟨X3,hw3,hs3,hfz,hx3⟩:=hs2.freeze hbv (by
  cases l' with
  |nil=>exact absurd rfl hl0
  |cons x xs=>rfl)
 have hlen:(l'.map (cells EE.toEnc (.nam 7))).length=l'.length:=Z3 _;have hrel:Rel X3 (.sl false 4 (l'.map (cells EE.toEnc (.nam 7)))) (.slice (some ⟨(ρ2.k 200001).b,0,none⟩) l'.length (l'.length+ (ρ2.k 200001).sp.length / 4)):=by
  have:=hfz.sl (sz:=4) (L:=l'.map (cells EE.toEnc (.nam 7))) (sp:=(ρ2.k 200001).sp.map AV.v) (c:=l'.length+ (ρ2.k 200001).sp.length / 4) rfl (fun r hr=>by obtain⟨z,_,rfl⟩:=ZW.1 hr;rfl) (by rw[hlen];exact abf _ _)
  rwa [hlen] at this
 have n2:X3.g k2=none:=(hx3.frame k2 hF2).2.trans g2;have n3:X3.g k3=none:=(hx3.frame k3 hF3).2.trans g3;have hgb:∀b m,X3.g b=some m->b < X2.w.heap.size:=fun b m h=>by rw[<- hw3];exact hs3.gb b m h
 have hus:∀o:Obj,(enW (X2.w.alloc o) k2 k3 p).heap.size=X2.w.heap.size+1:=fun o=>by rw[Ox,gm]
 have hheap:∀b,b < X2.w.heap.size->b≠k2->b≠k3->X4.w.heap[b]? =X2.w.heap[b]? :=fun b hlt e2 e3=>by rw[(hx4.frame b ⟨by rw[hus];omega,e2,e3⟩).1];show(enW _ k2 k3 p).heap[b]? =_;rw[Vl e2 e3];exact Below.heap_alloc _ _ _ hlt
 have hkm:X4.w.heap[X2.w.heap.size]? =some (.cells #[.int .i64 gr,.slice (some ⟨(ρ2.k 200001).b,0,none⟩) l'.length (l'.length+ (ρ2.k 200001).sp.length / 4)] T (0,0)):=by
  rw[(hx4.frame X2.w.heap.size ⟨by rw[hus];omega,by omega,by omega⟩).1];show(enW _ k2 k3 p).heap[X2.w.heap.size]? =_;rw[Vl (by omega) (by omega)];exact heap_alloc_new X2.w _
 have hsize:X2.w.heap.size+1<=X4.w.heap.size:=by have:=hx4.size;rw[hus] at this;exact this
 have hpres:nj X3 ⟨X4.w,X3.g⟩:=fun b m h=>⟨m,ZN _,h,fun j hj=>by
  have hlt:=hgb b m h;have e2:b≠k2:=fun e=>by rw[e,n2] at h;cases h
  have e3:b≠k3:=fun e=>by rw[e,n3] at h;cases h
  have:=hheap b hlt e2 e3;rw[<- hw3] at this;simp only[World.cell?,this]⟩
 have hbel:Below w.heap.size w X4.w:=by refine⟨hx4.os.trans hb.os,hx4.tape.trans hb.tape,hx4.output.trans hb.output,by have:=hb.size;omega,fun b hlt=> ?_⟩;rw[hheap b (by have:=hb.size;omega) (by omega) (by omega)];exact hb.block b hlt
 refine⟨⟨X4.w,X3.g⟩,rfl,⟨hbel.os,hbel.tape,hbel.output,hbel.size,fun b hlt=>⟨hbel.block b hlt,(hx3.frame b (hg b hlt).1).2.trans (hg b hlt).2⟩,fun b m h=>by cases h⟩,?_⟩;have hno:∀r sz l,AS.own ⟨1,[],[(X2.w.heap.size,[.v (.int .i64 gr),.sl false 4 (l'.map (cells EE.toEnc (.nam 7)))])],[]⟩ r=some (sz,l)->False:=by
  intro r sz l ho;cases r with
  |s t=>simp[AS.own,aP,de] at ho
  |c k o=>
   simp only[AS.own,ae,aP] at ho;split at ho
   ·rename_i cs hcs;split at hcs
    ·cases hcs
     match o,ho with
     |0,ho=>cases ho
     |1,ho=>cases ho
     |n+2,ho=>simp[de] at ho
    ·cases hcs
   ·cases ho
 refine⟨⟨rfl,fun b m h=>by have:=hgb b m h;show b < X4.w.heap.size;omega,fun b hlt=>by have:=hbel.size;show b < X4.w.heap.size;omega,fun t u hu=>by simp[aP] at hu,fun k cs hk'=> ?_,fun x r hx=>by simp[aP] at hx,fun r sz l ho=>(hno r sz l ho).elim,fun r r' sz l sz' l' a n c a' n' c' _ ho=>(hno r sz l ho).elim⟩,fun p hp=>by cases hp⟩
 simp only[ae,aP] at hk';split at hk'
 ·rename_i e;subst e;cases hk';refine ef.box ⟨?_,fun h=> ?_,_,_,_,hkm,rfl,fun o=>by simp[World.frozen?,hkm],fun o u x hu hx=> ?_⟩
  ·show X3.g X2.w.heap.size=none;cases hq:X3.g X2.w.heap.size with
   |none=>rfl
   |some m=>exact absurd (hgb _ m hq) (aa1 _)
  ·have:=hb.size;have h2:X2.w.heap.size < w.heap.size:=h;omega
  ·match o,hu,hx with
   |0,hu,hx=>simp at hu hx;subst hu hx;exact .v _
   |1,hu,hx=>simp at hu hx;subst hu hx;exact hrel.mono hpres
   |n+2,hu,hx=>simp at hu
 ·cases hk'
set_option maxRecDepth 100000 in
set_option maxHeartbeats 4000000 in
def HQ{N:Nat}(m:List UInt8)(hm:m.length<=60){emp:Bool}{s:List UInt8}{at_ gr:Int}{k:Nat}{l l':List Vstep}(h:AW N m=some (.ok (emp,s,at_,gr,k,l)))(hat:¬at_ < (m.length:Int))(hv:lg 32 k l [doneS] =some l')(hl0:l'.length≠0)(w:World):
  Calls Try.prog 21 #[.string (mkB m)] w fun x w'=>∃ (X':GW) (km:Nat),x=.returned (.tuple #[.pointer (some ⟨km,0,none⟩),.agg #[.int .i64 0,.int .i64 0]])/\X'.w=w'/\Ext (fun b=>b < w.heap.size) ⟨w,fun _=>none⟩ X'/\SimE (fun b=>b < w.heap.size) X' ⟨1,[],[(km,[.v (.int .i64 gr),.sl false 4 (l'.map (cells EE.toEnc (.nam 7)))])],[]⟩ #[undef] :=by
 have hsize:= @lU;have hmf:∀ (fn:Fn) (first cap:Array Value) (w:World),(Instr.makeFunc fn first cap).run Try.prog w=.ok (.func fn first cap) w:=fun _ _ _ _=>rfl;have hmw:=Ij m (cpW m w) (w.heap.size+1+1) _ (NT m w) h
 go_enter_defers Try.func21,Try.ntmps21
 go_wp2_with (go_at_call 34;refine hmw.mono ?_)
 intro x w' X1 hw hx1 hx I hρ hi hs;subst hw hx;obtain⟨c1,c2,c3⟩:=yC hs hρ;have hne:w.heap.size≠w.heap.size+1:=by omega
 have f2:=(hx1.frame w.heap.size ⟨by rw[eX];omega,by omega⟩).1;have f3:=(hx1.frame (w.heap.size+1) ⟨by rw[eX];omega,by omega⟩).1;have hb1:Below w.heap.size w X1.w:=(wd m w).trans (iL hx1 fun b hb=>⟨by rw[eX];omega,by omega⟩);have hpw:=XL hs hρ hi hv
 go_wp2_with (go_at_call 36;refine hpw.mono ?_)
 rintro x w' ⟨⟨v,hx⟩,X2,hw,hx2,ρ2,t2,tm2,hρ2,hi2,hs2⟩;subst hw hx;have g2:X2.w.heap[w.heap.size]? =_:=(hx2.frame w.heap.size ⟨by rw[eX];omega,by omega⟩).1.trans (f2.trans (N9 m w));have g3:X2.w.heap[w.heap.size+1]? =_:=(hx2.frame (w.heap.size+1) ⟨by rw[eX];omega,by omega⟩).1.trans (f3.trans (MI m w))
 have hb2:Below w.heap.size w X2.w:=hb1.trans (iL hx2 fun b hb=>⟨by rw[eX];omega,by omega⟩);obtain⟨e1,e2,e3⟩:=yC hs2 hρ2;rw[Vz _ _ _ hl0] at e3;have d2:X2.w.drew.cell? ⟨w.heap.size+1+1,2,none⟩=some (.int .i64 gr):=e2
 have d3:X2.w.drew.cell? ⟨w.heap.size+1+1,3,none⟩=some (.slice (some ⟨(ρ2.k 200001).b,0,none⟩) l'.length (l'.length+ (ρ2.k 200001).sp.length / 4)):=e3;have hsz:w.heap.size+1+1+1<=X2.w.heap.size:=by have a1:=hx1.size;have a2:=hx2.size;rw[show(⟨cpW m w,fun _=>none⟩:GW).w.heap.size=w.heap.size+1+1+1 from eX m w] at a1;omega
 have q2:∀o:Obj,(X2.w.alloc o).heap[w.heap.size]? =_:=fun o=>(Below.heap_alloc X2.w o _ (by omega)).trans g2;have q3:∀o:Obj,(X2.w.alloc o).heap[w.heap.size+1]? =_:=fun o=>(Below.heap_alloc X2.w o _ (by omega)).trans g3;have d4:∀o:Obj,(X2.w.alloc o).cell? ⟨w.heap.size,0,none⟩=some (.pointer none):=fun o=>by simp[World.cell?,q2 o]
 have d5:∀o:Obj,(X2.w.alloc o).cell? ⟨w.heap.size+1,0,none⟩=some (.int .i64 0):=fun o=>by simp[World.cell?,q3 o]
 have d6:∀o:Obj,(X2.w.alloc o).cell? ⟨w.heap.size+1,1,none⟩=some (.int .i64 0):=fun o=>by simp[World.cell?,q3 o]
 have r4:∀o:Obj,(X2.w.alloc o).frozen? ⟨w.heap.size,0,none⟩=false:=fun o=>yp (q2 o) 0;have r5:∀o:Obj,(X2.w.alloc o).frozen? ⟨w.heap.size+1,0,none⟩=false:=fun o=>yp (q3 o) 0;have r6:∀o:Obj,(X2.w.alloc o).frozen? ⟨w.heap.size+1,1,none⟩=false:=fun o=>yp (q3 o) 1
 go_wp2
 go_region
 go_wp2
 have hclo:=SX (enW (X2.w.alloc (.cells #[.int .i64 gr,.slice (some ⟨(ρ2.k 200001).b,0,none⟩) l'.length (l'.length+ (ρ2.k 200001).sp.length / 4)] 93)) w.heap.size (w.heap.size+1) (.pointer (some ⟨X2.w.heap.size,0,none⟩))) w.heap.size (w.heap.size+1) hne (.pointer (some ⟨X2.w.heap.size,0,none⟩)) 0 0 _ _ (Yj hne (q2 _)) (Xx hne (q3 _))
 refine leaves_cons (f:=33) (args:= #[.pointer (some ⟨w.heap.size,0,none⟩),.pointer (some ⟨w.heap.size+1,0,none⟩)]) (by simp) (by simp[go_sem]) ?_;refine hclo.mono ?_;rintro y u' w2 ⟨rfl,⟨v,rfl⟩,c2,c3,c4,X4,rfl,hx4⟩;simp[Leaves,settle,results,Try.results21,go_sem,c2,c3,c4]
 have hF:∀b,b < w.heap.size+1+1->u7 (cpW m w) (w.heap.size+1+1) b/\X2.g b=none:=fun b hlt=>by
  have hb:u7 (cpW m w) (w.heap.size+1+1) b:=⟨by rw[eX];omega,by omega⟩
  exact⟨hb,(hx2.frame b hb).2.trans (hx1.frame b hb).2⟩
 exact EN hs2 hi2 hl0 (hF _ (by omega)).1 (hF _ (by omega)).1 (hF _ (by omega)).2 (hF _ (by omega)).2 (fun b hb=>hF b (by omega)) (ZN _) (by omega) (by omega) (by omega) hx4 hb2
end Go.Proofs.Ytlhjbhgkhpbnfaa
