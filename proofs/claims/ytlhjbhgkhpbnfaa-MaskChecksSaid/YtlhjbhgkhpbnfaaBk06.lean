import Derived.Test.YtlhjbhgkhpbnfaaBk05
import Derived.Shelf.Strings.Builder1
import Derived.Shelf.Strings.Builder2
import Derived.WalkKit
import Derived.Lib.Hide
import Derived.BigCall
import Derived.Test.YtlhjbhgkhpbnfaaProg
import Derived.Recover
import Derived.Defers
import Derived.RegionTactic
import Derived.BigRegion
set_option linter.unusedSimpArgs false
set_option linter.unusedVariables false
namespace Go.Proofs.Ytlhjbhgkhpbnfaa
open Go.RowKit P
section
attribute [local irreducible] AS.nf OpV bj Stk lP LJ aE df Lo Ia Awp Rq QN So
set_option maxHeartbeats 2000000
set_option maxRecDepth 100000 in
theorem LI(n:Int)(l:List Int)(hl:l.length < 1000000):
  aE Try.prog 55 [.sl false 1 ((n::l).map fun x=>[.v (.int .i64 x)])] [] (fun out H=>∃ (k c:Nat) (vs:List Value),out=.ret (.v (.slice (some ⟨k,0,none⟩) (l.length+1) c))∧H=[(k,((n::l).map fun x=>[AV.v (.int .i64 x)]).flatten++vs.map AV.v)] ∧(l.length+1)+vs.length=c):=by
 have hone:∀r∈((n::l).map fun x=>[AV.v (.int .i64 x)]),r.length=1∧∀u∈r,u.one=true∧cA (some u)=none:=fun r hr=>by
  obtain⟨x,_,rfl⟩:=List.mem_map.1 hr
  exact⟨rfl,fun u hu=>by rw[List.mem_singleton.1 hu];exact⟨rfl,rfl⟩⟩
 have hln:((n::l).map fun x=>[AV.v (.int .i64 x)]).length=l.length+1:=by simp
 generalize hL:((n::l).map fun x=>[AV.v (.int .i64 x)])=L at hone hln ⊢
 have hne:L≠[] :=fun e=>by rw[e] at hln;simp at hln
 refine AG _ 8 [.tmp 2] Try.func55 (by kernel_rfl) rfl rfl rfl rfl ?_
 dsimp only[slotsOf]
 repeat (first| ((first|apply BZ);(next=>(first| (simp only[go_sem,Nat.reduceBEq,Nat.reduceEqDiff,reduceIte,reduceCtorEq,String.reduceEq,Nat.reduceAdd,Int.reduceToNat];exact rfl))))| (apply xj rfl rfl rfl rfl;(next=>(first| (refine sC (T:=TT) rfl ?_;(first|exact trivial))|fail)))| (refine arO _ ?_;first| (refine arO ⟨_,.move _,_,_,_,_⟩ ?_;first|refine xf rfl rfl rfl rfl ?_|fail)|fail)|refine wL ?_| (refine arE ?_;refine rS [0,2,4] rfl ?_)|refine mQ ?_|fail)
 refine lb rfl rfl (BF (.inl ⟨rfl,rfl⟩) (TT.tyOk 38 (.slice 3) rfl) rfl rfl rfl (fun b hb=> ?_))
 cases b with
 |true=>exact absurd (hb rfl) hne
 |false=>
  repeat (first
   | ((first|apply BZ);(next=>(first| (simp only[go_sem,Nat.reduceBEq,Nat.reduceEqDiff,reduceIte,reduceCtorEq,String.reduceEq,Nat.reduceAdd,Int.reduceToNat];exact rfl))))
   | (apply xj rfl rfl rfl rfl;(next=>exact w3 (T:=TT) rfl rfl))
   | (refine arO _ ?_;first| (refine arO ⟨_,.move _,_,_,_,_⟩ ?_;first|refine xf rfl rfl rfl rfl ?_|fail)|fail)
   |refine wL ?_
   | (refine arE ?_;refine rS [0,2,4] rfl ?_)
   |refine mQ ?_
   |refine Ap ?_
   | (refine arC (.cond _ _ _) ?_;first| (refine js rfl ?_ ?_;(next=>(first|rfl)))|fail)
   |fail)
  have hfl:L.flatten.length=L.length * 1:=sa (L:=L) fun q hq=>(hone q hq).1
  refine lb rfl rfl (wx (T:=TT) (sz:=1) (by_:=8) (N:=L.length) (us:=L.flatten) rfl rfl rfl (.inr ⟨_,rfl⟩) rfl (by decide) (fun F X a hs=> ?_) (by omega) (by omega) (fun u hu=> ?_) rfl ?_)
  ·exact Ft (P:=Try.prog) (by decide) (bT hs (u:=.sl false 1 L) rfl) (fun q hq u hu=>((hone q hq).2 u hu).1)
  ·obtain⟨r,h1,h2⟩:=List.mem_flatten.1 hu
   exact((hone r h1).2 u h2).2
  intro k' cap vs hk' h1 h2
  repeat (first| ((first|apply BZ|apply QD);(next=>(first| (simp only[go_sem,Nat.reduceBEq,Nat.reduceEqDiff,reduceIte,reduceCtorEq,String.reduceEq,Nat.reduceAdd,Int.reduceToNat];exact rfl))))| (apply xj rfl rfl rfl rfl;(next=>(first| (refine sC (T:=TT) rfl ?_;(first|exact trivial))|fail)))| (refine arE ?_;refine rS [0,2,4] rfl ?_)| (refine arC .ret ?_;refine NF [2] ?_)|refine NU ?_|fail)
  exact⟨_,rfl,k',cap,vs,by rw[hln],rfl,by rw[List.length_append,hfl,List.length_map] at h2;omega⟩
end
def ko(N:Nat)(l:List Int):Option (PR (Nat × List Int)):=match l with
 | [] =>none
 |n::r=>if r.length < 1000000 then some (.ok (r.length+1,n::r)) else none
def Cz(r:Nat × List Int):TV EE.T:=.a (.vec (.int .i64) 300000 r.1)
def Bf(r:Nat × List Int):List (Nat × TB EE.T):=[(300000,.vec 300000 (.int .i64) r.2)]
def oI(N:Nat)(us:List (TV EE.T))(hs:List (Nat × TB EE.T)):XR EE.T:=
 gdX (eT us 1) <| bnX (aD (.sl (.int .i64)) us 0) fun x0=>.mv (ko N x0) [] [] 1 Cz Bf
theorem ql(N:Nat):XOk Try.prog EE 55 (oI N):=fun us hs=>
 aJ fun h1=>ak fun x0 h2=>fun p hz ρ hi=>by
  unfold ko at hz
  split at hz
  ·cases hz
  ·rename_i n r
   split at hz
   ·rename_i hl
    cases hz
    refine K8 (us':=[.a (.d (.sl (.int .i64)) (n::r))]) (h0:=[]) (ids:=[]) (ρ':=ρ) ⟨ja h2,bU h1⟩ trivial (LI n r hl) ?_
    rintro out H ⟨k,c,vs,rfl,rfl,hc⟩
    have hlive:bb (di ρ 300000 ⟨k,false,vs⟩) (TB.vec 300000 (.int .i64) (n::r):TB EE.T)=true:=by simp[bb]
    refine⟨di ρ 300000 ⟨k,false,vs⟩,(fun i hi=>by cases hi),?_,?_,Inj.one⟩
    ·show AOut.ret _=AOut.ret (.v (vecV _ _ _))
     congr 2
     simp[vecV,di,csz]
     omega
    ·refine Eq.trans ?_ (dm (ρ:=di ρ 300000 ⟨k,false,vs⟩) (k:=300000) EE.toEnc [] hlive).symm
     have e1:(di ρ 300000 ⟨k,false,vs⟩) 300000=k:=by simp[Rn.b,di]
     have e2:(TB.vec 300000 (.int .i64) (n::r):TB EE.T).to EE.toEnc (di ρ 300000 ⟨k,false,vs⟩)=((n::r).map fun x=>[AV.v (.int .i64 x)]).flatten++vs.map AV.v:=by
      show _++ ((di ρ 300000 ⟨k,false,vs⟩).k 300000).sp.map AV.v=_
      rw[show(di ρ 300000 ⟨k,false,vs⟩).k 300000=⟨k,false,vs⟩ by simp[di]]
      rfl
     rw[e1,e2];rfl
   ·cases hz
set_option maxRecDepth 100000
abbrev bY:=Int × (List UInt8) × Int × Int × Nat × (List Vstep)
def ap(N:Nat)(x1:Vstep)(y0_0:List UInt8)(y0_1:Int)(y0_2:Int)(y0_3:Nat)(y1:List Vstep):Option (PR bY):=
 (oz 32 y0_3 y1 ([x1] :List Vstep)).bind fun z1=>
 some (.ok (w64 ((z1.length:Int) - 1),y0_0,y0_1,y0_2,z1.length,z1))
abbrev bN:=UInt8 × Bool × (List UInt8) × Int × Int × Nat × (List Vstep)
def aK(N:Nat)(y0_0:List UInt8)(y0_1:Int)(y0_2:Int)(y0_3:Nat)(y1:List Vstep):Option (PR bN):=
 bif decide (y0_1 < (y0_0.length:Int)) then
  (cg y0_0 y0_1).bind fun z1=>
  some (.ok (z1,true,y0_0,y0_1,y0_2,y0_3,y1))
 else
  some (.ok (0,false,y0_0,y0_1,y0_2,y0_3,y1))
abbrev bQ:=(List UInt8) × Int × Int × Nat × (List Vstep)
def aQ(N:Nat)(x1:Int)(x2:Int)(y0_0:List UInt8)(y0_1:Int)(y0_2:Int)(y0_3:Nat)(y1:List Vstep):Option (PR bQ):=
 some (.pan (Value.iface 28 (.agg #[.int .i64 x1,.int .i64 x2])))
abbrev gw:=Option (List Bool)
def gA(N:Nat)(x0:UInt8):Option gw:=
 (dg 256 (b2i x0)).bind fun z1=>
 (gW (List.replicate 256 false) (0+z1) true).bind fun z2=>
 (nR 256 z2).bind fun z3=>
 some (some z3)
abbrev bW:=Bool × (List UInt8) × Int × Int × Nat × (List Vstep)
def bc(N:Nat)(x1:UInt8)(y0_0:List UInt8)(y0_1:Int)(y0_2:Int)(y0_3:Nat)(y1:List Vstep):Option (PR bW):=
 (aK N y0_0 y0_1 y0_2 y0_3 y1).bind fun z1=>
 match z1 with
 |.pan vz1=>
  some (.pan vz1)
 |.ok z2=>
  bif z2.2.1 then
   bif (b2i z2.1)==(b2i x1) then
    some (.ok (true,z2.2.2.1,w64 (z2.2.2.2.1+1),z2.2.2.2.2.1,z2.2.2.2.2.2.1,z2.2.2.2.2.2.2))
   else
    some (.ok (false,z2.2.2.1,z2.2.2.2.1,z2.2.2.2.2.1,z2.2.2.2.2.2.1,z2.2.2.2.2.2.2))
  else
   some (.ok (false,z2.2.2.1,z2.2.2.2.1,z2.2.2.2.2.1,z2.2.2.2.2.2.1,z2.2.2.2.2.2.2))
def cB(N:Nat)(x0:List UInt8)(x1:UInt8):Option Int:=
 (nb N x0 x1).bind fun z1=>
 some z1
abbrev aZ:=UInt8 × (List UInt8) × Int × Int × Nat × (List Vstep)
def de(N:Nat)(n:Nat)(x3:UInt8)(Tf:List UInt8)(Td:Int)(Te:Int)(Tb:Nat)(Tg:List Vstep):Option (PR aZ):=
 (aQ N 1 Td Tf Td Te Tb Tg).bind fun z4=>
 match z4 with
 |.pan vz4=>
  some (.pan vz4)
 |.ok z5=>
  some (.ok (x3,z5.1,w64 (z5.2.1+1),z5.2.2.1,z5.2.2.2.1,z5.2.2.2.2))
def bJ(N:Nat)(y0_0:List UInt8)(y0_1:Int)(y0_2:Int)(y0_3:Nat)(y1:List Vstep):Option (PR aZ):=
 (aK N y0_0 y0_1 y0_2 y0_3 y1).bind fun z1=>
 match z1 with
 |.pan vz1=>
  some (.pan vz1)
 |.ok z2=>
  bif !z2.2.1 then
   de N N z2.1 z2.2.2.1 z2.2.2.2.1 z2.2.2.2.2.1 z2.2.2.2.2.2.1 z2.2.2.2.2.2.2
  else
   (cB N ([91,93,92,94,45] :List UInt8) z2.1).bind fun z3=>
   bif decide (z3≥0) then
    de N N z2.1 z2.2.2.1 z2.2.2.2.1 z2.2.2.2.2.1 z2.2.2.2.2.2.1 z2.2.2.2.2.2.2
   else
    some (.ok (z2.1,z2.2.2.1,w64 (z2.2.2.2.1+1),z2.2.2.2.2.1,z2.2.2.2.2.2.1,z2.2.2.2.2.2.2))
abbrev aj:=(Option (List Bool)) × (List UInt8) × Int × Int × Nat × (List Vstep)
def bv(N:Nat)(k4:Bool→Bool→(List Bool)→(List UInt8)→Int→Int→Nat→(List Vstep)→Option (PR aj)):Nat→Bool→UInt8→Int→(List Bool)→(List UInt8)→Int→Int→Nat→(List Vstep)→Option (PR aj)
 |0,_,_,_,_,_,_,_,_,_=>none
 |n+1,x3,x7,x9,b4,Tf,Td,Te,Tb,Tg=>
  bif decide (x9≤(w64 (b2i x7))) then
   (dg 256 x9).bind fun z18=>
   (gW b4 (0+z18) true).bind fun z19=>
   bv N k4 n x3 x7 (w64 (x9+1)) z19 Tf Td Te Tb Tg
  else
   k4 x3 false b4 Tf Td Te Tb Tg
def cr(N:Nat)(k4:Bool→Bool→(List Bool)→(List UInt8)→Int→Int→Nat→(List Vstep)→Option (PR aj))(n:Nat)(x3:Bool)(x6:UInt8)(x7:UInt8)(b4:List Bool)(Tf:List UInt8)(Td:Int)(Te:Int)(Tb:Nat)(Tg:List Vstep):Option (PR aj):=
 bv N k4 n x3 x7 (w64 (b2i x6)) b4 Tf Td Te Tb Tg
def cy(N:Nat)(k4:Bool→Bool→(List Bool)→(List UInt8)→Int→Int→Nat→(List Vstep)→Option (PR aj))(n:Nat)(x3:Bool)(b4:List Bool)(Tf:List UInt8)(Td:Int)(Te:Int)(Tb:Nat)(Tg:List Vstep):Option (PR aj):=
 (bJ N Tf Td Te Tb Tg).bind fun z5=>
 match z5 with
 |.pan vz5=>
  some (.pan vz5)
 |.ok z6=>
  (bc N 45 z6.2.1 z6.2.2.1 z6.2.2.2.1 z6.2.2.2.2.1 z6.2.2.2.2.2).bind fun z7=>
  match z7 with
  |.pan vz7=>
   some (.pan vz7)
  |.ok z8=>
   bif z8.1 then
    (bJ N z8.2.1 z8.2.2.1 z8.2.2.2.1 z8.2.2.2.2.1 z8.2.2.2.2.2).bind fun z9=>
    match z9 with
    |.pan vz9=>
     some (.pan vz9)
    |.ok z10=>
     bif decide ((b2i z10.1) < (b2i z6.1)) then
      (aQ N 3 z8.2.2.1 z10.2.1 z10.2.2.1 z10.2.2.2.1 z10.2.2.2.2.1 z10.2.2.2.2.2).bind fun z11=>
      match z11 with
      |.pan vz11=>
       some (.pan vz11)
      |.ok z12=>
       cr N k4 n x3 z6.1 z10.1 b4 z12.1 z12.2.1 z12.2.2.1 z12.2.2.2.1 z12.2.2.2.2
     else
      cr N k4 n x3 z6.1 z10.1 b4 z10.2.1 z10.2.2.1 z10.2.2.2.1 z10.2.2.2.2.1 z10.2.2.2.2.2
   else
    cr N k4 n x3 z6.1 z6.1 b4 z8.2.1 z8.2.2.1 z8.2.2.2.1 z8.2.2.2.2.1 z8.2.2.2.2.2
def bH(N:Nat):Nat→Bool→Int→(List Bool)→(List UInt8)→Int→Int→Nat→(List Vstep)→Option (PR aj)
 |0,_,_,_,_,_,_,_,_=>none
 |n+1,x3,x46,b4,Tf,Td,Te,Tb,Tg=>
  bif decide (x46 < 256) then
   (dg 256 x46).bind fun z13=>
   (b4[0+z13]?).bind fun z14=>
   (dg 256 x46).bind fun z15=>
   (gW b4 (0+z15) (!(z14==x3))).bind fun z16=>
   bH N n x3 (w64 (x46+1)) z16 Tf Td Te Tb Tg
  else
   (nR 256 b4).bind fun z17=>
   some (.ok ((some z17),Tf,Td,Te,Tb,Tg))
def br(N:Nat):Nat→Bool→Bool→(List Bool)→(List UInt8)→Int→Int→Nat→(List Vstep)→Option (PR aj)
 |0,_,_,_,_,_,_,_,_=>none
 |n+1,x3,x5,b4,Tf,Td,Te,Tb,Tg=>
  bif x5 then
   cy N (br N n) n x3 b4 Tf Td Te Tb Tg
  else
   (bc N 93 Tf Td Te Tb Tg).bind fun z3=>
   match z3 with
   |.pan vz3=>
    some (.pan vz3)
   |.ok z4=>
    bif !z4.1 then
     cy N (br N n) n x3 b4 z4.2.1 z4.2.2.1 z4.2.2.2.1 z4.2.2.2.2.1 z4.2.2.2.2.2
    else
     bH N n x3 0 b4 z4.2.1 z4.2.2.1 z4.2.2.2.1 z4.2.2.2.2.1 z4.2.2.2.2.2
def cW(N:Nat)(y0_0:List UInt8)(y0_1:Int)(y0_2:Int)(y0_3:Nat)(y1:List Vstep):Option (PR aj):=
 (bc N 94 y0_0 y0_1 y0_2 y0_3 y1).bind fun z1=>
 match z1 with
 |.pan vz1=>
  some (.pan vz1)
 |.ok z2=>
  br N N z2.1 true (List.replicate 256 false) z2.2.1 z2.2.2.1 z2.2.2.2.1 z2.2.2.2.2.1 z2.2.2.2.2.2
abbrev aL:=(List Vstep) × (List Vstep)
def bx(N:Nat)(x0_o:Nat)(x0_n:Nat)(y0:List Vstep):Option (PR aL):=
 (Cv x0_o x0_n y0).bind fun z1=>
 (g9 32 ([] :List Vstep) z1).bind fun z2=>
 some (.ok (z2,y0))
abbrev bX:=(List Vstep) × (List UInt8) × Int × Int × Nat × (List Vstep)
def ca(N:Nat)(x1:Int)(y0_0:List UInt8)(y0_1:Int)(y0_2:Int)(y0_3:Nat)(y1:List Vstep):Option (PR bX):=
 (Bo y0_3 x1 (y0_3:Int)).bind fun z1=>
 (bx N z1.1 (y0_3 - z1.1) y1).bind fun z2=>
 match z2 with
 |.pan vz2=>
  some (.pan vz2)
 |.ok z3=>
  (Ex y0_3 z3.2 x1).bind fun z4=>
  some (.ok (z3.1,y0_0,y0_1,y0_2,z4.length,z4))
abbrev aC:=(List UInt8) × Int × Int × Nat × (List Vstep)
def bP(N:Nat)(k2:Int→(List Vstep)→Int→Int→(List UInt8)→Int→Int→Nat→(List Vstep)→Option (PR aC))(n:Nat)(x6:Int)(x16:List Vstep)(x17:Int)(x18:Int)(b8:Vstep)(Tf:List UInt8)(Td:Int)(Te:Int)(Tb:Nat)(Tg:List Vstep):Option (PR aC):=
 (ap N b8 Tf Td Te Tb Tg).bind fun z2=>
 match z2 with
 |.pan vz2=>
  some (.pan vz2)
 |.ok z3=>
  k2 x6 x16 x17 (w64 (x18+1)) z3.2.1 z3.2.2.1 z3.2.2.2.1 z3.2.2.2.2.1 z3.2.2.2.2.2
def ba(N:Nat):Nat→Int→(List Vstep)→Int→Int→(List UInt8)→Int→Int→Nat→(List Vstep)→Option (PR aC)
 |0,_,_,_,_,_,_,_,_,_=>none
 |n+1,x6,x16,x17,x18,Tf,Td,Te,Tb,Tg=>
  bif decide (x18 < x17) then
   (cg x16 x18).bind fun z1=>
   bif z1.kind==1 then
    bP N (ba N n) n x6 x16 x17 x18 ({ kind:=z1.kind,a:=w64 (z1.a+x6),b:=w64 (z1.b+x6),set_:=z1.set_ }:Vstep) Tf Td Te Tb Tg
   else
    bif z1.kind==2 then
     bP N (ba N n) n x6 x16 x17 x18 ({ kind:=z1.kind,a:=w64 (z1.a+x6),b:=z1.b,set_:=z1.set_ }:Vstep) Tf Td Te Tb Tg
    else
     bP N (ba N n) n x6 x16 x17 x18 z1 Tf Td Te Tb Tg
  else
   some (.ok (Tf,Td,Te,Tb,Tg))
def bi(N:Nat)(x1:List Vstep)(x2:Int)(y0_0:List UInt8)(y0_1:Int)(y0_2:Int)(y0_3:Nat)(y1:List Vstep):Option (PR aC):=
 ba N N (w64 ((y0_3:Int) - x2)) x1 (x1.length:Int) 0 y0_0 y0_1 y0_2 y0_3 y1
structure RecC where
 n:Nat
 k:(List UInt8)→Int→Int→Nat→(List Vstep)→Option (PR (Bool × (List UInt8) × Int × Int × Nat × (List Vstep)))
def dC(N:RecC)(y0_0:List UInt8)(y0_1:Int)(y0_2:Int)(y0_3:Nat)(y1:List Vstep):Option (PR (Bool × (List UInt8) × Int × Int × Nat × (List Vstep))):=N.k y0_0 y0_1 y0_2 y0_3 y1
abbrev am:=Bool × (List UInt8) × Int × Int × Nat × (List Vstep)
def cj(N:RecC):Nat→Int→(List Bool)→(List UInt8)→Int→Int→Nat→(List Vstep)→Option (PR am)
 |0,_,_,_,_,_,_,_=>none
 |n+1,x51,b4,Tf,Td,Te,Tb,Tg=>
  bif decide (x51 < 256) then
   (dg 256 x51).bind fun z13=>
   (gW b4 (0+z13) true).bind fun z14=>
   cj N n (w64 (x51+1)) z14 Tf Td Te Tb Tg
  else
   (nR 256 b4).bind fun z15=>
   (ap N.n ({ kind:=0,a:=0,b:=0,set_:=(some z15) }:Vstep) Tf Td Te Tb Tg).bind fun z16=>
   match z16 with
   |.pan vz16=>
    some (.pan vz16)
   |.ok z17=>
    some (.ok (false,z17.2.1,z17.2.2.1,z17.2.2.2.1,z17.2.2.2.2.1,z17.2.2.2.2.2))
def cC(N:RecC)(n:Nat)(x6:UInt8)(Tf:List UInt8)(Td:Int)(Te:Int)(Tb:Nat)(Tg:List Vstep):Option (PR am):=
 (aQ N.n 1 Td Tf Td Te Tb Tg).bind fun z34=>
 match z34 with
 |.pan vz34=>
  some (.pan vz34)
 |.ok z35=>
  (gA N.n x6).bind fun z36=>
  (ap N.n ({ kind:=0,a:=0,b:=0,set_:=z36 }:Vstep) z35.1 (w64 (z35.2.1+1)) z35.2.2.1 z35.2.2.2.1 z35.2.2.2.2).bind fun z37=>
  match z37 with
  |.pan vz37=>
   some (.pan vz37)
  |.ok z38=>
   some (.ok (false,z38.2.1,z38.2.2.1,z38.2.2.2.1,z38.2.2.2.2.1,z38.2.2.2.2.2))
def aq(N:RecC)(n:Nat)(x6:UInt8)(x7:Bool)(x8:Bool)(Tf:List UInt8)(Td:Int)(Te:Int)(Tb:Nat)(Tg:List Vstep):Option (PR am):=
 bif !x7 then
  cC N n x6 Tf Td Te Tb Tg
 else
  bif x8 then
   cC N n x6 Tf Td Te Tb Tg
  else
   (gA N.n x6).bind fun z18=>
   (ap N.n ({ kind:=0,a:=0,b:=0,set_:=z18 }:Vstep) Tf (w64 (Td+1)) Te Tb Tg).bind fun z19=>
   match z19 with
   |.pan vz19=>
    some (.pan vz19)
   |.ok z20=>
    some (.ok (false,z20.2.1,z20.2.2.1,z20.2.2.2.1,z20.2.2.2.2.1,z20.2.2.2.2.2))
def cE(N:RecC)(n:Nat)(Tf:List UInt8)(Td:Int)(Te:Int)(Tb:Nat)(Tg:List Vstep):Option (PR am):=
 (ap N.n ({ kind:=3,a:=w64 (2 * (w64 (Te+1))),b:=0,set_:=(none:Option (List Bool)) }:Vstep) Tf (w64 (Td+1)) (w64 (Te+1)) Tb Tg).bind fun z21=>
 match z21 with
 |.pan vz21=>
  some (.pan vz21)
 |.ok z22=>
  (dC N z22.2.1 z22.2.2.1 z22.2.2.2.1 z22.2.2.2.2.1 z22.2.2.2.2.2).bind fun z23=>
  match z23 with
  |.pan vz23=>
   some (.pan vz23)
  |.ok z24=>
   (ap N.n ({ kind:=3,a:=w64 ((w64 (2 * (w64 (Te+1))))+1),b:=0,set_:=(none:Option (List Bool)) }:Vstep) z24.2.1 z24.2.2.1 z24.2.2.2.1 z24.2.2.2.2.1 z24.2.2.2.2.2).bind fun z25=>
   match z25 with
   |.pan vz25=>
    some (.pan vz25)
   |.ok z26=>
    (bc N.n 41 z26.2.1 z26.2.2.1 z26.2.2.2.1 z26.2.2.2.2.1 z26.2.2.2.2.2).bind fun z27=>
    match z27 with
    |.pan vz27=>
     some (.pan vz27)
    |.ok z28=>
     bif !z28.1 then
      (aQ N.n 1 z28.2.2.1 z28.2.1 z28.2.2.1 z28.2.2.2.1 z28.2.2.2.2.1 z28.2.2.2.2.2).bind fun z29=>
      match z29 with
      |.pan vz29=>
       some (.pan vz29)
      |.ok z30=>
       some (.ok (z24.1,z30.1,z30.2.1,z30.2.2.1,z30.2.2.2.1,z30.2.2.2.2))
     else
      some (.ok (z24.1,z28.2.1,z28.2.2.1,z28.2.2.2.1,z28.2.2.2.2.1,z28.2.2.2.2.2))
def cL(N:RecC)(n:Nat)(x3:UInt8)(Tf:List UInt8)(Td:Int)(Te:Int)(Tb:Nat)(Tg:List Vstep):Option (PR am):=
 (gA N.n x3).bind fun z31=>
 (ap N.n ({ kind:=0,a:=0,b:=0,set_:=z31 }:Vstep) Tf (w64 (Td+1)) Te Tb Tg).bind fun z32=>
 match z32 with
 |.pan vz32=>
  some (.pan vz32)
 |.ok z33=>
  some (.ok (false,z33.2.1,z33.2.2.1,z33.2.2.2.1,z33.2.2.2.2.1,z33.2.2.2.2.2))
def bz(N:RecC)(y0_0:List UInt8)(y0_1:Int)(y0_2:Int)(y0_3:Nat)(y1:List Vstep):Option (PR am):=
 (cg y0_0 y0_1).bind fun z1=>
 bif (b2i z1)==(b2i 46) then
  cj N N.n 0 (List.replicate 256 false) y0_0 (w64 (y0_1+1)) y0_2 y0_3 y1
 else
  bif (b2i z1)==(b2i 92) then
   (aK N.n y0_0 (w64 (y0_1+1)) y0_2 y0_3 y1).bind fun z2=>
   match z2 with
   |.pan vz2=>
    some (.pan vz2)
   |.ok z3=>
    bif decide ((b2i z3.1)≥(b2i 97)) then
     bif decide ((b2i z3.1)≤(b2i 122)) then
      aq N N.n z3.1 z3.2.1 true z3.2.2.1 z3.2.2.2.1 z3.2.2.2.2.1 z3.2.2.2.2.2.1 z3.2.2.2.2.2.2
     else
      bif decide ((b2i z3.1)≥(b2i 65)) then
       bif decide ((b2i z3.1)≤(b2i 90)) then
        aq N N.n z3.1 z3.2.1 true z3.2.2.1 z3.2.2.2.1 z3.2.2.2.2.1 z3.2.2.2.2.2.1 z3.2.2.2.2.2.2
       else
        bif decide ((b2i z3.1)≥(b2i 48)) then
         aq N N.n z3.1 z3.2.1 (decide ((b2i z3.1)≤(b2i 57))) z3.2.2.1 z3.2.2.2.1 z3.2.2.2.2.1 z3.2.2.2.2.2.1 z3.2.2.2.2.2.2
        else
         aq N N.n z3.1 z3.2.1 false z3.2.2.1 z3.2.2.2.1 z3.2.2.2.2.1 z3.2.2.2.2.2.1 z3.2.2.2.2.2.2
      else
       bif decide ((b2i z3.1)≥(b2i 48)) then
        aq N N.n z3.1 z3.2.1 (decide ((b2i z3.1)≤(b2i 57))) z3.2.2.1 z3.2.2.2.1 z3.2.2.2.2.1 z3.2.2.2.2.2.1 z3.2.2.2.2.2.2
       else
        aq N N.n z3.1 z3.2.1 false z3.2.2.1 z3.2.2.2.1 z3.2.2.2.2.1 z3.2.2.2.2.2.1 z3.2.2.2.2.2.2
    else
     bif decide ((b2i z3.1)≥(b2i 65)) then
      bif decide ((b2i z3.1)≤(b2i 90)) then
       aq N N.n z3.1 z3.2.1 true z3.2.2.1 z3.2.2.2.1 z3.2.2.2.2.1 z3.2.2.2.2.2.1 z3.2.2.2.2.2.2
      else
       bif decide ((b2i z3.1)≥(b2i 48)) then
        aq N N.n z3.1 z3.2.1 (decide ((b2i z3.1)≤(b2i 57))) z3.2.2.1 z3.2.2.2.1 z3.2.2.2.2.1 z3.2.2.2.2.2.1 z3.2.2.2.2.2.2
       else
        aq N N.n z3.1 z3.2.1 false z3.2.2.1 z3.2.2.2.1 z3.2.2.2.2.1 z3.2.2.2.2.2.1 z3.2.2.2.2.2.2
     else
      bif decide ((b2i z3.1)≥(b2i 48)) then
       aq N N.n z3.1 z3.2.1 (decide ((b2i z3.1)≤(b2i 57))) z3.2.2.1 z3.2.2.2.1 z3.2.2.2.2.1 z3.2.2.2.2.2.1 z3.2.2.2.2.2.2
      else
       aq N N.n z3.1 z3.2.1 false z3.2.2.1 z3.2.2.2.1 z3.2.2.2.2.1 z3.2.2.2.2.2.1 z3.2.2.2.2.2.2
  else
   bif (b2i z1)==(b2i 91) then
    (cW N.n y0_0 (w64 (y0_1+1)) y0_2 y0_3 y1).bind fun z4=>
    match z4 with
    |.pan vz4=>
     some (.pan vz4)
    |.ok z5=>
     (ap N.n ({ kind:=0,a:=0,b:=0,set_:=z5.1 }:Vstep) z5.2.1 z5.2.2.1 z5.2.2.2.1 z5.2.2.2.2.1 z5.2.2.2.2.2).bind fun z6=>
     match z6 with
     |.pan vz6=>
      some (.pan vz6)
     |.ok z7=>
      some (.ok (false,z7.2.1,z7.2.2.1,z7.2.2.2.1,z7.2.2.2.2.1,z7.2.2.2.2.2))
   else
    bif (b2i z1)==(b2i 40) then
     bif y0_2==9 then
      (aQ N.n 2 y0_1 y0_0 y0_1 y0_2 y0_3 y1).bind fun z8=>
      match z8 with
      |.pan vz8=>
       some (.pan vz8)
      |.ok z9=>
       cE N N.n z9.1 z9.2.1 z9.2.2.1 z9.2.2.2.1 z9.2.2.2.2
     else
      cE N N.n y0_0 y0_1 y0_2 y0_3 y1
    else
     (cB N.n ([42,43,63,41,124,93] :List UInt8) z1).bind fun z10=>
     bif decide (z10≥0) then
      (aQ N.n 1 y0_1 y0_0 y0_1 y0_2 y0_3 y1).bind fun z11=>
      match z11 with
      |.pan vz11=>
       some (.pan vz11)
      |.ok z12=>
       cL N N.n z1 z12.1 z12.2.1 z12.2.2.1 z12.2.2.2.1 z12.2.2.2.2
     else
      cL N N.n z1 y0_0 y0_1 y0_2 y0_3 y1
abbrev az:=Bool × (List UInt8) × Int × Int × Nat × (List Vstep)
def bg(N:RecC)(n:Nat)(x3:Int)(x6:UInt8)(Tf:List UInt8)(Td:Int)(Te:Int)(Tb:Nat)(Tg:List Vstep):Option (PR az):=
 (ca N.n x3 Tf (w64 (Td+1)) Te Tb Tg).bind fun z8=>
 match z8 with
 |.pan vz8=>
  some (.pan vz8)
 |.ok z9=>
  bif (b2i x6)==(b2i 42) then
   (ap N.n ({ kind:=1,a:=0,b:=0,set_:=(none:Option (List Bool)) }:Vstep) z9.2.1 z9.2.2.1 z9.2.2.2.1 z9.2.2.2.2.1 z9.2.2.2.2.2).bind fun z10=>
   match z10 with
   |.pan vz10=>
    some (.pan vz10)
   |.ok z11=>
    (dg z11.2.2.2.2.1 z11.1).bind fun z12=>
    (z11.2.2.2.2.2[z12]?).bind fun z13=>
    (bi N.n z9.1 x3 z11.2.1 z11.2.2.1 z11.2.2.2.1 z11.2.2.2.2.1 (List.set z11.2.2.2.2.2 z12 ({ kind:=z13.kind,a:=(z11.2.2.2.2.1:Int),b:=z13.b,set_:=z13.set_ }:Vstep))).bind fun z14=>
    match z14 with
    |.pan vz14=>
     some (.pan vz14)
    |.ok z15=>
     (ap N.n ({ kind:=2,a:=z11.1,b:=0,set_:=(none:Option (List Bool)) }:Vstep) z15.1 z15.2.1 z15.2.2.1 z15.2.2.2.1 z15.2.2.2.2).bind fun z16=>
     match z16 with
     |.pan vz16=>
      some (.pan vz16)
     |.ok z17=>
      (dg z17.2.2.2.2.1 z11.1).bind fun z18=>
      (z17.2.2.2.2.2[z18]?).bind fun z19=>
      some (.ok (true,z17.2.1,z17.2.2.1,z17.2.2.2.1,z17.2.2.2.2.1,List.set z17.2.2.2.2.2 z18 ({ kind:=z19.kind,a:=z19.a,b:=(z17.2.2.2.2.1:Int),set_:=z19.set_ }:Vstep)))
  else
   bif (b2i x6)==(b2i 43) then
    (bi N.n z9.1 x3 z9.2.1 z9.2.2.1 z9.2.2.2.1 z9.2.2.2.2.1 z9.2.2.2.2.2).bind fun z20=>
    match z20 with
    |.pan vz20=>
     some (.pan vz20)
    |.ok z21=>
     (ap N.n ({ kind:=1,a:=x3,b:=0,set_:=(none:Option (List Bool)) }:Vstep) z21.1 z21.2.1 z21.2.2.1 z21.2.2.2.1 z21.2.2.2.2).bind fun z22=>
     match z22 with
     |.pan vz22=>
      some (.pan vz22)
     |.ok z23=>
      (dg z23.2.2.2.2.1 z23.1).bind fun z24=>
      (z23.2.2.2.2.2[z24]?).bind fun z25=>
      some (.ok (false,z23.2.1,z23.2.2.1,z23.2.2.2.1,z23.2.2.2.2.1,List.set z23.2.2.2.2.2 z24 ({ kind:=z25.kind,a:=z25.a,b:=(z23.2.2.2.2.1:Int),set_:=z25.set_ }:Vstep)))
   else
    (ap N.n ({ kind:=1,a:=0,b:=0,set_:=(none:Option (List Bool)) }:Vstep) z9.2.1 z9.2.2.1 z9.2.2.2.1 z9.2.2.2.2.1 z9.2.2.2.2.2).bind fun z26=>
    match z26 with
    |.pan vz26=>
     some (.pan vz26)
    |.ok z27=>
     (dg z27.2.2.2.2.1 z27.1).bind fun z28=>
     (z27.2.2.2.2.2[z28]?).bind fun z29=>
     (bi N.n z9.1 x3 z27.2.1 z27.2.2.1 z27.2.2.2.1 z27.2.2.2.2.1 (List.set z27.2.2.2.2.2 z28 ({ kind:=z29.kind,a:=(z27.2.2.2.2.1:Int),b:=z29.b,set_:=z29.set_ }:Vstep))).bind fun z30=>
     match z30 with
     |.pan vz30=>
      some (.pan vz30)
     |.ok z31=>
      (dg z31.2.2.2.1 z27.1).bind fun z32=>
      (z31.2.2.2.2[z32]?).bind fun z33=>
      some (.ok (true,z31.1,z31.2.1,z31.2.2.1,z31.2.2.2.1,List.set z31.2.2.2.2 z32 ({ kind:=z33.kind,a:=z33.a,b:=(z31.2.2.2.1:Int),set_:=z33.set_ }:Vstep)))
def a7(N:RecC)(n:Nat)(x3:Int)(x4:Bool)(x5:Bool)(x6:UInt8)(Tf:List UInt8)(Td:Int)(Te:Int)(Tb:Nat)(Tg:List Vstep):Option (PR az):=
 bif x5 then
  bif x4 then
   bif (b2i x6) != (b2i 63) then
    (aQ N.n 4 Td Tf Td Te Tb Tg).bind fun z6=>
    match z6 with
    |.pan vz6=>
     some (.pan vz6)
    |.ok z7=>
     bg N n x3 x6 z7.1 z7.2.1 z7.2.2.1 z7.2.2.2.1 z7.2.2.2.2
   else
    bg N n x3 x6 Tf Td Te Tb Tg
  else
   bg N n x3 x6 Tf Td Te Tb Tg
 else
  bg N n x3 x6 Tf Td Te Tb Tg
def cH(N:RecC)(y0_0:List UInt8)(y0_1:Int)(y0_2:Int)(y0_3:Nat)(y1:List Vstep):Option (PR az):=
 (cg y0_0 y0_1).bind fun z1=>
 (bz N y0_0 y0_1 y0_2 y0_3 y1).bind fun z2=>
 match z2 with
 |.pan vz2=>
  some (.pan vz2)
 |.ok z3=>
  (aK N.n z3.2.1 z3.2.2.1 z3.2.2.2.1 z3.2.2.2.2.1 z3.2.2.2.2.2).bind fun z4=>
  match z4 with
  |.pan vz4=>
   some (.pan vz4)
  |.ok z5=>
   bif !z5.2.1 then
    some (.ok (z3.1,z5.2.2.1,z5.2.2.2.1,z5.2.2.2.2.1,z5.2.2.2.2.2.1,z5.2.2.2.2.2.2))
   else
    bif (b2i z5.1) != (b2i 42) then
     bif (b2i z5.1) != (b2i 43) then
      bif (b2i z5.1) != (b2i 63) then
       some (.ok (z3.1,z5.2.2.1,z5.2.2.2.1,z5.2.2.2.2.1,z5.2.2.2.2.2.1,z5.2.2.2.2.2.2))
      else
       a7 N N.n (y0_3:Int) ((b2i z1)==(b2i 40)) z3.1 z5.1 z5.2.2.1 z5.2.2.2.1 z5.2.2.2.2.1 z5.2.2.2.2.2.1 z5.2.2.2.2.2.2
     else
      a7 N N.n (y0_3:Int) ((b2i z1)==(b2i 40)) z3.1 z5.1 z5.2.2.1 z5.2.2.2.1 z5.2.2.2.2.1 z5.2.2.2.2.2.1 z5.2.2.2.2.2.2
    else
     a7 N N.n (y0_3:Int) ((b2i z1)==(b2i 40)) z3.1 z5.1 z5.2.2.1 z5.2.2.2.1 z5.2.2.2.2.1 z5.2.2.2.2.2.1 z5.2.2.2.2.2.2
abbrev be:=Bool × (List UInt8) × Int × Int × Nat × (List Vstep)
def bq(N:RecC):Nat→Bool→(List UInt8)→Int→Int→Nat→(List Vstep)→Option (PR be)
 |0,_,_,_,_,_,_=>none
 |n+1,x3,Tf,Td,Te,Tb,Tg=>
  (aK N.n Tf Td Te Tb Tg).bind fun z1=>
  match z1 with
  |.pan vz1=>
   some (.pan vz1)
  |.ok z2=>
   bif !z2.2.1 then
    some (.ok (x3,z2.2.2.1,z2.2.2.2.1,z2.2.2.2.2.1,z2.2.2.2.2.2.1,z2.2.2.2.2.2.2))
   else
    bif (b2i z2.1)==(b2i 124) then
     some (.ok (x3,z2.2.2.1,z2.2.2.2.1,z2.2.2.2.2.1,z2.2.2.2.2.2.1,z2.2.2.2.2.2.2))
    else
     bif (b2i z2.1)==(b2i 41) then
      some (.ok (x3,z2.2.2.1,z2.2.2.2.1,z2.2.2.2.2.1,z2.2.2.2.2.2.1,z2.2.2.2.2.2.2))
     else
      (cH N z2.2.2.1 z2.2.2.2.1 z2.2.2.2.2.1 z2.2.2.2.2.2.1 z2.2.2.2.2.2.2).bind fun z3=>
      match z3 with
      |.pan vz3=>
       some (.pan vz3)
      |.ok z4=>
       bif !z4.1 then
        bq N n false z4.2.1 z4.2.2.1 z4.2.2.2.1 z4.2.2.2.2.1 z4.2.2.2.2.2
       else
        bq N n x3 z4.2.1 z4.2.2.1 z4.2.2.2.1 z4.2.2.2.2.1 z4.2.2.2.2.2
def dw(N:RecC)(y0_0:List UInt8)(y0_1:Int)(y0_2:Int)(y0_3:Nat)(y1:List Vstep):Option (PR be):=
 bq N N.n true y0_0 y0_1 y0_2 y0_3 y1
abbrev bO:=Bool × (List UInt8) × Int × Int × Nat × (List Vstep)
def dl(N:RecC)(y0_0:List UInt8)(y0_1:Int)(y0_2:Int)(y0_3:Nat)(y1:List Vstep):Option (PR bO):=
 (dC N y0_0 y0_1 y0_2 y0_3 y1).bind fun z1=>
 match z1 with
 |.pan vz1=>
  some (.pan vz1)
 |.ok z2=>
  some (.ok (z2.1,z2.2.1,z2.2.2.1,z2.2.2.2.1,z2.2.2.2.2.1,z2.2.2.2.2.2))
abbrev aw:=Bool × (List UInt8) × Int × Int × Nat × (List Vstep)
def ci(N:RecC)(k3:Int→Bool→(List UInt8)→Int→Int→Nat→(List Vstep)→Option (PR aw))(n:Nat)(x4:Bool)(x7:Int)(Tf:List UInt8)(Td:Int)(Te:Int)(Tb:Nat)(Tg:List Vstep):Option (PR aw):=
 (dg Tb x7).bind fun z19=>
 (Tg[z19]?).bind fun z20=>
 some (.ok (x4,Tf,Td,Te,Tb,List.set Tg z19 ({ kind:=z20.kind,a:=(Tb:Int),b:=z20.b,set_:=z20.set_ }:Vstep)))
def bd(N:RecC):Nat→Int→Bool→(List UInt8)→Int→Int→Nat→(List Vstep)→Option (PR aw)
 |0,_,_,_,_,_,_,_=>none
 |n+1,x3,x4,Tf,Td,Te,Tb,Tg=>
  (bc N.n 124 Tf Td Te Tb Tg).bind fun z3=>
  match z3 with
  |.pan vz3=>
   some (.pan vz3)
  |.ok z4=>
   bif z4.1 then
    (ca N.n x3 z4.2.1 z4.2.2.1 z4.2.2.2.1 z4.2.2.2.2.1 z4.2.2.2.2.2).bind fun z5=>
    match z5 with
    |.pan vz5=>
     some (.pan vz5)
    |.ok z6=>
     (ap N.n ({ kind:=1,a:=0,b:=0,set_:=(none:Option (List Bool)) }:Vstep) z6.2.1 z6.2.2.1 z6.2.2.2.1 z6.2.2.2.2.1 z6.2.2.2.2.2).bind fun z7=>
     match z7 with
     |.pan vz7=>
      some (.pan vz7)
     |.ok z8=>
      (dg z8.2.2.2.2.1 z8.1).bind fun z9=>
      (z8.2.2.2.2.2[z9]?).bind fun z10=>
      (bi N.n z6.1 x3 z8.2.1 z8.2.2.1 z8.2.2.2.1 z8.2.2.2.2.1 (List.set z8.2.2.2.2.2 z9 ({ kind:=z10.kind,a:=(z8.2.2.2.2.1:Int),b:=z10.b,set_:=z10.set_ }:Vstep))).bind fun z11=>
      match z11 with
      |.pan vz11=>
       some (.pan vz11)
      |.ok z12=>
       (ap N.n ({ kind:=2,a:=0,b:=0,set_:=(none:Option (List Bool)) }:Vstep) z12.1 z12.2.1 z12.2.2.1 z12.2.2.2.1 z12.2.2.2.2).bind fun z13=>
       match z13 with
       |.pan vz13=>
        some (.pan vz13)
       |.ok z14=>
        (dg z14.2.2.2.2.1 z8.1).bind fun z15=>
        (z14.2.2.2.2.2[z15]?).bind fun z16=>
        (dl N z14.2.1 z14.2.2.1 z14.2.2.2.1 z14.2.2.2.2.1 (List.set z14.2.2.2.2.2 z15 ({ kind:=z16.kind,a:=z16.a,b:=(z14.2.2.2.2.1:Int),set_:=z16.set_ }:Vstep))).bind fun z17=>
        match z17 with
        |.pan vz17=>
         some (.pan vz17)
        |.ok z18=>
         bif z18.1 then
          ci N (bd N n) n true z14.1 z18.2.1 z18.2.2.1 z18.2.2.2.1 z18.2.2.2.2.1 z18.2.2.2.2.2
         else
          ci N (bd N n) n x4 z14.1 z18.2.1 z18.2.2.1 z18.2.2.2.1 z18.2.2.2.2.1 z18.2.2.2.2.2
   else
    some (.ok (x4,z4.2.1,z4.2.2.1,z4.2.2.2.1,z4.2.2.2.2.1,z4.2.2.2.2.2))
def cP(N:RecC)(y0_0:List UInt8)(y0_1:Int)(y0_2:Int)(y0_3:Nat)(y1:List Vstep):Option (PR aw):=
 (dw N y0_0 y0_1 y0_2 y0_3 y1).bind fun z1=>
 match z1 with
 |.pan vz1=>
  some (.pan vz1)
 |.ok z2=>
  bd N N.n (y0_3:Int) z2.1 z2.2.1 z2.2.2.1 z2.2.2.2.1 z2.2.2.2.2.1 z2.2.2.2.2.2
def bh(n0:Nat):Nat→(List UInt8)→Int→Int→Nat→(List Vstep)→Option (PR (Bool × (List UInt8) × Int × Int × Nat × (List Vstep)))
 |0,_,_,_,_,_=>none
 |m+1,y0_0,y0_1,y0_2,y0_3,y1=>cP ⟨n0,bh n0 m⟩ y0_0 y0_1 y0_2 y0_3 y1
abbrev aG:=(List (List UInt8)) × VMask
def cI(N:Nat)(k3:(List UInt8)→(List Int)→(List (List UInt8))→Int→VMask→Option aG)(n:Nat)(x1:List UInt8)(x2:List Int)(x7:List (List UInt8))(x8:Int)(x9:List UInt8)(Tc:VMask):Option aG:=
 (g9 16 x7 ([x9] :List (List UInt8))).bind fun z7=>
 k3 x1 x2 z7 (w64 (x8+1)) Tc
def b7(N:Nat):Nat→(List UInt8)→(List Int)→(List (List UInt8))→Int→VMask→Option aG
 |0,_,_,_,_,_=>none
 |n+1,x1,x2,x7,x8,Tc=>
  bif decide (x8≤Tc.Groups) then
   (cg x2 (w64 (2 * x8))).bind fun z1=>
   bif decide (z1≥0) then
    (cg x2 (w64 ((w64 (2 * x8))+1))).bind fun z2=>
    (cg x2 (w64 (2 * x8))).bind fun z3=>
    bif decide (z2≥z3) then
     (cg x2 (w64 (2 * x8))).bind fun z4=>
     (cg x2 (w64 ((w64 (2 * x8))+1))).bind fun z5=>
     (nP x1 z4 z5).bind fun z6=>
     cI N (b7 N n) n x1 x2 x7 x8 z6 Tc
    else
     cI N (b7 N n) n x1 x2 x7 x8 ([] :List UInt8) Tc
   else
    cI N (b7 N n) n x1 x2 x7 x8 ([] :List UInt8) Tc
  else
   some (x7,Tc)
def er(N:Nat)(x1:List UInt8)(x2:List Int)(y0:VMask):Option aG:=
 b7 N N x1 x2 ([] :List (List UInt8)) 1 y0
def fI(N:Nat)(x0:UInt8):Option Bool:=
 bif decide ((b2i x0)≥(b2i 48)) then
  some (decide ((b2i x0)≤(b2i 57)))
 else
  some false
abbrev da:=(List Vpiece) × Bool
def cY(N:Nat):Nat→(List UInt8)→(List Vpiece)→Option da
 |0,_,_=>none
 |n+1,x0,x4=>
  bif !decide (x0=([] :List UInt8)) then
   (cg x0 0).bind fun z1=>
   bif (b2i z1) != (b2i 36) then
    (ND x0 ([36] :List UInt8)).bind fun z2=>
    (cB N z2 36).bind fun z3=>
    (nP x0 0 z3).bind fun z4=>
    (g9 24 x4 ([({ text:=z4,group:=(-1) }:Vpiece)] :List Vpiece)).bind fun z5=>
    (nP x0 z3 (x0.length:Int)).bind fun z6=>
    cY N n z6 z5
   else
    (nP x0 1 (x0.length:Int)).bind fun z7=>
    bif decide (z7=([] :List UInt8)) then
     some (([] :List Vpiece),false)
    else
     (cg z7 0).bind fun z8=>
     bif (b2i z8)==(b2i 36) then
      (g9 24 x4 ([({ text:=([36] :List UInt8),group:=(-1) }:Vpiece)] :List Vpiece)).bind fun z9=>
      (nP z7 1 (z7.length:Int)).bind fun z10=>
      cY N n z10 z9
     else
      (cg z7 0).bind fun z11=>
      (fI N z11).bind fun z12=>
      bif z12 then
       (cg z7 0).bind fun z13=>
       (g9 24 x4 ([({ text:=([] :List UInt8),group:=w64 (b2i (toB (IntKind.wrap .u8 ((b2i z13) - (b2i 48))))) }:Vpiece)] :List Vpiece)).bind fun z14=>
       (nP z7 1 (z7.length:Int)).bind fun z15=>
       cY N n z15 z14
      else
       bif decide ((z7.length:Int) > 2) then
        (cg z7 0).bind fun z16=>
        bif (b2i z16)==(b2i 123) then
         (cg z7 1).bind fun z17=>
         (fI N z17).bind fun z18=>
         bif z18 then
          (cg z7 2).bind fun z19=>
          bif (b2i z19)==(b2i 125) then
           (cg z7 1).bind fun z20=>
           (g9 24 x4 ([({ text:=([] :List UInt8),group:=w64 (b2i (toB (IntKind.wrap .u8 ((b2i z20) - (b2i 48))))) }:Vpiece)] :List Vpiece)).bind fun z21=>
           (nP z7 3 (z7.length:Int)).bind fun z22=>
           cY N n z22 z21
          else
           some (([] :List Vpiece),false)
         else
          some (([] :List Vpiece),false)
        else
         some (([] :List Vpiece),false)
       else
        some (([] :List Vpiece),false)
  else
   some (x4,true)
def jM(N:Nat)(x0:List UInt8):Option da:=
 cY N N x0 ([] :List Vpiece)
structure RecC2 where
 n:Nat
 k:Nat→Vthread→Int→VMask→(List Vthread)→(List (Int × Bool))→Option (PR (Nat × VMask × (List Vthread) × (List (Int × Bool))))
def dr(N:RecC2)(x1_n:Nat)(x3:Vthread)(x4:Int)(y0:VMask)(y1:List Vthread)(y2:List (Int × Bool)):Option (PR (Nat × VMask × (List Vthread) × (List (Int × Bool)))):=N.k x1_n x3 x4 y0 y1 y2
abbrev bB:=Nat × VMask × (List Vthread) × (List (Int × Bool))
def gL(N:RecC2)(n:Nat)(x1_n:Nat)(x4:Int)(b8:Vthread)(b11:Vstep)(Tc:VMask)(Tj:List (Int × Bool))(Tg:List Vthread):Option (PR bB):=
 bif b11.kind==2 then
  (dr N x1_n ({ at_:=b11.a,slots:=b8.slots }:Vthread) x4 Tc Tg Tj).bind fun z2=>
  match z2 with
  |.pan vz2=>
   some (.pan vz2)
  |.ok z3=>
   some (.ok (z3.1,z3.2.1,z3.2.2.1,z3.2.2.2))
 else
  bif b11.kind==1 then
   (dr N x1_n ({ at_:=b11.a,slots:=b8.slots }:Vthread) x4 Tc Tg Tj).bind fun z4=>
   match z4 with
   |.pan vz4=>
    some (.pan vz4)
   |.ok z5=>
    (dr N z5.1 ({ at_:=b11.b,slots:=b8.slots }:Vthread) x4 z5.2.1 z5.2.2.1 z5.2.2.2).bind fun z6=>
    match z6 with
    |.pan vz6=>
     some (.pan vz6)
    |.ok z7=>
     some (.ok (z7.1,z7.2.1,z7.2.2.1,z7.2.2.2))
  else
   bif b11.kind==3 then
    (ko N.n b8.slots).bind fun z8=>
    match z8 with
    |.pan vz8=>
     some (.pan vz8)
    |.ok z9=>
     (dg z9.1 b11.a).bind fun z10=>
     (z9.2[z10]?).bind fun z11=>
     (nR z9.1 (List.set z9.2 z10 x4)).bind fun z12=>
     (dr N x1_n ({ at_:=w64 (b8.at_+1),slots:=z12 }:Vthread) x4 Tc Tg Tj).bind fun z13=>
     match z13 with
     |.pan vz13=>
      some (.pan vz13)
     |.ok z14=>
      some (.ok (z14.1,z14.2.1,z14.2.2.1,z14.2.2.2))
   else
    (oz 32 x1_n Tg ([b8] :List Vthread)).bind fun z15=>
    some (.ok (z15.length,Tc,z15,Tj))
def gE(N:RecC2)(x1_n:Nat)(x3:Vthread)(x4:Int)(y0:VMask)(y1:List Vthread)(y2:List (Int × Bool)):Option (PR bB):=
 bif (tE y2 x3.at_).getD false then
  some (.ok (x1_n,y0,y1,y2))
 else
  (cg y0.steps x3.at_).bind fun z1=>
  gL N N.n x1_n x4 x3 z1 y0 (DM y2 x3.at_ true) y1
def fN(n0:Nat):Nat→Nat→Vthread→Int→VMask→(List Vthread)→(List (Int × Bool))→Option (PR (Nat × VMask × (List Vthread) × (List (Int × Bool))))
 |0,_,_,_,_,_,_=>none
 |m+1,x1_n,x3,x4,y0,y1,y2=>gE ⟨n0,fN n0 m⟩ x1_n x3 x4 y0 y1 y2
def cZ(N:Nat)(x1_n:Nat)(x3:Vthread)(x4:Int)(y0:VMask)(y1:List Vthread)(y2:List (Int × Bool)):Option (PR (Nat × VMask × (List Vthread) × (List (Int × Bool)))):=fN N N x1_n x3 x4 y0 y1 y2
set_option maxRecDepth 100000
def eI(i0:Nat)(i1:Nat)(r:bY):TV EE.T:=.a (.d (.int .i64) r.1)
def uJ(i0:Nat)(i1:Nat)(r:bY):List (Nat × TB EE.T):=[(i0,.cs [.d .str r.2.1,.d (.int .i64) r.2.2.1,.d (.int .i64) r.2.2.2.1,.vec (.nam 7) i1 r.2.2.2.2.1]),(i1,.vec i1 (.nam 7) r.2.2.2.2.2)]
def rp(r:PR bY):RL EE.T:=pa (eI 100000 200001) (uJ 100000 200001) r
def MQ:Lvs:=⟨[(1,⟨[(0,false),(3,false)],[],[(3,(some 7,[])),(100000,(none,[])),(200001,(none,[]))],[]⟩)],[],[],[],false,[(100000,(none,[]))],[100000,200001],[],[(12,200001)]⟩
def Oo:List ResultVar:=[.tmp 4]
def I8(N:Nat):Gam EE:=⟨[],EQT,[],[]⟩
theorem LU(N:Nat):GOk Try.prog TT EE (I8 N):=GOk.nil cN
def J3(c:Code):List It2:=[.c c]
def IS(x1:Vstep)(y0_0:List UInt8)(y0_1:Int)(y0_2:Int)(y0_3:Nat)(y1:List Vstep):TS EE.T:=⟨21,[(0,.a (.box 100000 0)),(1,.ag (cv EE (.nam 7) x1))],[(100000,.cs [.d .str y0_0,.d (.int .i64) y0_1,.d (.int .i64) y0_2,.vec (.nam 7) 200001 y0_3]),(200001,.vec 200001 (.nam 7) y1)],[]⟩
abbrev Nb(N:Nat)(r:PR bY)(k:List It2)(s:TS EE.T):Prop:=fa (Y:=TT) EE (I8 N) MQ Oo (fun u=>u=rp r) k s
def Nu(x:PR bY):Tree (Lf EE.T × Option (PR bY)):=.leaf (.done (rp x),some x)
theorem Ly{N:Nat}{r:PR bY}(x1:Vstep)(y0_0:List UInt8)(y0_1:Int)(y0_2:Int)(y0_3:Nat)(y1:List Vstep)(h:ap N x1 y0_0 y0_1 y0_2 y0_3 y1=some r):Nb N r (J3 (aa 0 Try.f36)) (IS x1 y0_0 y0_1 y0_2 y0_3 y1):=
 av (m:=4000) (t:=
 .bnd (oz 32 y0_3 y1 ([x1] :List Vstep)) fun z1=>
 Nu (.ok (w64 ((z1.length:Int) - 1),y0_0,y0_1,y0_2,z1.length,z1))) (by kernel_rfl) (by kernel_rfl) h (fun _=>aO (enc:=rp) rfl)
def FC(x1:Vstep)(y0_0:List UInt8)(y0_1:Int)(y0_2:Int)(y0_3:Nat)(y1:List Vstep):List (TV EE.T):=[.a (.box 100000 0),.ag (cv EE (.nam 7) x1)]
def Af(x1:Vstep)(y0_0:List UInt8)(y0_1:Int)(y0_2:Int)(y0_3:Nat)(y1:List Vstep):List (Nat × TB EE.T):=[(100000,.cs [.d .str y0_0,.d (.int .i64) y0_1,.d (.int .i64) y0_2,.vec (.nam 7) 200001 y0_3]),(200001,.vec 200001 (.nam 7) y1)]
theorem im{N:Nat}(x1:Vstep)(y0_0:List UInt8)(y0_1:Int)(y0_2:Int)(y0_3:Nat)(y1:List Vstep){r:PR bY}(h:ap N x1 y0_0 y0_1 y0_2 y0_3 y1=some r)(ρ:Rn)(hi:Inj ρ (Af x1 y0_0 y0_1 y0_2 y0_3 y1)):aE Try.prog 36 ((FC x1 y0_0 y0_1 y0_2 y0_3 y1).map (TV.to EE.toEnc ρ)) (hTo EE.toEnc ρ (Af x1 y0_0 y0_1 y0_2 y0_3 y1)) (cx EE ρ fun u=>u=rp r):=
 dO (aa 0 Try.f36) 21 mixed (LU N) Try.func36 (by kernel_rfl) rfl rfl rfl rfl (Ly x1 y0_0 y0_1 y0_2 y0_3 y1 h) ρ hi
def dL(N:Nat)(us:List (TV EE.T))(hs:List (Nat × TB EE.T)):XR EE.T:=
 gdX (eT us 2) <|
 bnX (aB us 0) fun i0=>
 bnX (aS EE 7 us 1) fun x1=>
 bnX (bC hs i0) fun l0=>
 gdX (eT l0 4) <|
 bnX (cD .str l0 0) fun y0_0=>
 bnX (cD (.int .i64) l0 1) fun y0_1=>
 bnX (cD (.int .i64) l0 2) fun y0_2=>
 bnX (cVi (.nam 7) l0 3) fun i1=>
 bnX (cVn (.nam 7) l0 3) fun y0_3=>
 bnX (bV (.nam 7) hs i1) fun y1=>
 gdX (bA hs [i0,i1]) <|
 gdX (i4 [i0,i1]) <|
 .mv (ap N x1 y0_0 y0_1 y0_2 y0_3 y1) [i0,i1] (mvL [i0,i1] [100000,200001]) 0 (eI i0 i1) (uJ i0 i1)
theorem dY(N:Nat):XOk Try.prog EE 36 (dL N):=fun us hs=>
 aJ fun h1=>ak fun i0 h2=>ak fun x1 h3=>ak fun l0 h4=>aJ fun h5=>ak fun y0_0 h6=>ak fun y0_1 h7=>ak fun y0_2 h8=>ak fun i1 h9=>ak fun y0_3 h10=>ak fun y1 h11=>aJ fun h12=>aJ fun h13=>fun p hz ρ hi=>gQ (ex:=[]) (ks:=[100000,200001]) (us':=FC x1 y0_0 y0_1 y0_2 y0_3 y1) (h0:=Af x1 y0_0 y0_1 y0_2 y0_3 y1) (ρ':=jT ρ [i0,i1]) (uc:=eI 100000 200001) (u:=eI i0 i1) (hc:=uJ 100000 200001) (h:=uJ i0 i1) hi h12 (by kernel_rfl) ⟨gJ h2 (by kernel_rfl),Lm h3,bU h1⟩ ⟨(by kernel_rfl),mD h4 ⟨dG h6,dG h7,dG h8,ji h9 h10 (by kernel_rfl),bU h5⟩,(by kernel_rfl),kY h11 (by kernel_rfl),trivial⟩ ⟨.inr rfl,.inl rfl,trivial⟩ h13 (fun hj=>im x1 y0_0 y0_1 y0_2 y0_3 y1 hz _ hj) (fun z=>⟨by kernel_rfl,by kernel_rfl,by kernel_rfl,by kernel_rfl⟩)
def eo(i0:Nat)(i1:Nat)(r:bN):TV EE.T:=.tu [.a (.d .byte r.1),.a (.d .bool r.2.1)]
def uD(i0:Nat)(i1:Nat)(r:bN):List (Nat × TB EE.T):=[(i0,.cs [.d .str r.2.2.1,.d (.int .i64) r.2.2.2.1,.d (.int .i64) r.2.2.2.2.1,.vec (.nam 7) i1 r.2.2.2.2.2.1]),(i1,.vec i1 (.nam 7) r.2.2.2.2.2.2)]
def o7(r:PR bN):RL EE.T:=pa (eo 100000 200001) (uD 100000 200001) r
def Pi:Lvs:=⟨[(1,⟨[(0,false)],[],[(100000,(none,[])),(200001,(none,[]))],[]⟩),(2,⟨[(0,false)],[],[(100000,(none,[])),(200001,(none,[]))],[]⟩)],[],[],[],false,[(100000,(none,[]))],[100000,200001],[],[]⟩
def Nw:List ResultVar:=[.tmp 2,.tmp 3]
def IA(N:Nat):Gam EE:=⟨[],EQT,[],[]⟩
theorem Mk(N:Nat):GOk Try.prog TT EE (IA N):=GOk.nil cN
def JW(c:Code):List It2:=[.c c]
def IF(y0_0:List UInt8)(y0_1:Int)(y0_2:Int)(y0_3:Nat)(y1:List Vstep):TS EE.T:=⟨23,[(0,.a (.box 100000 0))],[(100000,.cs [.d .str y0_0,.d (.int .i64) y0_1,.d (.int .i64) y0_2,.vec (.nam 7) 200001 y0_3]),(200001,.vec 200001 (.nam 7) y1)],[]⟩
abbrev Pa(N:Nat)(r:PR bN)(k:List It2)(s:TS EE.T):Prop:=fa (Y:=TT) EE (IA N) Pi Nw (fun u=>u=o7 r) k s
def Gg(x:PR bN):Tree (Lf EE.T × Option (PR bN)):=.leaf (.done (o7 x),some x)
theorem K2{N:Nat}{r:PR bN}(y0_0:List UInt8)(y0_1:Int)(y0_2:Int)(y0_3:Nat)(y1:List Vstep)(h:aK N y0_0 y0_1 y0_2 y0_3 y1=some r):Pa N r (JW (aa 0 Try.f61)) (IF y0_0 y0_1 y0_2 y0_3 y1):=
 av (m:=4000) (t:=
 .cond (decide (y0_1 < (y0_0.length:Int)))
 (
  .bnd (cg y0_0 y0_1) fun z1=>
  Gg (.ok (z1,true,y0_0,y0_1,y0_2,y0_3,y1)))
 (
  Gg (.ok (0,false,y0_0,y0_1,y0_2,y0_3,y1)))) (by kernel_rfl) (by kernel_rfl) h (⟨fun _=>aO (enc:=o7) rfl,aO (enc:=o7) rfl⟩)
def Fo(y0_0:List UInt8)(y0_1:Int)(y0_2:Int)(y0_3:Nat)(y1:List Vstep):List (TV EE.T):=[.a (.box 100000 0)]
def AP(y0_0:List UInt8)(y0_1:Int)(y0_2:Int)(y0_3:Nat)(y1:List Vstep):List (Nat × TB EE.T):=[(100000,.cs [.d .str y0_0,.d (.int .i64) y0_1,.d (.int .i64) y0_2,.vec (.nam 7) 200001 y0_3]),(200001,.vec 200001 (.nam 7) y1)]
theorem lU{N:Nat}(y0_0:List UInt8)(y0_1:Int)(y0_2:Int)(y0_3:Nat)(y1:List Vstep){r:PR bN}(h:aK N y0_0 y0_1 y0_2 y0_3 y1=some r)(ρ:Rn)(hi:Inj ρ (AP y0_0 y0_1 y0_2 y0_3 y1)):aE Try.prog 61 ((Fo y0_0 y0_1 y0_2 y0_3 y1).map (TV.to EE.toEnc ρ)) (hTo EE.toEnc ρ (AP y0_0 y0_1 y0_2 y0_3 y1)) (cx EE ρ fun u=>u=o7 r):=
 dO (aa 0 Try.f61) 23 mixed (Mk N) Try.func61 (by kernel_rfl) rfl rfl rfl rfl (K2 y0_0 y0_1 y0_2 y0_3 y1 h) ρ hi
def cU(N:Nat)(us:List (TV EE.T))(hs:List (Nat × TB EE.T)):XR EE.T:=
 gdX (eT us 1) <|
 bnX (aB us 0) fun i0=>
 bnX (bC hs i0) fun l0=>
 gdX (eT l0 4) <|
 bnX (cD .str l0 0) fun y0_0=>
 bnX (cD (.int .i64) l0 1) fun y0_1=>
 bnX (cD (.int .i64) l0 2) fun y0_2=>
 bnX (cVi (.nam 7) l0 3) fun i1=>
 bnX (cVn (.nam 7) l0 3) fun y0_3=>
 bnX (bV (.nam 7) hs i1) fun y1=>
 gdX (bA hs [i0,i1]) <|
 gdX (i4 [i0,i1]) <|
 .mv (aK N y0_0 y0_1 y0_2 y0_3 y1) [i0,i1] (mvL [i0,i1] [100000,200001]) 0 (eo i0 i1) (uD i0 i1)
theorem dc(N:Nat):XOk Try.prog EE 61 (cU N):=fun us hs=>
 aJ fun h1=>ak fun i0 h2=>ak fun l0 h3=>aJ fun h4=>ak fun y0_0 h5=>ak fun y0_1 h6=>ak fun y0_2 h7=>ak fun i1 h8=>ak fun y0_3 h9=>ak fun y1 h10=>aJ fun h11=>aJ fun h12=>fun p hz ρ hi=>gQ (ex:=[]) (ks:=[100000,200001]) (us':=Fo y0_0 y0_1 y0_2 y0_3 y1) (h0:=AP y0_0 y0_1 y0_2 y0_3 y1) (ρ':=jT ρ [i0,i1]) (uc:=eo 100000 200001) (u:=eo i0 i1) (hc:=uD 100000 200001) (h:=uD i0 i1) hi h11 (by kernel_rfl) ⟨gJ h2 (by kernel_rfl),bU h1⟩ ⟨(by kernel_rfl),mD h3 ⟨dG h5,dG h6,dG h7,ji h8 h9 (by kernel_rfl),bU h4⟩,(by kernel_rfl),kY h10 (by kernel_rfl),trivial⟩ ⟨.inr rfl,.inl rfl,trivial⟩ h12 (fun hj=>lU y0_0 y0_1 y0_2 y0_3 y1 hz _ hj) (fun z=>⟨by kernel_rfl,by kernel_rfl,by kernel_rfl,by kernel_rfl⟩)
def en(i0:Nat)(i1:Nat)(r:bQ):TV EE.T:=.tu []
def uY(i0:Nat)(i1:Nat)(r:bQ):List (Nat × TB EE.T):=[(i0,.cs [.d .str r.1,.d (.int .i64) r.2.1,.d (.int .i64) r.2.2.1,.vec (.nam 7) i1 r.2.2.2.1]),(i1,.vec i1 (.nam 7) r.2.2.2.2)]
def rF(r:PR bQ):RL EE.T:=pa (en 100000 200001) (uY 100000 200001) r
def M7:Lvs:=⟨[],[],[],[],false,[],[100000,200001],[],[]⟩
def Og:List ResultVar:=[]
def Ke(N:Nat):Gam EE:=⟨[],EQT,[],[]⟩
theorem IN(N:Nat):GOk Try.prog TT EE (Ke N):=GOk.nil cN
def Jk(c:Code):List It2:=[.c c]
def Mt(x1:Int)(x2:Int)(y0_0:List UInt8)(y0_1:Int)(y0_2:Int)(y0_3:Nat)(y1:List Vstep):TS EE.T:=⟨10,[(0,.a (.box 100000 0)),(1,.a (.d (.int .i64) x1)),(2,.a (.d (.int .i64) x2))],[(100000,.cs [.d .str y0_0,.d (.int .i64) y0_1,.d (.int .i64) y0_2,.vec (.nam 7) 200001 y0_3]),(200001,.vec 200001 (.nam 7) y1)],[]⟩
abbrev No(N:Nat)(r:PR bQ)(k:List It2)(s:TS EE.T):Prop:=fa (Y:=TT) EE (Ke N) M7 Og (fun u=>u=rF r) k s
def NZ(x:PR bQ):Tree (Lf EE.T × Option (PR bQ)):=.leaf (.done (rF x),some x)
theorem Ld{N:Nat}{r:PR bQ}(x1:Int)(x2:Int)(y0_0:List UInt8)(y0_1:Int)(y0_2:Int)(y0_3:Nat)(y1:List Vstep)(h:aQ N x1 x2 y0_0 y0_1 y0_2 y0_3 y1=some r):No N r (Jk (aa 0 Try.f35)) (Mt x1 x2 y0_0 y0_1 y0_2 y0_3 y1):=
 av (m:=4000) (t:=
 NZ (.pan (Value.iface 28 (.agg #[.int .i64 x1,.int .i64 x2])))) (by kernel_rfl) (by kernel_rfl) h (aO (enc:=rF) rfl)
def FB(x1:Int)(x2:Int)(y0_0:List UInt8)(y0_1:Int)(y0_2:Int)(y0_3:Nat)(y1:List Vstep):List (TV EE.T):=[.a (.box 100000 0),.a (.d (.int .i64) x1),.a (.d (.int .i64) x2)]
def Bu(x1:Int)(x2:Int)(y0_0:List UInt8)(y0_1:Int)(y0_2:Int)(y0_3:Nat)(y1:List Vstep):List (Nat × TB EE.T):=[(100000,.cs [.d .str y0_0,.d (.int .i64) y0_1,.d (.int .i64) y0_2,.vec (.nam 7) 200001 y0_3]),(200001,.vec 200001 (.nam 7) y1)]
theorem g6{N:Nat}(x1:Int)(x2:Int)(y0_0:List UInt8)(y0_1:Int)(y0_2:Int)(y0_3:Nat)(y1:List Vstep){r:PR bQ}(h:aQ N x1 x2 y0_0 y0_1 y0_2 y0_3 y1=some r)(ρ:Rn)(hi:Inj ρ (Bu x1 x2 y0_0 y0_1 y0_2 y0_3 y1)):aE Try.prog 35 ((FB x1 x2 y0_0 y0_1 y0_2 y0_3 y1).map (TV.to EE.toEnc ρ)) (hTo EE.toEnc ρ (Bu x1 x2 y0_0 y0_1 y0_2 y0_3 y1)) (cx EE ρ fun u=>u=rF r):=
 dO (aa 0 Try.f35) 10 mixed (IN N) Try.func35 (by kernel_rfl) rfl rfl rfl rfl (Ld x1 x2 y0_0 y0_1 y0_2 y0_3 y1 h) ρ hi
def dx(N:Nat)(us:List (TV EE.T))(hs:List (Nat × TB EE.T)):XR EE.T:=
 gdX (eT us 3) <|
 bnX (aB us 0) fun i0=>
 bnX (aD (.int .i64) us 1) fun x1=>
 bnX (aD (.int .i64) us 2) fun x2=>
 bnX (bC hs i0) fun l0=>
 gdX (eT l0 4) <|
 bnX (cD .str l0 0) fun y0_0=>
 bnX (cD (.int .i64) l0 1) fun y0_1=>
 bnX (cD (.int .i64) l0 2) fun y0_2=>
 bnX (cVi (.nam 7) l0 3) fun i1=>
 bnX (cVn (.nam 7) l0 3) fun y0_3=>
 bnX (bV (.nam 7) hs i1) fun y1=>
 gdX (bA hs [i0,i1]) <|
 gdX (i4 [i0,i1]) <|
 .mv (aQ N x1 x2 y0_0 y0_1 y0_2 y0_3 y1) [i0,i1] (mvL [i0,i1] [100000,200001]) 0 (en i0 i1) (uY i0 i1)
theorem dQ(N:Nat):XOk Try.prog EE 35 (dx N):=fun us hs=>
 aJ fun h1=>ak fun i0 h2=>ak fun x1 h3=>ak fun x2 h4=>ak fun l0 h5=>aJ fun h6=>ak fun y0_0 h7=>ak fun y0_1 h8=>ak fun y0_2 h9=>ak fun i1 h10=>ak fun y0_3 h11=>ak fun y1 h12=>aJ fun h13=>aJ fun h14=>fun p hz ρ hi=>gQ (ex:=[]) (ks:=[100000,200001]) (us':=FB x1 x2 y0_0 y0_1 y0_2 y0_3 y1) (h0:=Bu x1 x2 y0_0 y0_1 y0_2 y0_3 y1) (ρ':=jT ρ [i0,i1]) (uc:=en 100000 200001) (u:=en i0 i1) (hc:=uY 100000 200001) (h:=uY i0 i1) hi h13 (by kernel_rfl) ⟨gJ h2 (by kernel_rfl),ja h3,ja h4,bU h1⟩ ⟨(by kernel_rfl),mD h5 ⟨dG h7,dG h8,dG h9,ji h10 h11 (by kernel_rfl),bU h6⟩,(by kernel_rfl),kY h12 (by kernel_rfl),trivial⟩ ⟨.inr rfl,.inl rfl,trivial⟩ h14 (fun hj=>g6 x1 x2 y0_0 y0_1 y0_2 y0_3 y1 hz _ hj) (fun z=>⟨by kernel_rfl,by kernel_rfl,by kernel_rfl,by kernel_rfl⟩)
def qK(r:gw):TV EE.T:=.a (.d (.ptr (.bits 256)) r)
def Er(r:gw):RL EE.T:=.ret (qK r) []
def Sc:Lvs:=⟨[],[],[],[],false,[],[],[(3,[.cl 3 (.a 256) (.s 3)])],[]⟩
def RV:List ResultVar:=[.tmp 2]
def Sd(N:Nat):Gam EE:=⟨[],EQT,[],[]⟩
theorem P4(N:Nat):GOk Try.prog TT EE (Sd N):=GOk.nil cN
def Q9(c:Code):List It2:=[.c c]
def Qb(x0:UInt8):TS EE.T:=⟨6,[(0,.a (.d .byte x0))],[],[]⟩
abbrev St(N:Nat)(r:gw)(k:List It2)(s:TS EE.T):Prop:=fa (Y:=TT) EE (Sd N) Sc RV (fun u=>u=Er r) k s
def RU(x:gw):Tree (Lf EE.T × Option gw):=.leaf (.done (Er x),some x)
theorem Q1{N:Nat}{r:gw}(x0:UInt8)(h:gA N x0=some r):St N r (Q9 (aa 0 Try.f68)) (Qb x0):=
 av (m:=4000) (t:=
 .bnd (dg 256 (b2i x0)) fun z1=>
 .bnd (gW (List.replicate 256 false) (0+z1) true) fun z2=>
 .bnd (nR 256 z2) fun z3=>
 RU (some z3)) (by kernel_rfl) (by kernel_rfl) h (fun _=>fun _=>fun _=>aO (enc:=Er) rfl)
theorem DE{N:Nat}(x0:UInt8){r:gw}(h:gA N x0=some r)(ρ:Rn):aE Try.prog 68 (([.a (.d .byte x0)] :List (TV EE.T)).map (TV.to EE.toEnc ρ)) [] (fun out H=>out=.ret ((qK r).to EE.toEnc ρ)∧H=[]):=
 (rA (aa 0 Try.f68) 6 mixed (P4 N) Try.func68 (by kernel_rfl) rfl rfl rfl rfl (Q1 x0 h) ρ).mono fun out H h=>cx.ret rfl h
def rf(N:Nat):List (TV EE.T)→PV EE.T
 | [u0] =>match lp .byte u0 with
   |some x0=>.opt (gA N x0) qK
   |_=>.bad
 |_=>.bad
theorem A4(N:Nat)(us:List (TV EE.T)):(rf N us).ok fun u=>∀ρ,aE Try.prog 68 (us.map (TV.to EE.toEnc ρ)) [] (fun out H=>out=.ret (u.to EE.toEnc ρ)∧H=[]):=by
 unfold rf
 split
 ·split
  ·rename_i h0
   intro z hz ρ;refine eU ?_ (DE _ hz ρ);exact⟨ec h0 ρ,trivial⟩
  ·trivial
 ·trivial
def eH(i0:Nat)(i1:Nat)(r:bW):TV EE.T:=.a (.d .bool r.1)
def u5(i0:Nat)(i1:Nat)(r:bW):List (Nat × TB EE.T):=[(i0,.cs [.d .str r.2.1,.d (.int .i64) r.2.2.1,.d (.int .i64) r.2.2.2.1,.vec (.nam 7) i1 r.2.2.2.2.1]),(i1,.vec i1 (.nam 7) r.2.2.2.2.2)]
def kJ(r:PR bW):RL EE.T:=pa (eH 100000 200001) (u5 100000 200001) r
def OQ:Lvs:=⟨[],[],[],[],false,[(100000,(none,[]))],[100000,200001],[],[]⟩
def OR:List ResultVar:=[.tmp 4]
def Km(N:Nat):Gam EE:=⟨[],EQT,[⟨61,cU N⟩],[]⟩
theorem L3(N:Nat):GOk Try.prog TT EE (Km N):=GOk.consx (dc N) (GOk.nil cN)
def KN(c:Code):List It2:=[.c c]
def Ik(x1:UInt8)(y0_0:List UInt8)(y0_1:Int)(y0_2:Int)(y0_3:Nat)(y1:List Vstep):TS EE.T:=⟨25,[(0,.a (.box 100000 0)),(1,.a (.d .byte x1))],[(100000,.cs [.d .str y0_0,.d (.int .i64) y0_1,.d (.int .i64) y0_2,.vec (.nam 7) 200001 y0_3]),(200001,.vec 200001 (.nam 7) y1)],[]⟩
abbrev MR(N:Nat)(r:PR bW)(k:List It2)(s:TS EE.T):Prop:=fa (Y:=TT) EE (Km N) OQ OR (fun u=>u=kJ r) k s
def uH(x:PR bW):Tree (Lf EE.T × Option (PR bW)):=.leaf (.done (kJ x),some x)
theorem MD{N:Nat}{r:PR bW}(x1:UInt8)(y0_0:List UInt8)(y0_1:Int)(y0_2:Int)(y0_3:Nat)(y1:List Vstep)(h:bc N x1 y0_0 y0_1 y0_2 y0_3 y1=some r):MR N r (KN (aa 0 Try.f50)) (Ik x1 y0_0 y0_1 y0_2 y0_3 y1):=
 av (m:=4000) (t:=
 .bnd (aK N y0_0 y0_1 y0_2 y0_3 y1) fun z1=>
 .sm z1 (fun z2=>
  .cond (z2.2.1)
  (
   .cond ((b2i z2.1)==(b2i x1))
   (
    uH (.ok (true,z2.2.2.1,w64 (z2.2.2.2.1+1),z2.2.2.2.2.1,z2.2.2.2.2.2.1,z2.2.2.2.2.2.2)))
   (
    uH (.ok (false,z2.2.2.1,z2.2.2.2.1,z2.2.2.2.2.1,z2.2.2.2.2.2.1,z2.2.2.2.2.2.2))))
  (
   uH (.ok (false,z2.2.2.1,z2.2.2.2.1,z2.2.2.2.2.1,z2.2.2.2.2.2.1,z2.2.2.2.2.2.2)))) (fun vz1=>
  uH (.pan vz1))) (by kernel_rfl) (by kernel_rfl) h (fun _=>⟨fun _=>⟨⟨aO (enc:=kJ) rfl,aO (enc:=kJ) rfl⟩,aO (enc:=kJ) rfl⟩,fun _=>aO (enc:=kJ) rfl⟩)
def GN(x1:UInt8)(y0_0:List UInt8)(y0_1:Int)(y0_2:Int)(y0_3:Nat)(y1:List Vstep):List (TV EE.T):=[.a (.box 100000 0),.a (.d .byte x1)]
def AJ(x1:UInt8)(y0_0:List UInt8)(y0_1:Int)(y0_2:Int)(y0_3:Nat)(y1:List Vstep):List (Nat × TB EE.T):=[(100000,.cs [.d .str y0_0,.d (.int .i64) y0_1,.d (.int .i64) y0_2,.vec (.nam 7) 200001 y0_3]),(200001,.vec 200001 (.nam 7) y1)]
theorem mt{N:Nat}(x1:UInt8)(y0_0:List UInt8)(y0_1:Int)(y0_2:Int)(y0_3:Nat)(y1:List Vstep){r:PR bW}(h:bc N x1 y0_0 y0_1 y0_2 y0_3 y1=some r)(ρ:Rn)(hi:Inj ρ (AJ x1 y0_0 y0_1 y0_2 y0_3 y1)):aE Try.prog 50 ((GN x1 y0_0 y0_1 y0_2 y0_3 y1).map (TV.to EE.toEnc ρ)) (hTo EE.toEnc ρ (AJ x1 y0_0 y0_1 y0_2 y0_3 y1)) (cx EE ρ fun u=>u=kJ r):=
 dO (aa 0 Try.f50) 25 mixed (L3 N) Try.func50 (by kernel_rfl) rfl rfl rfl rfl (MD x1 y0_0 y0_1 y0_2 y0_3 y1 h) ρ hi
def eK(N:Nat)(us:List (TV EE.T))(hs:List (Nat × TB EE.T)):XR EE.T:=
 gdX (eT us 2) <|
 bnX (aB us 0) fun i0=>
 bnX (aD .byte us 1) fun x1=>
 bnX (bC hs i0) fun l0=>
 gdX (eT l0 4) <|
 bnX (cD .str l0 0) fun y0_0=>
 bnX (cD (.int .i64) l0 1) fun y0_1=>
 bnX (cD (.int .i64) l0 2) fun y0_2=>
 bnX (cVi (.nam 7) l0 3) fun i1=>
 bnX (cVn (.nam 7) l0 3) fun y0_3=>
 bnX (bV (.nam 7) hs i1) fun y1=>
 gdX (bA hs [i0,i1]) <|
 gdX (i4 [i0,i1]) <|
 .mv (bc N x1 y0_0 y0_1 y0_2 y0_3 y1) [i0,i1] (mvL [i0,i1] [100000,200001]) 0 (eH i0 i1) (u5 i0 i1)
theorem eY(N:Nat):XOk Try.prog EE 50 (eK N):=fun us hs=>
 aJ fun h1=>ak fun i0 h2=>ak fun x1 h3=>ak fun l0 h4=>aJ fun h5=>ak fun y0_0 h6=>ak fun y0_1 h7=>ak fun y0_2 h8=>ak fun i1 h9=>ak fun y0_3 h10=>ak fun y1 h11=>aJ fun h12=>aJ fun h13=>fun p hz ρ hi=>gQ (ex:=[]) (ks:=[100000,200001]) (us':=GN x1 y0_0 y0_1 y0_2 y0_3 y1) (h0:=AJ x1 y0_0 y0_1 y0_2 y0_3 y1) (ρ':=jT ρ [i0,i1]) (uc:=eH 100000 200001) (u:=eH i0 i1) (hc:=u5 100000 200001) (h:=u5 i0 i1) hi h12 (by kernel_rfl) ⟨gJ h2 (by kernel_rfl),ja h3,bU h1⟩ ⟨(by kernel_rfl),mD h4 ⟨dG h6,dG h7,dG h8,ji h9 h10 (by kernel_rfl),bU h5⟩,(by kernel_rfl),kY h11 (by kernel_rfl),trivial⟩ ⟨.inr rfl,.inl rfl,trivial⟩ h13 (fun hj=>mt x1 y0_0 y0_1 y0_2 y0_3 y1 hz _ hj) (fun z=>⟨by kernel_rfl,by kernel_rfl,by kernel_rfl,by kernel_rfl⟩)
def gN(r:Int):TV EE.T:=.a (.d (.int .i64) r)
def EF(r:Int):RL EE.T:=.ret (gN r) []
def SP:Lvs:=⟨[],[],[],[],false,[],[],[],[]⟩
def RG:List ResultVar:=[.tmp 4]
def Sy(N:Nat):Gam EE:=⟨[⟨59,kX N⟩],EQT,[],[]⟩
theorem QF(N:Nat):GOk Try.prog TT EE (Sy N):=GOk.cons (tg N) (GOk.nil cN)
def Qy(c:Code):List It2:=[.c c]
def Re(x0:List UInt8)(x1:UInt8):TS EE.T:=⟨8,[(0,.a (.d .str x0)),(1,.a (.d .byte x1))],[],[]⟩
abbrev RC(N:Nat)(r:Int)(k:List It2)(s:TS EE.T):Prop:=fa (Y:=TT) EE (Sy N) SP RG (fun u=>u=EF r) k s
def RQ(x:Int):Tree (Lf EE.T × Option Int):=.leaf (.done (EF x),some x)
theorem Rm{N:Nat}{r:Int}(x0:List UInt8)(x1:UInt8)(h:cB N x0 x1=some r):RC N r (Qy (aa 0 Try.f46)) (Re x0 x1):=
 av (m:=4000) (t:=
 .bnd (nb N x0 x1) fun z1=>
 RQ z1) (by kernel_rfl) (by kernel_rfl) h (fun _=>aO (enc:=EF) rfl)
theorem oO{N:Nat}(x0:List UInt8)(x1:UInt8){r:Int}(h:cB N x0 x1=some r)(ρ:Rn):aE Try.prog 46 (([.a (.d .str x0),.a (.d .byte x1)] :List (TV EE.T)).map (TV.to EE.toEnc ρ)) [] (fun out H=>out=.ret ((gN r).to EE.toEnc ρ)∧H=[]):=
 (rA (aa 0 Try.f46) 8 mixed (QF N) Try.func46 (by kernel_rfl) rfl rfl rfl rfl (Rm x0 x1 h) ρ).mono fun out H h=>cx.ret rfl h
def eu(N:Nat):List (TV EE.T)→PV EE.T
 | [u0,u1] =>match lp .str u0,lp .byte u1 with
   |some x0,some x1=>.opt (cB N x0 x1) gN
   |_,_=>.bad
 |_=>.bad
theorem fX(N:Nat)(us:List (TV EE.T)):(eu N us).ok fun u=>∀ρ,aE Try.prog 46 (us.map (TV.to EE.toEnc ρ)) [] (fun out H=>out=.ret (u.to EE.toEnc ρ)∧H=[]):=by
 unfold eu
 split
 ·split
  ·rename_i h0 h1
   intro z hz ρ;refine eU ?_ (oO _ _ hz ρ);exact⟨ec h0 ρ,ec h1 ρ,trivial⟩
  ·trivial
 ·trivial
def dW(i0:Nat)(i1:Nat)(r:aZ):TV EE.T:=.a (.d .byte r.1)
def vb(i0:Nat)(i1:Nat)(r:aZ):List (Nat × TB EE.T):=[(i0,.cs [.d .str r.2.1,.d (.int .i64) r.2.2.1,.d (.int .i64) r.2.2.2.1,.vec (.nam 7) i1 r.2.2.2.2.1]),(i1,.vec i1 (.nam 7) r.2.2.2.2.2)]
def kR(r:PR aZ):RL EE.T:=pa (dW 100000 200001) (vb 100000 200001) r
def Oy:Lvs:=⟨[(3,⟨[(0,false),(3,false)],[],[(100000,(none,[])),(200001,(none,[]))],[]⟩)],[],[3],[],false,[(100000,(none,[]))],[100000,200001],[],[]⟩
def OB:List ResultVar:=[.tmp 2]
def J9(N:Nat):Gam EE:=⟨[⟨46,eu N⟩],EQT,[⟨35,dx N⟩,⟨61,cU N⟩],[]⟩
theorem IY(N:Nat):GOk Try.prog TT EE (J9 N):=GOk.cons (fX N) (GOk.consx (dQ N) (GOk.consx (dc N) (GOk.nil cN)))
def C6(c:Code):List It2:=atR 3 c
def El(x3:UInt8)(Tf:List UInt8)(Td:Int)(Te:Int)(Tb:Nat)(Tg:List Vstep):TS EE.T:=⟨31,[(0,.a (.box 100000 0)),(3,.a (.d .byte x3))],[(100000,.cs [.d .str Tf,.d (.int .i64) Td,.d (.int .i64) Te,.vec (.nam 7) 200001 Tb]),(200001,.vec 200001 (.nam 7) Tg)],[]⟩
def JZ(c:Code):List It2:=[.c c]
def JN(y0_0:List UInt8)(y0_1:Int)(y0_2:Int)(y0_3:Nat)(y1:List Vstep):TS EE.T:=⟨31,[(0,.a (.box 100000 0))],[(100000,.cs [.d .str y0_0,.d (.int .i64) y0_1,.d (.int .i64) y0_2,.vec (.nam 7) 200001 y0_3]),(200001,.vec 200001 (.nam 7) y1)],[]⟩
def B9(c:Code)(f:UInt8→(List UInt8)→Int→Int→Nat→(List Vstep)→Option (PR aZ))(x3:UInt8)(Tf:List UInt8)(Td:Int)(Te:Int)(Tb:Nat)(Tg:List Vstep):Tree (Lf EE.T × Option (PR aZ)):=.leaf (.go (C6 c) (El x3 Tf Td Te Tb Tg),f x3 Tf Td Te Tb Tg)
abbrev GH(N:Nat)(r:PR aZ)(k:List It2)(s:TS EE.T):Prop:=fa (Y:=TT) EE (J9 N) Oy OB (fun u=>u=kR r) k s
def vi(x:PR aZ):Tree (Lf EE.T × Option (PR aZ)):=.leaf (.done (kR x),some x)
theorem DS{N:Nat}{r:PR aZ}(n:Nat)(x3:UInt8)(Tf:List UInt8)(Td:Int)(Te:Int)(Tb:Nat)(Tg:List Vstep)(h:de N n x3 Tf Td Te Tb Tg=some r):GH N r (C6 (aa 0 Try.f70)) (El x3 Tf Td Te Tb Tg):=
 av (m:=4000) (t:=
 .bnd (aQ N 1 Td Tf Td Te Tb Tg) fun z4=>
 .sm z4 (fun z5=>
  vi (.ok (x3,z5.1,w64 (z5.2.1+1),z5.2.2.1,z5.2.2.2.1,z5.2.2.2.2))) (fun vz4=>
  vi (.pan vz4))) (by kernel_rfl) (by kernel_rfl) h (fun _=>⟨fun _=>aO (enc:=kR) rfl,fun _=>aO (enc:=kR) rfl⟩)
theorem In{N:Nat}{r:PR aZ}(y0_0:List UInt8)(y0_1:Int)(y0_2:Int)(y0_3:Nat)(y1:List Vstep)(h:bJ N y0_0 y0_1 y0_2 y0_3 y1=some r):GH N r (JZ (aa 0 Try.f70)) (JN y0_0 y0_1 y0_2 y0_3 y1):=
 av (m:=4000) (t:=
 .bnd (aK N y0_0 y0_1 y0_2 y0_3 y1) fun z1=>
 .sm z1 (fun z2=>
  .cond (!z2.2.1)
  (
   B9 (aa 0 Try.f70) (de N N) z2.1 z2.2.2.1 z2.2.2.2.1 z2.2.2.2.2.1 z2.2.2.2.2.2.1 z2.2.2.2.2.2.2)
  (
   .bnd (cB N ([91,93,92,94,45] :List UInt8) z2.1) fun z3=>
   .cond (decide (z3≥0))
   (
    B9 (aa 0 Try.f70) (de N N) z2.1 z2.2.2.1 z2.2.2.2.1 z2.2.2.2.2.1 z2.2.2.2.2.2.1 z2.2.2.2.2.2.2)
   (
    vi (.ok (z2.1,z2.2.2.1,w64 (z2.2.2.2.1+1),z2.2.2.2.2.1,z2.2.2.2.2.2.1,z2.2.2.2.2.2.2))))) (fun vz1=>
  vi (.pan vz1))) (by kernel_rfl) (by kernel_rfl) h (fun _=>⟨fun _=>⟨fun h=>DS N _ _ _ _ _ _ h,fun _=>⟨fun h=>DS N _ _ _ _ _ _ h,aO (enc:=kR) rfl⟩⟩,fun _=>aO (enc:=kR) rfl⟩)
def GB(y0_0:List UInt8)(y0_1:Int)(y0_2:Int)(y0_3:Nat)(y1:List Vstep):List (TV EE.T):=[.a (.box 100000 0)]
def BI(y0_0:List UInt8)(y0_1:Int)(y0_2:Int)(y0_3:Nat)(y1:List Vstep):List (Nat × TB EE.T):=[(100000,.cs [.d .str y0_0,.d (.int .i64) y0_1,.d (.int .i64) y0_2,.vec (.nam 7) 200001 y0_3]),(200001,.vec 200001 (.nam 7) y1)]
theorem lq{N:Nat}(y0_0:List UInt8)(y0_1:Int)(y0_2:Int)(y0_3:Nat)(y1:List Vstep){r:PR aZ}(h:bJ N y0_0 y0_1 y0_2 y0_3 y1=some r)(ρ:Rn)(hi:Inj ρ (BI y0_0 y0_1 y0_2 y0_3 y1)):aE Try.prog 70 ((GB y0_0 y0_1 y0_2 y0_3 y1).map (TV.to EE.toEnc ρ)) (hTo EE.toEnc ρ (BI y0_0 y0_1 y0_2 y0_3 y1)) (cx EE ρ fun u=>u=kR r):=
 dO (aa 0 Try.f70) 31 mixed (IY N) Try.func70 (by kernel_rfl) rfl rfl rfl rfl (In y0_0 y0_1 y0_2 y0_3 y1 h) ρ hi
def hU(N:Nat)(us:List (TV EE.T))(hs:List (Nat × TB EE.T)):XR EE.T:=
 gdX (eT us 1) <|
 bnX (aB us 0) fun i0=>
 bnX (bC hs i0) fun l0=>
 gdX (eT l0 4) <|
 bnX (cD .str l0 0) fun y0_0=>
 bnX (cD (.int .i64) l0 1) fun y0_1=>
 bnX (cD (.int .i64) l0 2) fun y0_2=>
 bnX (cVi (.nam 7) l0 3) fun i1=>
 bnX (cVn (.nam 7) l0 3) fun y0_3=>
 bnX (bV (.nam 7) hs i1) fun y1=>
 gdX (bA hs [i0,i1]) <|
 gdX (i4 [i0,i1]) <|
 .mv (bJ N y0_0 y0_1 y0_2 y0_3 y1) [i0,i1] (mvL [i0,i1] [100000,200001]) 0 (dW i0 i1) (vb i0 i1)
theorem kS(N:Nat):XOk Try.prog EE 70 (hU N):=fun us hs=>
 aJ fun h1=>ak fun i0 h2=>ak fun l0 h3=>aJ fun h4=>ak fun y0_0 h5=>ak fun y0_1 h6=>ak fun y0_2 h7=>ak fun i1 h8=>ak fun y0_3 h9=>ak fun y1 h10=>aJ fun h11=>aJ fun h12=>fun p hz ρ hi=>gQ (ex:=[]) (ks:=[100000,200001]) (us':=GB y0_0 y0_1 y0_2 y0_3 y1) (h0:=BI y0_0 y0_1 y0_2 y0_3 y1) (ρ':=jT ρ [i0,i1]) (uc:=dW 100000 200001) (u:=dW i0 i1) (hc:=vb 100000 200001) (h:=vb i0 i1) hi h11 (by kernel_rfl) ⟨gJ h2 (by kernel_rfl),bU h1⟩ ⟨(by kernel_rfl),mD h3 ⟨dG h5,dG h6,dG h7,ji h8 h9 (by kernel_rfl),bU h4⟩,(by kernel_rfl),kY h10 (by kernel_rfl),trivial⟩ ⟨.inr rfl,.inl rfl,trivial⟩ h12 (fun hj=>lq y0_0 y0_1 y0_2 y0_3 y1 hz _ hj) (fun z=>⟨by kernel_rfl,by kernel_rfl,by kernel_rfl,by kernel_rfl⟩)
def eC(i0:Nat)(i1:Nat)(r:aj):TV EE.T:=.a (.d (.ptr (.bits 256)) r.1)
def uT(i0:Nat)(i1:Nat)(r:aj):List (Nat × TB EE.T):=[(i0,.cs [.d .str r.2.1,.d (.int .i64) r.2.2.1,.d (.int .i64) r.2.2.2.1,.vec (.nam 7) i1 r.2.2.2.2.1]),(i1,.vec i1 (.nam 7) r.2.2.2.2.2)]
def gU(r:PR aj):RL EE.T:=pa (eC 100000 200001) (uT 100000 200001) r
def OY:Lvs:=⟨[(6,⟨[(0,false),(3,false),(4,false)],[],[(4,(none,[])),(100000,(none,[])),(200001,(none,[]))],[]⟩),(13,⟨[(0,false),(3,false),(4,false),(6,false),(7,false)],[],[(4,(none,[])),(100000,(none,[])),(200001,(none,[]))],[]⟩)],[(4,⟨[(0,false),(3,false),(4,false),(5,false)],[],[(4,(none,[])),(100000,(none,[])),(200001,(none,[]))],[]⟩),(14,⟨[(0,false),(3,false),(4,false),(7,false),(9,false)],[],[(4,(none,[])),(100000,(none,[])),(200001,(none,[]))],[]⟩),(18,⟨[(3,false),(4,false),(46,false)],[],[(4,(none,[])),(100000,(none,[])),(200001,(none,[]))],[]⟩)],[6,13],[],false,[(100000,(none,[]))],[100000,200001],[(22,[.cl 4 (.a 256) (.s 4)])],[]⟩
def N8:List ResultVar:=[.tmp 2]
def LL(N:Nat):Gam EE:=⟨[],EQT,[⟨35,dx N⟩,⟨70,hU N⟩,⟨50,eK N⟩],[]⟩
theorem KW(N:Nat):GOk Try.prog TT EE (LL N):=GOk.consx (dQ N) (GOk.consx (kS N) (GOk.consx (eY N) (GOk.nil cN)))
def yV(c:Code):List It2:=atL 14 c
def yy(x3:Bool)(x7:UInt8)(x9:Int)(b4:List Bool)(Tf:List UInt8)(Td:Int)(Te:Int)(Tb:Nat)(Tg:List Vstep):TS EE.T:=⟨57,[(0,.a (.box 100000 0)),(3,.a (.d .bool x3)),(4,.a (.box 4 0)),(7,.a (.d .byte x7)),(9,.a (.d (.int .i64) x9))],[(4,.row .bool b4),(100000,.cs [.d .str Tf,.d (.int .i64) Td,.d (.int .i64) Te,.vec (.nam 7) 200001 Tb]),(200001,.vec 200001 (.nam 7) Tg)],[]⟩
def zq(c:Code):List It2:=atR 13 c
def yB(x3:Bool)(x6:UInt8)(x7:UInt8)(b4:List Bool)(Tf:List UInt8)(Td:Int)(Te:Int)(Tb:Nat)(Tg:List Vstep):TS EE.T:=⟨57,[(0,.a (.box 100000 0)),(3,.a (.d .bool x3)),(4,.a (.box 4 0)),(6,.a (.d .byte x6)),(7,.a (.d .byte x7))],[(4,.row .bool b4),(100000,.cs [.d .str Tf,.d (.int .i64) Td,.d (.int .i64) Te,.vec (.nam 7) 200001 Tb]),(200001,.vec 200001 (.nam 7) Tg)],[]⟩
def CO(c:Code):List It2:=atR 6 c
def CH(x3:Bool)(b4:List Bool)(Tf:List UInt8)(Td:Int)(Te:Int)(Tb:Nat)(Tg:List Vstep):TS EE.T:=⟨57,[(0,.a (.box 100000 0)),(3,.a (.d .bool x3)),(4,.a (.box 4 0))],[(4,.row .bool b4),(100000,.cs [.d .str Tf,.d (.int .i64) Td,.d (.int .i64) Te,.vec (.nam 7) 200001 Tb]),(200001,.vec 200001 (.nam 7) Tg)],[]⟩
def yw(c:Code):List It2:=atL 18 c
def yO(x3:Bool)(x46:Int)(b4:List Bool)(Tf:List UInt8)(Td:Int)(Te:Int)(Tb:Nat)(Tg:List Vstep):TS EE.T:=⟨57,[(3,.a (.d .bool x3)),(4,.a (.box 4 0)),(46,.a (.d (.int .i64) x46))],[(4,.row .bool b4),(100000,.cs [.d .str Tf,.d (.int .i64) Td,.d (.int .i64) Te,.vec (.nam 7) 200001 Tb]),(200001,.vec 200001 (.nam 7) Tg)],[]⟩
def o3(c:Code):List It2:=atL 4 c
def oD(x3:Bool)(x5:Bool)(b4:List Bool)(Tf:List UInt8)(Td:Int)(Te:Int)(Tb:Nat)(Tg:List Vstep):TS EE.T:=⟨57,[(0,.a (.box 100000 0)),(3,.a (.d .bool x3)),(4,.a (.box 4 0)),(5,.a (.d .bool x5))],[(4,.row .bool b4),(100000,.cs [.d .str Tf,.d (.int .i64) Td,.d (.int .i64) Te,.vec (.nam 7) 200001 Tb]),(200001,.vec 200001 (.nam 7) Tg)],[]⟩
def K7(c:Code):List It2:=[.c c]
def LO(y0_0:List UInt8)(y0_1:Int)(y0_2:Int)(y0_3:Nat)(y1:List Vstep):TS EE.T:=⟨57,[(0,.a (.box 100000 0))],[(100000,.cs [.d .str y0_0,.d (.int .i64) y0_1,.d (.int .i64) y0_2,.vec (.nam 7) 200001 y0_3]),(200001,.vec 200001 (.nam 7) y1)],[]⟩
def yF(c:Code)(f:Bool→UInt8→Int→(List Bool)→(List UInt8)→Int→Int→Nat→(List Vstep)→Option (PR aj))(x3:Bool)(x7:UInt8)(x9:Int)(b4:List Bool)(Tf:List UInt8)(Td:Int)(Te:Int)(Tb:Nat)(Tg:List Vstep):Tree (Lf EE.T × Option (PR aj)):=.leaf (.go (yV c) (yy x3 x7 x9 b4 Tf Td Te Tb Tg),f x3 x7 x9 b4 Tf Td Te Tb Tg)
def sU(c:Code)(f:Bool→UInt8→UInt8→(List Bool)→(List UInt8)→Int→Int→Nat→(List Vstep)→Option (PR aj))(x3:Bool)(x6:UInt8)(x7:UInt8)(b4:List Bool)(Tf:List UInt8)(Td:Int)(Te:Int)(Tb:Nat)(Tg:List Vstep):Tree (Lf EE.T × Option (PR aj)):=.leaf (.go (zq c) (yB x3 x6 x7 b4 Tf Td Te Tb Tg),f x3 x6 x7 b4 Tf Td Te Tb Tg)
def CW(c:Code)(f:Bool→(List Bool)→(List UInt8)→Int→Int→Nat→(List Vstep)→Option (PR aj))(x3:Bool)(b4:List Bool)(Tf:List UInt8)(Td:Int)(Te:Int)(Tb:Nat)(Tg:List Vstep):Tree (Lf EE.T × Option (PR aj)):=.leaf (.go (CO c) (CH x3 b4 Tf Td Te Tb Tg),f x3 b4 Tf Td Te Tb Tg)
def yf(c:Code)(f:Bool→Int→(List Bool)→(List UInt8)→Int→Int→Nat→(List Vstep)→Option (PR aj))(x3:Bool)(x46:Int)(b4:List Bool)(Tf:List UInt8)(Td:Int)(Te:Int)(Tb:Nat)(Tg:List Vstep):Tree (Lf EE.T × Option (PR aj)):=.leaf (.go (yw c) (yO x3 x46 b4 Tf Td Te Tb Tg),f x3 x46 b4 Tf Td Te Tb Tg)
def CZ(c:Code)(f:Bool→Bool→(List Bool)→(List UInt8)→Int→Int→Nat→(List Vstep)→Option (PR aj))(x3:Bool)(x5:Bool)(b4:List Bool)(Tf:List UInt8)(Td:Int)(Te:Int)(Tb:Nat)(Tg:List Vstep):Tree (Lf EE.T × Option (PR aj)):=.leaf (.go (o3 c) (oD x3 x5 b4 Tf Td Te Tb Tg),f x3 x5 b4 Tf Td Te Tb Tg)
abbrev ka(N:Nat)(r:PR aj)(k:List It2)(s:TS EE.T):Prop:=fa (Y:=TT) EE (LL N) OY N8 (fun u=>u=gU r) k s
def ng(x:PR aj):Tree (Lf EE.T × Option (PR aj)):=.leaf (.done (gU x),some x)
theorem zg{N:Nat}{r:PR aj}{k4:Bool→Bool→(List Bool)→(List UInt8)→Int→Int→Nat→(List Vstep)→Option (PR aj)}(hk4:∀x3 x5 b4 Tf Td Te Tb Tg,k4 x3 x5 b4 Tf Td Te Tb Tg=some r→ka N r (o3 (aa 0 Try.f69)) (oD x3 x5 b4 Tf Td Te Tb Tg)):∀ (n:Nat) (x3:Bool) (x7:UInt8) (x9:Int) (b4:List Bool) (Tf:List UInt8) (Td:Int) (Te:Int) (Tb:Nat) (Tg:List Vstep),bv N k4 n x3 x7 x9 b4 Tf Td Te Tb Tg=some r→ka N r (yV (aa 0 Try.f69)) (yy x3 x7 x9 b4 Tf Td Te Tb Tg)
 |0,_,_,_,_,_,_,_,_,_,h=>by cases h
 |n+1,x3,x7,x9,b4,Tf,Td,Te,Tb,Tg,h=>av (m:=4000) (t:=
  .cond (decide (x9≤(w64 (b2i x7))))
  (
   .bnd (dg 256 x9) fun z18=>
   .bnd (gW b4 (0+z18) true) fun z19=>
   yF (aa 0 Try.f69) (bv N k4 n) x3 x7 (w64 (x9+1)) z19 Tf Td Te Tb Tg)
  (
   CZ (aa 0 Try.f69) k4 x3 false b4 Tf Td Te Tb Tg)) (by kernel_rfl) (by kernel_rfl) h (⟨fun _=>fun _=>fun h=>(zg hk4 n) _ _ _ _ _ _ _ _ _ h,fun h=>hk4 _ _ _ _ _ _ _ _ h⟩)
theorem tH{N:Nat}{r:PR aj}{k4:Bool→Bool→(List Bool)→(List UInt8)→Int→Int→Nat→(List Vstep)→Option (PR aj)}(hk4:∀x3 x5 b4 Tf Td Te Tb Tg,k4 x3 x5 b4 Tf Td Te Tb Tg=some r→ka N r (o3 (aa 0 Try.f69)) (oD x3 x5 b4 Tf Td Te Tb Tg))(n:Nat)(x3:Bool)(x6:UInt8)(x7:UInt8)(b4:List Bool)(Tf:List UInt8)(Td:Int)(Te:Int)(Tb:Nat)(Tg:List Vstep)(h:cr N k4 n x3 x6 x7 b4 Tf Td Te Tb Tg=some r):ka N r (zq (aa 0 Try.f69)) (yB x3 x6 x7 b4 Tf Td Te Tb Tg):=
 av (m:=4000) (t:=
 yF (aa 0 Try.f69) (bv N k4 n) x3 x7 (w64 (b2i x6)) b4 Tf Td Te Tb Tg) (by kernel_rfl) (by kernel_rfl) h (fun h=>zg hk4 n _ _ _ _ _ _ _ _ _ h)
theorem DV{N:Nat}{r:PR aj}{k4:Bool→Bool→(List Bool)→(List UInt8)→Int→Int→Nat→(List Vstep)→Option (PR aj)}(hk4:∀x3 x5 b4 Tf Td Te Tb Tg,k4 x3 x5 b4 Tf Td Te Tb Tg=some r→ka N r (o3 (aa 0 Try.f69)) (oD x3 x5 b4 Tf Td Te Tb Tg))(n:Nat)(x3:Bool)(b4:List Bool)(Tf:List UInt8)(Td:Int)(Te:Int)(Tb:Nat)(Tg:List Vstep)(h:cy N k4 n x3 b4 Tf Td Te Tb Tg=some r):ka N r (CO (aa 0 Try.f69)) (CH x3 b4 Tf Td Te Tb Tg):=
 av (m:=4000) (t:=
 .bnd (bJ N Tf Td Te Tb Tg) fun z5=>
 .sm z5 (fun z6=>
  .bnd (bc N 45 z6.2.1 z6.2.2.1 z6.2.2.2.1 z6.2.2.2.2.1 z6.2.2.2.2.2) fun z7=>
  .sm z7 (fun z8=>
   .cond (z8.1)
   (
    .bnd (bJ N z8.2.1 z8.2.2.1 z8.2.2.2.1 z8.2.2.2.2.1 z8.2.2.2.2.2) fun z9=>
    .sm z9 (fun z10=>
     .cond (decide ((b2i z10.1) < (b2i z6.1)))
     (
      .bnd (aQ N 3 z8.2.2.1 z10.2.1 z10.2.2.1 z10.2.2.2.1 z10.2.2.2.2.1 z10.2.2.2.2.2) fun z11=>
      .sm z11 (fun z12=>
       sU (aa 0 Try.f69) (cr N k4 n) x3 z6.1 z10.1 b4 z12.1 z12.2.1 z12.2.2.1 z12.2.2.2.1 z12.2.2.2.2) (fun vz11=>
       ng (.pan vz11)))
     (
      sU (aa 0 Try.f69) (cr N k4 n) x3 z6.1 z10.1 b4 z10.2.1 z10.2.2.1 z10.2.2.2.1 z10.2.2.2.2.1 z10.2.2.2.2.2)) (fun vz9=>
     ng (.pan vz9)))
   (
    sU (aa 0 Try.f69) (cr N k4 n) x3 z6.1 z6.1 b4 z8.2.1 z8.2.2.1 z8.2.2.2.1 z8.2.2.2.2.1 z8.2.2.2.2.2)) (fun vz7=>
   ng (.pan vz7))) (fun vz5=>
  ng (.pan vz5))) (by kernel_rfl) (by kernel_rfl) h (fun _=>⟨fun _=>fun _=>⟨fun _=>⟨fun _=>⟨fun _=>⟨fun _=>⟨fun _=>fun h=>tH hk4 n _ _ _ _ _ _ _ _ _ h,fun _=>aO (enc:=gU) rfl⟩,fun h=>tH hk4 n _ _ _ _ _ _ _ _ _ h⟩,fun _=>aO (enc:=gU) rfl⟩,fun h=>tH hk4 n _ _ _ _ _ _ _ _ _ h⟩,fun _=>aO (enc:=gU) rfl⟩,fun _=>aO (enc:=gU) rfl⟩)
theorem zW{N:Nat}{r:PR aj}:∀ (n:Nat) (x3:Bool) (x46:Int) (b4:List Bool) (Tf:List UInt8) (Td:Int) (Te:Int) (Tb:Nat) (Tg:List Vstep),bH N n x3 x46 b4 Tf Td Te Tb Tg=some r→ka N r (yw (aa 0 Try.f69)) (yO x3 x46 b4 Tf Td Te Tb Tg)
 |0,_,_,_,_,_,_,_,_,h=>by cases h
 |n+1,x3,x46,b4,Tf,Td,Te,Tb,Tg,h=>av (m:=4000) (t:=
  .cond (decide (x46 < 256))
  (
   .bnd (dg 256 x46) fun z13=>
   .bnd (b4[0+z13]?) fun z14=>
   .bnd (dg 256 x46) fun z15=>
   .bnd (gW b4 (0+z15) (!(z14==x3))) fun z16=>
   yf (aa 0 Try.f69) (bH N n) x3 (w64 (x46+1)) z16 Tf Td Te Tb Tg)
  (
   .bnd (nR 256 b4) fun z17=>
   ng (.ok ((some z17),Tf,Td,Te,Tb,Tg)))) (by kernel_rfl) (by kernel_rfl) h (⟨fun _=>fun _=>fun _=>fun _=>fun h=>(zW n) _ _ _ _ _ _ _ _ h,fun _=>aO (enc:=gU) rfl⟩)
theorem wF{N:Nat}{r:PR aj}:∀ (n:Nat) (x3:Bool) (x5:Bool) (b4:List Bool) (Tf:List UInt8) (Td:Int) (Te:Int) (Tb:Nat) (Tg:List Vstep),br N n x3 x5 b4 Tf Td Te Tb Tg=some r→ka N r (o3 (aa 0 Try.f69)) (oD x3 x5 b4 Tf Td Te Tb Tg)
 |0,_,_,_,_,_,_,_,_,h=>by cases h
 |n+1,x3,x5,b4,Tf,Td,Te,Tb,Tg,h=>av (m:=4000) (t:=
  .cond (x5)
  (
   CW (aa 0 Try.f69) (cy N (br N n) n) x3 b4 Tf Td Te Tb Tg)
  (
   .bnd (bc N 93 Tf Td Te Tb Tg) fun z3=>
   .sm z3 (fun z4=>
    .cond (!z4.1)
    (
     CW (aa 0 Try.f69) (cy N (br N n) n) x3 b4 z4.2.1 z4.2.2.1 z4.2.2.2.1 z4.2.2.2.2.1 z4.2.2.2.2.2)
    (
     yf (aa 0 Try.f69) (bH N n) x3 0 b4 z4.2.1 z4.2.2.1 z4.2.2.2.1 z4.2.2.2.2.1 z4.2.2.2.2.2)) (fun vz3=>
    ng (.pan vz3)))) (by kernel_rfl) (by kernel_rfl) h (⟨fun h=>DV (wF n) n _ _ _ _ _ _ _ h,fun _=>⟨fun _=>⟨fun h=>DV (wF n) n _ _ _ _ _ _ _ h,fun h=>zW n _ _ _ _ _ _ _ _ h⟩,fun _=>aO (enc:=gU) rfl⟩⟩)
theorem Mu{N:Nat}{r:PR aj}(y0_0:List UInt8)(y0_1:Int)(y0_2:Int)(y0_3:Nat)(y1:List Vstep)(h:cW N y0_0 y0_1 y0_2 y0_3 y1=some r):ka N r (K7 (aa 0 Try.f69)) (LO y0_0 y0_1 y0_2 y0_3 y1):=
 av (m:=4000) (t:=
 .bnd (bc N 94 y0_0 y0_1 y0_2 y0_3 y1) fun z1=>
 .sm z1 (fun z2=>
  CZ (aa 0 Try.f69) (br N N) z2.1 true (List.replicate 256 false) z2.2.1 z2.2.2.1 z2.2.2.2.1 z2.2.2.2.2.1 z2.2.2.2.2.2) (fun vz1=>
  ng (.pan vz1))) (by kernel_rfl) (by kernel_rfl) h (fun _=>⟨fun _=>fun h=>wF N _ _ _ _ _ _ _ _ h,fun _=>aO (enc:=gU) rfl⟩)
def FW(y0_0:List UInt8)(y0_1:Int)(y0_2:Int)(y0_3:Nat)(y1:List Vstep):List (TV EE.T):=[.a (.box 100000 0)]
def Ac(y0_0:List UInt8)(y0_1:Int)(y0_2:Int)(y0_3:Nat)(y1:List Vstep):List (Nat × TB EE.T):=[(100000,.cs [.d .str y0_0,.d (.int .i64) y0_1,.d (.int .i64) y0_2,.vec (.nam 7) 200001 y0_3]),(200001,.vec 200001 (.nam 7) y1)]
theorem mE{N:Nat}(y0_0:List UInt8)(y0_1:Int)(y0_2:Int)(y0_3:Nat)(y1:List Vstep){r:PR aj}(h:cW N y0_0 y0_1 y0_2 y0_3 y1=some r)(ρ:Rn)(hi:Inj ρ (Ac y0_0 y0_1 y0_2 y0_3 y1)):aE Try.prog 69 ((FW y0_0 y0_1 y0_2 y0_3 y1).map (TV.to EE.toEnc ρ)) (hTo EE.toEnc ρ (Ac y0_0 y0_1 y0_2 y0_3 y1)) (cx EE ρ fun u=>u=gU r):=
 dO (aa 0 Try.f69) 57 mixed (KW N) Try.func69 (by kernel_rfl) rfl rfl rfl rfl (Mu y0_0 y0_1 y0_2 y0_3 y1 h) ρ hi
def iY(N:Nat)(us:List (TV EE.T))(hs:List (Nat × TB EE.T)):XR EE.T:=
 gdX (eT us 1) <|
 bnX (aB us 0) fun i0=>
 bnX (bC hs i0) fun l0=>
 gdX (eT l0 4) <|
 bnX (cD .str l0 0) fun y0_0=>
 bnX (cD (.int .i64) l0 1) fun y0_1=>
 bnX (cD (.int .i64) l0 2) fun y0_2=>
 bnX (cVi (.nam 7) l0 3) fun i1=>
 bnX (cVn (.nam 7) l0 3) fun y0_3=>
 bnX (bV (.nam 7) hs i1) fun y1=>
 gdX (bA hs [i0,i1]) <|
 gdX (i4 [i0,i1]) <|
 .mv (cW N y0_0 y0_1 y0_2 y0_3 y1) [i0,i1] (mvL [i0,i1] [100000,200001]) 0 (eC i0 i1) (uT i0 i1)
theorem lL(N:Nat):XOk Try.prog EE 69 (iY N):=fun us hs=>
 aJ fun h1=>ak fun i0 h2=>ak fun l0 h3=>aJ fun h4=>ak fun y0_0 h5=>ak fun y0_1 h6=>ak fun y0_2 h7=>ak fun i1 h8=>ak fun y0_3 h9=>ak fun y1 h10=>aJ fun h11=>aJ fun h12=>fun p hz ρ hi=>gQ (ex:=[]) (ks:=[100000,200001]) (us':=FW y0_0 y0_1 y0_2 y0_3 y1) (h0:=Ac y0_0 y0_1 y0_2 y0_3 y1) (ρ':=jT ρ [i0,i1]) (uc:=eC 100000 200001) (u:=eC i0 i1) (hc:=uT 100000 200001) (h:=uT i0 i1) hi h11 (by kernel_rfl) ⟨gJ h2 (by kernel_rfl),bU h1⟩ ⟨(by kernel_rfl),mD h3 ⟨dG h5,dG h6,dG h7,ji h8 h9 (by kernel_rfl),bU h4⟩,(by kernel_rfl),kY h10 (by kernel_rfl),trivial⟩ ⟨.inr rfl,.inl rfl,trivial⟩ h12 (fun hj=>mE y0_0 y0_1 y0_2 y0_3 y1 hz _ hj) (fun z=>⟨by kernel_rfl,by kernel_rfl,by kernel_rfl,by kernel_rfl⟩)
def cn(i0:Nat)(r:aL):TV EE.T:=.a (.d (.sl (.nam 7)) r.1)
def uS(i0:Nat)(r:aL):List (Nat × TB EE.T):=[(i0,.vec i0 (.nam 7) r.2)]
def o6(r:PR aL):RL EE.T:=pa (cn 100000) (uS 100000) r
def N6:Lvs:=⟨[],[],[],[],false,[],[100000],[],[]⟩
def M3:List ResultVar:=[.tmp 2]
def Lu(N:Nat):Gam EE:=⟨[],EQT,[],[]⟩
theorem Ki(N:Nat):GOk Try.prog TT EE (Lu N):=GOk.nil cN
def Me(c:Code):List It2:=[.c c]
def Ml(x0_o:Nat)(x0_n:Nat)(y0:List Vstep):TS EE.T:=⟨8,[(0,.a (.vsl (.nam 7) 100000 x0_o x0_n))],[(100000,.vec 100000 (.nam 7) y0)],[]⟩
abbrev MV(N:Nat)(r:PR aL)(k:List It2)(s:TS EE.T):Prop:=fa (Y:=TT) EE (Lu N) N6 M3 (fun u=>u=o6 r) k s
def Gw(x:PR aL):Tree (Lf EE.T × Option (PR aL)):=.leaf (.done (o6 x),some x)
theorem J5{N:Nat}{r:PR aL}(x0_o:Nat)(x0_n:Nat)(y0:List Vstep)(h:bx N x0_o x0_n y0=some r):MV N r (Me (aa 0 Try.f63)) (Ml x0_o x0_n y0):=
 av (m:=4000) (t:=
 .nl ((List.drop x0_o y0).take x0_n)
 (
  Gw (.ok (([] :List Vstep),y0)))
 (
  .bnd (Cv x0_o x0_n y0) fun z1=>
  .bnd (g9 32 ([] :List Vstep) z1) fun z2=>
  Gw (.ok (z2,y0)))) (by kernel_rfl) (by kernel_rfl) h (⟨fun e _ h=>QO e h,aO (enc:=o6) rfl,fun _=>fun _=>aO (enc:=o6) rfl⟩)
def Fu(x0_o:Nat)(x0_n:Nat)(y0:List Vstep):List (TV EE.T):=[.a (.vsl (.nam 7) 100000 x0_o x0_n)]
def A6(x0_o:Nat)(x0_n:Nat)(y0:List Vstep):List (Nat × TB EE.T):=[(100000,.vec 100000 (.nam 7) y0)]
theorem gd{N:Nat}(x0_o:Nat)(x0_n:Nat)(y0:List Vstep){r:PR aL}(h:bx N x0_o x0_n y0=some r)(ρ:Rn)(hi:Inj ρ (A6 x0_o x0_n y0)):aE Try.prog 63 ((Fu x0_o x0_n y0).map (TV.to EE.toEnc ρ)) (hTo EE.toEnc ρ (A6 x0_o x0_n y0)) (cx EE ρ fun u=>u=o6 r):=
 dO (aa 0 Try.f63) 8 mixed (Ki N) Try.func63 (by kernel_rfl) rfl rfl rfl rfl (J5 x0_o x0_n y0 h) ρ hi
def d9(N:Nat)(us:List (TV EE.T))(hs:List (Nat × TB EE.T)):XR EE.T:=
 gdX (eT us 1) <|
 bnX (aUi (.nam 7) us 0) fun i0=>
 bnX (aUo (.nam 7) us 0) fun x0_o=>
 bnX (aUn (.nam 7) us 0) fun x0_n=>
 bnX (bV (.nam 7) hs i0) fun y0=>
 gdX (bA hs [i0]) <|
 gdX (i4 [i0]) <|
 .mv (bx N x0_o x0_n y0) [i0] (mvL [i0] [100000]) 0 (cn i0) (uS i0)
theorem fW(N:Nat):XOk Try.prog EE 63 (d9 N):=fun us hs=>
 aJ fun h1=>ak fun i0 h2=>ak fun x0_o h3=>ak fun x0_n h4=>ak fun y0 h5=>aJ fun h6=>aJ fun h7=>fun p hz ρ hi=>gQ (ex:=[]) (ks:=[100000]) (us':=Fu x0_o x0_n y0) (h0:=A6 x0_o x0_n y0) (ρ':=jT ρ [i0]) (uc:=cn 100000) (u:=cn i0) (hc:=uS 100000) (h:=uS i0) hi h6 (by kernel_rfl) ⟨SG h2 h3 h4 (by kernel_rfl),bU h1⟩ ⟨(by kernel_rfl),kY h5 (by kernel_rfl),trivial⟩ ⟨.inr rfl,trivial⟩ h7 (fun hj=>gd x0_o x0_n y0 hz _ hj) (fun z=>⟨by kernel_rfl,by kernel_rfl,by kernel_rfl,by kernel_rfl⟩)
def eE(i0:Nat)(i1:Nat)(r:bX):TV EE.T:=.a (.d (.sl (.nam 7)) r.1)
def uK(i0:Nat)(i1:Nat)(r:bX):List (Nat × TB EE.T):=[(i0,.cs [.d .str r.2.1,.d (.int .i64) r.2.2.1,.d (.int .i64) r.2.2.2.1,.vec (.nam 7) i1 r.2.2.2.2.1]),(i1,.vec i1 (.nam 7) r.2.2.2.2.2)]
def nS(r:PR bX):RL EE.T:=pa (eE 100000 200001) (uK 100000 200001) r
def MM:Lvs:=⟨[],[],[],[],false,[(100000,(none,[]))],[100000,200001],[],[(19,200001)]⟩
def OE:List ResultVar:=[.tmp 4]
def JY(N:Nat):Gam EE:=⟨[],EQT,[⟨63,d9 N⟩],[]⟩
theorem Jh(N:Nat):GOk Try.prog TT EE (JY N):=GOk.consx (fW N) (GOk.nil cN)
def MC(c:Code):List It2:=[.c c]
def Ib(x1:Int)(y0_0:List UInt8)(y0_1:Int)(y0_2:Int)(y0_3:Nat)(y1:List Vstep):TS EE.T:=⟨23,[(0,.a (.box 100000 0)),(1,.a (.d (.int .i64) x1))],[(100000,.cs [.d .str y0_0,.d (.int .i64) y0_1,.d (.int .i64) y0_2,.vec (.nam 7) 200001 y0_3]),(200001,.vec 200001 (.nam 7) y1)],[]⟩
abbrev Nr(N:Nat)(r:PR bX)(k:List It2)(s:TS EE.T):Prop:=fa (Y:=TT) EE (JY N) MM OE (fun u=>u=nS r) k s
def Gy(x:PR bX):Tree (Lf EE.T × Option (PR bX)):=.leaf (.done (nS x),some x)
theorem IU{N:Nat}{r:PR bX}(x1:Int)(y0_0:List UInt8)(y0_1:Int)(y0_2:Int)(y0_3:Nat)(y1:List Vstep)(h:ca N x1 y0_0 y0_1 y0_2 y0_3 y1=some r):Nr N r (MC (aa 0 Try.f51)) (Ib x1 y0_0 y0_1 y0_2 y0_3 y1):=
 av (m:=4000) (t:=
 .bnd (Bo y0_3 x1 (y0_3:Int)) fun z1=>
 .bnd (bx N z1.1 (y0_3 - z1.1) y1) fun z2=>
 .sm z2 (fun z3=>
  .bnd (Ex y0_3 z3.2 x1) fun z4=>
  Gy (.ok (z3.1,y0_0,y0_1,y0_2,z4.length,z4))) (fun vz2=>
  Gy (.pan vz2))) (by kernel_rfl) (by kernel_rfl) h (fun _=>fun _=>⟨fun _=>fun _=>aO (enc:=nS) rfl,fun _=>aO (enc:=nS) rfl⟩)
def F8(x1:Int)(y0_0:List UInt8)(y0_1:Int)(y0_2:Int)(y0_3:Nat)(y1:List Vstep):List (TV EE.T):=[.a (.box 100000 0),.a (.d (.int .i64) x1)]
def Bg(x1:Int)(y0_0:List UInt8)(y0_1:Int)(y0_2:Int)(y0_3:Nat)(y1:List Vstep):List (Nat × TB EE.T):=[(100000,.cs [.d .str y0_0,.d (.int .i64) y0_1,.d (.int .i64) y0_2,.vec (.nam 7) 200001 y0_3]),(200001,.vec 200001 (.nam 7) y1)]
theorem mC{N:Nat}(x1:Int)(y0_0:List UInt8)(y0_1:Int)(y0_2:Int)(y0_3:Nat)(y1:List Vstep){r:PR bX}(h:ca N x1 y0_0 y0_1 y0_2 y0_3 y1=some r)(ρ:Rn)(hi:Inj ρ (Bg x1 y0_0 y0_1 y0_2 y0_3 y1)):aE Try.prog 51 ((F8 x1 y0_0 y0_1 y0_2 y0_3 y1).map (TV.to EE.toEnc ρ)) (hTo EE.toEnc ρ (Bg x1 y0_0 y0_1 y0_2 y0_3 y1)) (cx EE ρ fun u=>u=nS r):=
 dO (aa 0 Try.f51) 23 mixed (Jh N) Try.func51 (by kernel_rfl) rfl rfl rfl rfl (IU x1 y0_0 y0_1 y0_2 y0_3 y1 h) ρ hi
def fF(N:Nat)(us:List (TV EE.T))(hs:List (Nat × TB EE.T)):XR EE.T:=
 gdX (eT us 2) <|
 bnX (aB us 0) fun i0=>
 bnX (aD (.int .i64) us 1) fun x1=>
 bnX (bC hs i0) fun l0=>
 gdX (eT l0 4) <|
 bnX (cD .str l0 0) fun y0_0=>
 bnX (cD (.int .i64) l0 1) fun y0_1=>
 bnX (cD (.int .i64) l0 2) fun y0_2=>
 bnX (cVi (.nam 7) l0 3) fun i1=>
 bnX (cVn (.nam 7) l0 3) fun y0_3=>
 bnX (bV (.nam 7) hs i1) fun y1=>
 gdX (bA hs [i0,i1]) <|
 gdX (i4 [i0,i1]) <|
 .mv (ca N x1 y0_0 y0_1 y0_2 y0_3 y1) [i0,i1] (mvL [i0,i1] [100000,200001]) 0 (eE i0 i1) (uK i0 i1)
theorem gV(N:Nat):XOk Try.prog EE 51 (fF N):=fun us hs=>
 aJ fun h1=>ak fun i0 h2=>ak fun x1 h3=>ak fun l0 h4=>aJ fun h5=>ak fun y0_0 h6=>ak fun y0_1 h7=>ak fun y0_2 h8=>ak fun i1 h9=>ak fun y0_3 h10=>ak fun y1 h11=>aJ fun h12=>aJ fun h13=>fun p hz ρ hi=>gQ (ex:=[]) (ks:=[100000,200001]) (us':=F8 x1 y0_0 y0_1 y0_2 y0_3 y1) (h0:=Bg x1 y0_0 y0_1 y0_2 y0_3 y1) (ρ':=jT ρ [i0,i1]) (uc:=eE 100000 200001) (u:=eE i0 i1) (hc:=uK 100000 200001) (h:=uK i0 i1) hi h12 (by kernel_rfl) ⟨gJ h2 (by kernel_rfl),ja h3,bU h1⟩ ⟨(by kernel_rfl),mD h4 ⟨dG h6,dG h7,dG h8,ji h9 h10 (by kernel_rfl),bU h5⟩,(by kernel_rfl),kY h11 (by kernel_rfl),trivial⟩ ⟨.inr rfl,.inl rfl,trivial⟩ h13 (fun hj=>mC x1 y0_0 y0_1 y0_2 y0_3 y1 hz _ hj) (fun z=>⟨by kernel_rfl,by kernel_rfl,by kernel_rfl,by kernel_rfl⟩)
def eF(i0:Nat)(i1:Nat)(r:aC):TV EE.T:=.tu []
def vd(i0:Nat)(i1:Nat)(r:aC):List (Nat × TB EE.T):=[(i0,.cs [.d .str r.1,.d (.int .i64) r.2.1,.d (.int .i64) r.2.2.1,.vec (.nam 7) i1 r.2.2.2.1]),(i1,.vec i1 (.nam 7) r.2.2.2.2)]
def nU(r:PR aC):RL EE.T:=pa (eF 100000 200001) (vd 100000 200001) r
def Of:Lvs:=⟨[(9,⟨[(0,false),(6,false),(8,false),(16,false),(17,false),(18,false)],[],[(8,(some 7,[])),(100000,(none,[])),(200001,(none,[]))],[]⟩)],[(2,⟨[(0,false),(6,false),(16,false),(17,false),(18,false)],[],[(100000,(none,[])),(200001,(none,[]))],[]⟩)],[9],[],false,[(100000,(none,[]))],[100000,200001],[],[]⟩
def MO:List ResultVar:=[]
def KP(N:Nat):Gam EE:=⟨[],EQT,[⟨36,dL N⟩],[]⟩
theorem H7(N:Nat):GOk Try.prog TT EE (KP N):=GOk.consx (dY N) (GOk.nil cN)
def Ei(c:Code):List It2:=atR 9 c
def B0(x6:Int)(x16:List Vstep)(x17:Int)(x18:Int)(b8:Vstep)(Tf:List UInt8)(Td:Int)(Te:Int)(Tb:Nat)(Tg:List Vstep):TS EE.T:=⟨47,[(0,.a (.box 100000 0)),(6,.a (.d (.int .i64) x6)),(8,.a (.box 8 0)),(16,.a (.d (.sl (.nam 7)) x16)),(17,.a (.d (.int .i64) x17)),(18,.a (.d (.int .i64) x18))],[(8,.cs (cv EE (.nam 7) b8)),(100000,.cs [.d .str Tf,.d (.int .i64) Td,.d (.int .i64) Te,.vec (.nam 7) 200001 Tb]),(200001,.vec 200001 (.nam 7) Tg)],[]⟩
def wB(c:Code):List It2:=atL 2 c
def wW(x6:Int)(x16:List Vstep)(x17:Int)(x18:Int)(Tf:List UInt8)(Td:Int)(Te:Int)(Tb:Nat)(Tg:List Vstep):TS EE.T:=⟨47,[(0,.a (.box 100000 0)),(6,.a (.d (.int .i64) x6)),(16,.a (.d (.sl (.nam 7)) x16)),(17,.a (.d (.int .i64) x17)),(18,.a (.d (.int .i64) x18))],[(100000,.cs [.d .str Tf,.d (.int .i64) Td,.d (.int .i64) Te,.vec (.nam 7) 200001 Tb]),(200001,.vec 200001 (.nam 7) Tg)],[]⟩
def J7(c:Code):List It2:=[.c c]
def K5(x1:List Vstep)(x2:Int)(y0_0:List UInt8)(y0_1:Int)(y0_2:Int)(y0_3:Nat)(y1:List Vstep):TS EE.T:=⟨47,[(0,.a (.box 100000 0)),(1,.a (.d (.sl (.nam 7)) x1)),(2,.a (.d (.int .i64) x2))],[(100000,.cs [.d .str y0_0,.d (.int .i64) y0_1,.d (.int .i64) y0_2,.vec (.nam 7) 200001 y0_3]),(200001,.vec 200001 (.nam 7) y1)],[]⟩
def vJ(c:Code)(f:Int→(List Vstep)→Int→Int→Vstep→(List UInt8)→Int→Int→Nat→(List Vstep)→Option (PR aC))(x6:Int)(x16:List Vstep)(x17:Int)(x18:Int)(b8:Vstep)(Tf:List UInt8)(Td:Int)(Te:Int)(Tb:Nat)(Tg:List Vstep):Tree (Lf EE.T × Option (PR aC)):=.leaf (.go (Ei c) (B0 x6 x16 x17 x18 b8 Tf Td Te Tb Tg),f x6 x16 x17 x18 b8 Tf Td Te Tb Tg)
def Ck(c:Code)(f:Int→(List Vstep)→Int→Int→(List UInt8)→Int→Int→Nat→(List Vstep)→Option (PR aC))(x6:Int)(x16:List Vstep)(x17:Int)(x18:Int)(Tf:List UInt8)(Td:Int)(Te:Int)(Tb:Nat)(Tg:List Vstep):Tree (Lf EE.T × Option (PR aC)):=.leaf (.go (wB c) (wW x6 x16 x17 x18 Tf Td Te Tb Tg),f x6 x16 x17 x18 Tf Td Te Tb Tg)
abbrev uQ(N:Nat)(r:PR aC)(k:List It2)(s:TS EE.T):Prop:=fa (Y:=TT) EE (KP N) Of MO (fun u=>u=nU r) k s
def FI(x:PR aC):Tree (Lf EE.T × Option (PR aC)):=.leaf (.done (nU x),some x)
theorem wn{N:Nat}{r:PR aC}{k2:Int→(List Vstep)→Int→Int→(List UInt8)→Int→Int→Nat→(List Vstep)→Option (PR aC)}(hk2:∀x6 x16 x17 x18 Tf Td Te Tb Tg,k2 x6 x16 x17 x18 Tf Td Te Tb Tg=some r→uQ N r (wB (aa 0 Try.f52)) (wW x6 x16 x17 x18 Tf Td Te Tb Tg))(n:Nat)(x6:Int)(x16:List Vstep)(x17:Int)(x18:Int)(b8:Vstep)(Tf:List UInt8)(Td:Int)(Te:Int)(Tb:Nat)(Tg:List Vstep)(h:bP N k2 n x6 x16 x17 x18 b8 Tf Td Te Tb Tg=some r):uQ N r (Ei (aa 0 Try.f52)) (B0 x6 x16 x17 x18 b8 Tf Td Te Tb Tg):=
 av (m:=4000) (t:=
 .bnd (ap N b8 Tf Td Te Tb Tg) fun z2=>
 .sm z2 (fun z3=>
  Ck (aa 0 Try.f52) k2 x6 x16 x17 (w64 (x18+1)) z3.2.1 z3.2.2.1 z3.2.2.2.1 z3.2.2.2.2.1 z3.2.2.2.2.2) (fun vz2=>
  FI (.pan vz2))) (by kernel_rfl) (by kernel_rfl) h (fun _=>⟨fun _=>fun h=>hk2 _ _ _ _ _ _ _ _ _ h,fun _=>aO (enc:=nU) rfl⟩)
theorem rZ{N:Nat}{r:PR aC}:∀ (n:Nat) (x6:Int) (x16:List Vstep) (x17:Int) (x18:Int) (Tf:List UInt8) (Td:Int) (Te:Int) (Tb:Nat) (Tg:List Vstep),ba N n x6 x16 x17 x18 Tf Td Te Tb Tg=some r→uQ N r (wB (aa 0 Try.f52)) (wW x6 x16 x17 x18 Tf Td Te Tb Tg)
 |0,_,_,_,_,_,_,_,_,_,h=>by cases h
 |n+1,x6,x16,x17,x18,Tf,Td,Te,Tb,Tg,h=>av (m:=4000) (t:=
  .cond (decide (x18 < x17))
  (
   .bnd (cg x16 x18) fun z1=>
   .cond (z1.kind==1)
   (
    vJ (aa 0 Try.f52) (bP N (ba N n) n) x6 x16 x17 x18 ({ kind:=z1.kind,a:=w64 (z1.a+x6),b:=w64 (z1.b+x6),set_:=z1.set_ }:Vstep) Tf Td Te Tb Tg)
   (
    .cond (z1.kind==2)
    (
     vJ (aa 0 Try.f52) (bP N (ba N n) n) x6 x16 x17 x18 ({ kind:=z1.kind,a:=w64 (z1.a+x6),b:=z1.b,set_:=z1.set_ }:Vstep) Tf Td Te Tb Tg)
    (
     vJ (aa 0 Try.f52) (bP N (ba N n) n) x6 x16 x17 x18 z1 Tf Td Te Tb Tg)))
  (
   FI (.ok (Tf,Td,Te,Tb,Tg)))) (by kernel_rfl) (by kernel_rfl) h (⟨fun _=>⟨fun h=>wn (rZ n) n _ _ _ _ _ _ _ _ _ _ h,⟨fun h=>wn (rZ n) n _ _ _ _ _ _ _ _ _ _ h,fun h=>wn (rZ n) n _ _ _ _ _ _ _ _ _ _ h⟩⟩,aO (enc:=nU) rfl⟩)
theorem JS{N:Nat}{r:PR aC}(x1:List Vstep)(x2:Int)(y0_0:List UInt8)(y0_1:Int)(y0_2:Int)(y0_3:Nat)(y1:List Vstep)(h:bi N x1 x2 y0_0 y0_1 y0_2 y0_3 y1=some r):uQ N r (J7 (aa 0 Try.f52)) (K5 x1 x2 y0_0 y0_1 y0_2 y0_3 y1):=
 av (m:=4000) (t:=
 Ck (aa 0 Try.f52) (ba N N) (w64 ((y0_3:Int) - x2)) x1 (x1.length:Int) 0 y0_0 y0_1 y0_2 y0_3 y1) (by kernel_rfl) (by kernel_rfl) h (fun h=>rZ N _ _ _ _ _ _ _ _ _ h)
def GI(x1:List Vstep)(x2:Int)(y0_0:List UInt8)(y0_1:Int)(y0_2:Int)(y0_3:Nat)(y1:List Vstep):List (TV EE.T):=[.a (.box 100000 0),.a (.d (.sl (.nam 7)) x1),.a (.d (.int .i64) x2)]
def Bh(x1:List Vstep)(x2:Int)(y0_0:List UInt8)(y0_1:Int)(y0_2:Int)(y0_3:Nat)(y1:List Vstep):List (Nat × TB EE.T):=[(100000,.cs [.d .str y0_0,.d (.int .i64) y0_1,.d (.int .i64) y0_2,.vec (.nam 7) 200001 y0_3]),(200001,.vec 200001 (.nam 7) y1)]
theorem mm{N:Nat}(x1:List Vstep)(x2:Int)(y0_0:List UInt8)(y0_1:Int)(y0_2:Int)(y0_3:Nat)(y1:List Vstep){r:PR aC}(h:bi N x1 x2 y0_0 y0_1 y0_2 y0_3 y1=some r)(ρ:Rn)(hi:Inj ρ (Bh x1 x2 y0_0 y0_1 y0_2 y0_3 y1)):aE Try.prog 52 ((GI x1 x2 y0_0 y0_1 y0_2 y0_3 y1).map (TV.to EE.toEnc ρ)) (hTo EE.toEnc ρ (Bh x1 x2 y0_0 y0_1 y0_2 y0_3 y1)) (cx EE ρ fun u=>u=nU r):=
 dO (aa 0 Try.f52) 47 mixed (H7 N) Try.func52 (by kernel_rfl) rfl rfl rfl rfl (JS x1 x2 y0_0 y0_1 y0_2 y0_3 y1 h) ρ hi
def fG(N:Nat)(us:List (TV EE.T))(hs:List (Nat × TB EE.T)):XR EE.T:=
 gdX (eT us 3) <|
 bnX (aB us 0) fun i0=>
 bnX (aD (.sl (.nam 7)) us 1) fun x1=>
 bnX (aD (.int .i64) us 2) fun x2=>
 bnX (bC hs i0) fun l0=>
 gdX (eT l0 4) <|
 bnX (cD .str l0 0) fun y0_0=>
 bnX (cD (.int .i64) l0 1) fun y0_1=>
 bnX (cD (.int .i64) l0 2) fun y0_2=>
 bnX (cVi (.nam 7) l0 3) fun i1=>
 bnX (cVn (.nam 7) l0 3) fun y0_3=>
 bnX (bV (.nam 7) hs i1) fun y1=>
 gdX (bA hs [i0,i1]) <|
 gdX (i4 [i0,i1]) <|
 .mv (bi N x1 x2 y0_0 y0_1 y0_2 y0_3 y1) [i0,i1] (mvL [i0,i1] [100000,200001]) 0 (eF i0 i1) (vd i0 i1)
theorem hQ(N:Nat):XOk Try.prog EE 52 (fG N):=fun us hs=>
 aJ fun h1=>ak fun i0 h2=>ak fun x1 h3=>ak fun x2 h4=>ak fun l0 h5=>aJ fun h6=>ak fun y0_0 h7=>ak fun y0_1 h8=>ak fun y0_2 h9=>ak fun i1 h10=>ak fun y0_3 h11=>ak fun y1 h12=>aJ fun h13=>aJ fun h14=>fun p hz ρ hi=>gQ (ex:=[]) (ks:=[100000,200001]) (us':=GI x1 x2 y0_0 y0_1 y0_2 y0_3 y1) (h0:=Bh x1 x2 y0_0 y0_1 y0_2 y0_3 y1) (ρ':=jT ρ [i0,i1]) (uc:=eF 100000 200001) (u:=eF i0 i1) (hc:=vd 100000 200001) (h:=vd i0 i1) hi h13 (by kernel_rfl) ⟨gJ h2 (by kernel_rfl),ja h3,ja h4,bU h1⟩ ⟨(by kernel_rfl),mD h5 ⟨dG h7,dG h8,dG h9,ji h10 h11 (by kernel_rfl),bU h6⟩,(by kernel_rfl),kY h12 (by kernel_rfl),trivial⟩ ⟨.inr rfl,.inl rfl,trivial⟩ h14 (fun hj=>mm x1 x2 y0_0 y0_1 y0_2 y0_3 y1 hz _ hj) (fun z=>⟨by kernel_rfl,by kernel_rfl,by kernel_rfl,by kernel_rfl⟩)
def ns(i0:Nat)(i1:Nat)(r:Bool × (List UInt8) × Int × Int × Nat × (List Vstep)):TV EE.T:=.a (.d .bool r.1)
def mF(i0:Nat)(i1:Nat)(r:Bool × (List UInt8) × Int × Int × Nat × (List Vstep)):List (Nat × TB EE.T):=[(i0,.cs [.d .str r.2.1,.d (.int .i64) r.2.2.1,.d (.int .i64) r.2.2.2.1,.vec (.nam 7) i1 r.2.2.2.2.1]),(i1,.vec i1 (.nam 7) r.2.2.2.2.2)]
def eD(N:RecC)(us:List (TV EE.T))(hs:List (Nat × TB EE.T)):XR EE.T:=
 gdX (eT us 1) <|
 bnX (aB us 0) fun i0=>
 bnX (bC hs i0) fun l0=>
 gdX (eT l0 4) <|
 bnX (cD .str l0 0) fun y0_0=>
 bnX (cD (.int .i64) l0 1) fun y0_1=>
 bnX (cD (.int .i64) l0 2) fun y0_2=>
 bnX (cVi (.nam 7) l0 3) fun i1=>
 bnX (cVn (.nam 7) l0 3) fun y0_3=>
 bnX (bV (.nam 7) hs i1) fun y1=>
 gdX (bA hs [i0,i1]) <|
 gdX (i4 [i0,i1]) <|
 .mv (dC N y0_0 y0_1 y0_2 y0_3 y1) [i0,i1] (mvL [i0,i1] [100000,200001]) 0 (ns i0 i1) (mF i0 i1)
def i8(N:RecC):Prop:=XOk Try.prog EE 34 (eD N)
theorem gY(N:RecC)(hN:i8 N):XOk Try.prog EE 34 (eD N):=hN
theorem LR(n:Nat):i8 ⟨n,fun _ _ _ _ _=>none⟩:=fun us hs=>
 aJ fun h1=>ak fun i0 h2=>ak fun l0 h3=>aJ fun h4=>ak fun y0_0 h5=>ak fun y0_1 h6=>ak fun y0_2 h7=>ak fun i1 h8=>ak fun y0_3 h9=>ak fun y1 h10=>aJ fun h11=>aJ fun h12=>fun p hz=>by cases hz
def ek(i0:Nat)(i1:Nat)(r:am):TV EE.T:=.a (.d .bool r.1)
def uL(i0:Nat)(i1:Nat)(r:am):List (Nat × TB EE.T):=[(i0,.cs [.d .str r.2.1,.d (.int .i64) r.2.2.1,.d (.int .i64) r.2.2.2.1,.vec (.nam 7) i1 r.2.2.2.2.1]),(i1,.vec i1 (.nam 7) r.2.2.2.2.2)]
def cK(r:PR am):RL EE.T:=pa (ek 100000 200001) (uL 100000 200001) r
def Na:Lvs:=⟨[(1,⟨[(0,false)],[],[(100000,(none,[])),(200001,(none,[]))],[]⟩),(5,⟨[(0,false),(3,false)],[],[(100000,(none,[])),(200001,(none,[]))],[]⟩),(20,⟨[(0,false),(6,false),(7,false),(8,false)],[],[(100000,(none,[])),(200001,(none,[]))],[]⟩),(21,⟨[(0,false),(6,false)],[],[(100000,(none,[])),(200001,(none,[]))],[]⟩),(30,⟨[(0,false)],[],[(100000,(none,[])),(200001,(none,[]))],[]⟩)],[(11,⟨[(0,false),(4,false),(51,false)],[],[(4,(none,[])),(100000,(none,[])),(200001,(none,[]))],[]⟩)],[5,20,21,30],[],false,[(100000,(none,[]))],[100000,200001],[(15,[.cl 4 (.a 256) (.s 4)])],[]⟩
def OO:List ResultVar:=[.tmp 2]
def Kh(N:RecC):Gam EE:=⟨[⟨68,rf N.n⟩,⟨46,eu N.n⟩],EQT,[⟨36,dL N.n⟩,⟨69,iY N.n⟩,⟨50,eK N.n⟩,⟨34,eD N⟩,⟨61,cU N.n⟩,⟨35,dx N.n⟩],[]⟩
theorem KL(N:RecC)(hN:i8 N):GOk Try.prog TT EE (Kh N):=GOk.cons (A4 N.n) (GOk.cons (fX N.n) (GOk.consx (dY N.n) (GOk.consx (lL N.n) (GOk.consx (eY N.n) (GOk.consx (gY N hN) (GOk.consx (dc N.n) (GOk.consx (dQ N.n) (GOk.nil cN))))))))
def yd(c:Code):List It2:=atL 11 c
def za(x51:Int)(b4:List Bool)(Tf:List UInt8)(Td:Int)(Te:Int)(Tb:Nat)(Tg:List Vstep):TS EE.T:=⟨187,[(0,.a (.box 100000 0)),(4,.a (.box 4 0)),(51,.a (.d (.int .i64) x51))],[(4,.row .bool b4),(100000,.cs [.d .str Tf,.d (.int .i64) Td,.d (.int .i64) Te,.vec (.nam 7) 200001 Tb]),(200001,.vec 200001 (.nam 7) Tg)],[]⟩
def yj(c:Code):List It2:=atR 21 c
def yS(x6:UInt8)(Tf:List UInt8)(Td:Int)(Te:Int)(Tb:Nat)(Tg:List Vstep):TS EE.T:=⟨187,[(0,.a (.box 100000 0)),(6,.a (.d .byte x6))],[(100000,.cs [.d .str Tf,.d (.int .i64) Td,.d (.int .i64) Te,.vec (.nam 7) 200001 Tb]),(200001,.vec 200001 (.nam 7) Tg)],[]⟩
def zG(c:Code):List It2:=atR 20 c
def zn(x6:UInt8)(x7:Bool)(x8:Bool)(Tf:List UInt8)(Td:Int)(Te:Int)(Tb:Nat)(Tg:List Vstep):TS EE.T:=⟨187,[(0,.a (.box 100000 0)),(6,.a (.d .byte x6)),(7,.a (.d .bool x7)),(8,.a (.d .bool x8))],[(100000,.cs [.d .str Tf,.d (.int .i64) Td,.d (.int .i64) Te,.vec (.nam 7) 200001 Tb]),(200001,.vec 200001 (.nam 7) Tg)],[]⟩
def yM(c:Code):List It2:=atR 30 c
def zZ(Tf:List UInt8)(Td:Int)(Te:Int)(Tb:Nat)(Tg:List Vstep):TS EE.T:=⟨187,[(0,.a (.box 100000 0))],[(100000,.cs [.d .str Tf,.d (.int .i64) Td,.d (.int .i64) Te,.vec (.nam 7) 200001 Tb]),(200001,.vec 200001 (.nam 7) Tg)],[]⟩
def De(c:Code):List It2:=atR 5 c
def Eb(x3:UInt8)(Tf:List UInt8)(Td:Int)(Te:Int)(Tb:Nat)(Tg:List Vstep):TS EE.T:=⟨187,[(0,.a (.box 100000 0)),(3,.a (.d .byte x3))],[(100000,.cs [.d .str Tf,.d (.int .i64) Td,.d (.int .i64) Te,.vec (.nam 7) 200001 Tb]),(200001,.vec 200001 (.nam 7) Tg)],[]⟩
def JR(c:Code):List It2:=[.c c]
def J0(y0_0:List UInt8)(y0_1:Int)(y0_2:Int)(y0_3:Nat)(y1:List Vstep):TS EE.T:=⟨187,[(0,.a (.box 100000 0))],[(100000,.cs [.d .str y0_0,.d (.int .i64) y0_1,.d (.int .i64) y0_2,.vec (.nam 7) 200001 y0_3]),(200001,.vec 200001 (.nam 7) y1)],[]⟩
def yA(c:Code)(f:Int→(List Bool)→(List UInt8)→Int→Int→Nat→(List Vstep)→Option (PR am))(x51:Int)(b4:List Bool)(Tf:List UInt8)(Td:Int)(Te:Int)(Tb:Nat)(Tg:List Vstep):Tree (Lf EE.T × Option (PR am)):=.leaf (.go (yd c) (za x51 b4 Tf Td Te Tb Tg),f x51 b4 Tf Td Te Tb Tg)
def zh(c:Code)(f:UInt8→(List UInt8)→Int→Int→Nat→(List Vstep)→Option (PR am))(x6:UInt8)(Tf:List UInt8)(Td:Int)(Te:Int)(Tb:Nat)(Tg:List Vstep):Tree (Lf EE.T × Option (PR am)):=.leaf (.go (yj c) (yS x6 Tf Td Te Tb Tg),f x6 Tf Td Te Tb Tg)
def fo(c:Code)(f:UInt8→Bool→Bool→(List UInt8)→Int→Int→Nat→(List Vstep)→Option (PR am))(x6:UInt8)(x7:Bool)(x8:Bool)(Tf:List UInt8)(Td:Int)(Te:Int)(Tb:Nat)(Tg:List Vstep):Tree (Lf EE.T × Option (PR am)):=.leaf (.go (zG c) (zn x6 x7 x8 Tf Td Te Tb Tg),f x6 x7 x8 Tf Td Te Tb Tg)
def zu(c:Code)(f:(List UInt8)→Int→Int→Nat→(List Vstep)→Option (PR am))(Tf:List UInt8)(Td:Int)(Te:Int)(Tb:Nat)(Tg:List Vstep):Tree (Lf EE.T × Option (PR am)):=.leaf (.go (yM c) (zZ Tf Td Te Tb Tg),f Tf Td Te Tb Tg)
def CF(c:Code)(f:UInt8→(List UInt8)→Int→Int→Nat→(List Vstep)→Option (PR am))(x3:UInt8)(Tf:List UInt8)(Td:Int)(Te:Int)(Tb:Nat)(Tg:List Vstep):Tree (Lf EE.T × Option (PR am)):=.leaf (.go (De c) (Eb x3 Tf Td Te Tb Tg),f x3 Tf Td Te Tb Tg)
abbrev pG(N:RecC)(r:PR am)(k:List It2)(s:TS EE.T):Prop:=fa (Y:=TT) EE (Kh N) Na OO (fun u=>u=cK r) k s
def dR(x:PR am):Tree (Lf EE.T × Option (PR am)):=.leaf (.done (cK x),some x)
theorem zJ{N:RecC}{r:PR am}:∀ (n:Nat) (x51:Int) (b4:List Bool) (Tf:List UInt8) (Td:Int) (Te:Int) (Tb:Nat) (Tg:List Vstep),cj N n x51 b4 Tf Td Te Tb Tg=some r→pG N r (yd (aa 0 Try.f67)) (za x51 b4 Tf Td Te Tb Tg)
 |0,_,_,_,_,_,_,_,h=>by cases h
 |n+1,x51,b4,Tf,Td,Te,Tb,Tg,h=>av (m:=4000) (t:=
  .cond (decide (x51 < 256))
  (
   .bnd (dg 256 x51) fun z13=>
   .bnd (gW b4 (0+z13) true) fun z14=>
   yA (aa 0 Try.f67) (cj N n) (w64 (x51+1)) z14 Tf Td Te Tb Tg)
  (
   .bnd (nR 256 b4) fun z15=>
   .bnd (ap N.n ({ kind:=0,a:=0,b:=0,set_:=(some z15) }:Vstep) Tf Td Te Tb Tg) fun z16=>
   .sm z16 (fun z17=>
    dR (.ok (false,z17.2.1,z17.2.2.1,z17.2.2.2.1,z17.2.2.2.2.1,z17.2.2.2.2.2))) (fun vz16=>
    dR (.pan vz16)))) (by kernel_rfl) (by kernel_rfl) h (⟨fun _=>fun _=>fun h=>(zJ n) _ _ _ _ _ _ _ h,fun _=>fun _=>⟨fun _=>aO (enc:=cK) rfl,fun _=>aO (enc:=cK) rfl⟩⟩)
theorem yY{N:RecC}{r:PR am}(n:Nat)(x6:UInt8)(Tf:List UInt8)(Td:Int)(Te:Int)(Tb:Nat)(Tg:List Vstep)(h:cC N n x6 Tf Td Te Tb Tg=some r):pG N r (yj (aa 0 Try.f67)) (yS x6 Tf Td Te Tb Tg):=
 av (m:=4000) (t:=
 .bnd (aQ N.n 1 Td Tf Td Te Tb Tg) fun z34=>
 .sm z34 (fun z35=>
  .bnd (gA N.n x6) fun z36=>
  .bnd (ap N.n ({ kind:=0,a:=0,b:=0,set_:=z36 }:Vstep) z35.1 (w64 (z35.2.1+1)) z35.2.2.1 z35.2.2.2.1 z35.2.2.2.2) fun z37=>
  .sm z37 (fun z38=>
   dR (.ok (false,z38.2.1,z38.2.2.1,z38.2.2.2.1,z38.2.2.2.2.1,z38.2.2.2.2.2))) (fun vz37=>
   dR (.pan vz37))) (fun vz34=>
  dR (.pan vz34))) (by kernel_rfl) (by kernel_rfl) h (fun _=>⟨fun _=>fun _=>fun _=>⟨fun _=>aO (enc:=cK) rfl,fun _=>aO (enc:=cK) rfl⟩,fun _=>aO (enc:=cK) rfl⟩)
theorem w67i0oR20{N:RecC}{r:PR am}(n:Nat)(x6:UInt8)(x7:Bool)(x8:Bool)(Tf:List UInt8)(Td:Int)(Te:Int)(Tb:Nat)(Tg:List Vstep)(h:aq N n x6 x7 x8 Tf Td Te Tb Tg=some r):pG N r (zG (aa 0 Try.f67)) (zn x6 x7 x8 Tf Td Te Tb Tg):=
 av (m:=4000) (t:=
 .cond (!x7)
 (
  zh (aa 0 Try.f67) (cC N n) x6 Tf Td Te Tb Tg)
 (
  .cond (x8)
  (
   zh (aa 0 Try.f67) (cC N n) x6 Tf Td Te Tb Tg)
  (
   .bnd (gA N.n x6) fun z18=>
   .bnd (ap N.n ({ kind:=0,a:=0,b:=0,set_:=z18 }:Vstep) Tf (w64 (Td+1)) Te Tb Tg) fun z19=>
   .sm z19 (fun z20=>
    dR (.ok (false,z20.2.1,z20.2.2.1,z20.2.2.2.1,z20.2.2.2.2.1,z20.2.2.2.2.2))) (fun vz19=>
    dR (.pan vz19))))) (by kernel_rfl) (by kernel_rfl) h (⟨fun h=>yY n _ _ _ _ _ _ h,⟨fun h=>yY n _ _ _ _ _ _ h,fun _=>fun _=>⟨fun _=>aO (enc:=cK) rfl,fun _=>aO (enc:=cK) rfl⟩⟩⟩)
theorem ya{N:RecC}{r:PR am}(n:Nat)(Tf:List UInt8)(Td:Int)(Te:Int)(Tb:Nat)(Tg:List Vstep)(h:cE N n Tf Td Te Tb Tg=some r):pG N r (yM (aa 0 Try.f67)) (zZ Tf Td Te Tb Tg):=
 av (m:=4000) (t:=
 .bnd (ap N.n ({ kind:=3,a:=w64 (2 * (w64 (Te+1))),b:=0,set_:=(none:Option (List Bool)) }:Vstep) Tf (w64 (Td+1)) (w64 (Te+1)) Tb Tg) fun z21=>
 .sm z21 (fun z22=>
  .bnd (dC N z22.2.1 z22.2.2.1 z22.2.2.2.1 z22.2.2.2.2.1 z22.2.2.2.2.2) fun z23=>
  .sm z23 (fun z24=>
   .bnd (ap N.n ({ kind:=3,a:=w64 ((w64 (2 * (w64 (Te+1))))+1),b:=0,set_:=(none:Option (List Bool)) }:Vstep) z24.2.1 z24.2.2.1 z24.2.2.2.1 z24.2.2.2.2.1 z24.2.2.2.2.2) fun z25=>
   .sm z25 (fun z26=>
    .bnd (bc N.n 41 z26.2.1 z26.2.2.1 z26.2.2.2.1 z26.2.2.2.2.1 z26.2.2.2.2.2) fun z27=>
    .sm z27 (fun z28=>
     .cond (!z28.1)
     (
      .bnd (aQ N.n 1 z28.2.2.1 z28.2.1 z28.2.2.1 z28.2.2.2.1 z28.2.2.2.2.1 z28.2.2.2.2.2) fun z29=>
      .sm z29 (fun z30=>
       dR (.ok (z24.1,z30.1,z30.2.1,z30.2.2.1,z30.2.2.2.1,z30.2.2.2.2))) (fun vz29=>
       dR (.pan vz29)))
     (
      dR (.ok (z24.1,z28.2.1,z28.2.2.1,z28.2.2.2.1,z28.2.2.2.2.1,z28.2.2.2.2.2)))) (fun vz27=>
     dR (.pan vz27))) (fun vz25=>
    dR (.pan vz25))) (fun vz23=>
   dR (.pan vz23))) (fun vz21=>
  dR (.pan vz21))) (by kernel_rfl) (by kernel_rfl) h (fun _=>⟨fun _=>fun _=>⟨fun _=>fun _=>⟨fun _=>fun _=>⟨fun _=>⟨fun _=>⟨fun _=>aO (enc:=cK) rfl,fun _=>aO (enc:=cK) rfl⟩,aO (enc:=cK) rfl⟩,fun _=>aO (enc:=cK) rfl⟩,fun _=>aO (enc:=cK) rfl⟩,fun _=>aO (enc:=cK) rfl⟩,fun _=>aO (enc:=cK) rfl⟩)
theorem D2{N:RecC}{r:PR am}(n:Nat)(x3:UInt8)(Tf:List UInt8)(Td:Int)(Te:Int)(Tb:Nat)(Tg:List Vstep)(h:cL N n x3 Tf Td Te Tb Tg=some r):pG N r (De (aa 0 Try.f67)) (Eb x3 Tf Td Te Tb Tg):=
 av (m:=4000) (t:=
 .bnd (gA N.n x3) fun z31=>
 .bnd (ap N.n ({ kind:=0,a:=0,b:=0,set_:=z31 }:Vstep) Tf (w64 (Td+1)) Te Tb Tg) fun z32=>
 .sm z32 (fun z33=>
  dR (.ok (false,z33.2.1,z33.2.2.1,z33.2.2.2.1,z33.2.2.2.2.1,z33.2.2.2.2.2))) (fun vz32=>
  dR (.pan vz32))) (by kernel_rfl) (by kernel_rfl) h (fun _=>fun _=>⟨fun _=>aO (enc:=cK) rfl,fun _=>aO (enc:=cK) rfl⟩)
theorem Ln{N:RecC}{r:PR am}(y0_0:List UInt8)(y0_1:Int)(y0_2:Int)(y0_3:Nat)(y1:List Vstep)(h:bz N y0_0 y0_1 y0_2 y0_3 y1=some r):pG N r (JR (aa 0 Try.f67)) (J0 y0_0 y0_1 y0_2 y0_3 y1):=
 av (m:=4000) (t:=
 .bnd (cg y0_0 y0_1) fun z1=>
 .cond ((b2i z1)==(b2i 46))
 (
  yA (aa 0 Try.f67) (cj N N.n) 0 (List.replicate 256 false) y0_0 (w64 (y0_1+1)) y0_2 y0_3 y1)
 (
  .cond ((b2i z1)==(b2i 92))
  (
   .bnd (aK N.n y0_0 (w64 (y0_1+1)) y0_2 y0_3 y1) fun z2=>
   .sm z2 (fun z3=>
    .cond (decide ((b2i z3.1)≥(b2i 97)))
    (
     .cond (decide ((b2i z3.1)≤(b2i 122)))
     (
      fo (aa 0 Try.f67) (aq N N.n) z3.1 z3.2.1 true z3.2.2.1 z3.2.2.2.1 z3.2.2.2.2.1 z3.2.2.2.2.2.1 z3.2.2.2.2.2.2)
     (
      .cond (decide ((b2i z3.1)≥(b2i 65)))
      (
       .cond (decide ((b2i z3.1)≤(b2i 90)))
       (
        fo (aa 0 Try.f67) (aq N N.n) z3.1 z3.2.1 true z3.2.2.1 z3.2.2.2.1 z3.2.2.2.2.1 z3.2.2.2.2.2.1 z3.2.2.2.2.2.2)
       (
        .cond (decide ((b2i z3.1)≥(b2i 48)))
        (
         fo (aa 0 Try.f67) (aq N N.n) z3.1 z3.2.1 (decide ((b2i z3.1)≤(b2i 57))) z3.2.2.1 z3.2.2.2.1 z3.2.2.2.2.1 z3.2.2.2.2.2.1 z3.2.2.2.2.2.2)
        (
         fo (aa 0 Try.f67) (aq N N.n) z3.1 z3.2.1 false z3.2.2.1 z3.2.2.2.1 z3.2.2.2.2.1 z3.2.2.2.2.2.1 z3.2.2.2.2.2.2)))
      (
       .cond (decide ((b2i z3.1)≥(b2i 48)))
       (
        fo (aa 0 Try.f67) (aq N N.n) z3.1 z3.2.1 (decide ((b2i z3.1)≤(b2i 57))) z3.2.2.1 z3.2.2.2.1 z3.2.2.2.2.1 z3.2.2.2.2.2.1 z3.2.2.2.2.2.2)
       (
        fo (aa 0 Try.f67) (aq N N.n) z3.1 z3.2.1 false z3.2.2.1 z3.2.2.2.1 z3.2.2.2.2.1 z3.2.2.2.2.2.1 z3.2.2.2.2.2.2))))
    (
     .cond (decide ((b2i z3.1)≥(b2i 65)))
     (
      .cond (decide ((b2i z3.1)≤(b2i 90)))
      (
       fo (aa 0 Try.f67) (aq N N.n) z3.1 z3.2.1 true z3.2.2.1 z3.2.2.2.1 z3.2.2.2.2.1 z3.2.2.2.2.2.1 z3.2.2.2.2.2.2)
      (
       .cond (decide ((b2i z3.1)≥(b2i 48)))
       (
        fo (aa 0 Try.f67) (aq N N.n) z3.1 z3.2.1 (decide ((b2i z3.1)≤(b2i 57))) z3.2.2.1 z3.2.2.2.1 z3.2.2.2.2.1 z3.2.2.2.2.2.1 z3.2.2.2.2.2.2)
       (
        fo (aa 0 Try.f67) (aq N N.n) z3.1 z3.2.1 false z3.2.2.1 z3.2.2.2.1 z3.2.2.2.2.1 z3.2.2.2.2.2.1 z3.2.2.2.2.2.2)))
     (
      .cond (decide ((b2i z3.1)≥(b2i 48)))
      (
       fo (aa 0 Try.f67) (aq N N.n) z3.1 z3.2.1 (decide ((b2i z3.1)≤(b2i 57))) z3.2.2.1 z3.2.2.2.1 z3.2.2.2.2.1 z3.2.2.2.2.2.1 z3.2.2.2.2.2.2)
      (
       fo (aa 0 Try.f67) (aq N N.n) z3.1 z3.2.1 false z3.2.2.1 z3.2.2.2.1 z3.2.2.2.2.1 z3.2.2.2.2.2.1 z3.2.2.2.2.2.2)))) (fun vz2=>
    dR (.pan vz2)))
  (
   .cond ((b2i z1)==(b2i 91))
   (
    .bnd (cW N.n y0_0 (w64 (y0_1+1)) y0_2 y0_3 y1) fun z4=>
    .sm z4 (fun z5=>
     .bnd (ap N.n ({ kind:=0,a:=0,b:=0,set_:=z5.1 }:Vstep) z5.2.1 z5.2.2.1 z5.2.2.2.1 z5.2.2.2.2.1 z5.2.2.2.2.2) fun z6=>
     .sm z6 (fun z7=>
      dR (.ok (false,z7.2.1,z7.2.2.1,z7.2.2.2.1,z7.2.2.2.2.1,z7.2.2.2.2.2))) (fun vz6=>
      dR (.pan vz6))) (fun vz4=>
     dR (.pan vz4)))
   (
    .cond ((b2i z1)==(b2i 40))
    (
     .cond (y0_2==9)
     (
      .bnd (aQ N.n 2 y0_1 y0_0 y0_1 y0_2 y0_3 y1) fun z8=>
      .sm z8 (fun z9=>
       zu (aa 0 Try.f67) (cE N N.n) z9.1 z9.2.1 z9.2.2.1 z9.2.2.2.1 z9.2.2.2.2) (fun vz8=>
       dR (.pan vz8)))
     (
      zu (aa 0 Try.f67) (cE N N.n) y0_0 y0_1 y0_2 y0_3 y1))
    (
     .bnd (cB N.n ([42,43,63,41,124,93] :List UInt8) z1) fun z10=>
     .cond (decide (z10≥0))
     (
      .bnd (aQ N.n 1 y0_1 y0_0 y0_1 y0_2 y0_3 y1) fun z11=>
      .sm z11 (fun z12=>
       CF (aa 0 Try.f67) (cL N N.n) z1 z12.1 z12.2.1 z12.2.2.1 z12.2.2.2.1 z12.2.2.2.2) (fun vz11=>
       dR (.pan vz11)))
     (
      CF (aa 0 Try.f67) (cL N N.n) z1 y0_0 y0_1 y0_2 y0_3 y1)))))) (by kernel_rfl) (by kernel_rfl) h (fun _=>⟨fun h=>zJ N.n _ _ _ _ _ _ _ h,⟨fun _=>⟨fun _=>⟨⟨fun h=>w67i0oR20 N.n _ _ _ _ _ _ _ _ h,⟨⟨fun h=>w67i0oR20 N.n _ _ _ _ _ _ _ _ h,⟨fun h=>w67i0oR20 N.n _ _ _ _ _ _ _ _ h,fun h=>w67i0oR20 N.n _ _ _ _ _ _ _ _ h⟩⟩,⟨fun h=>w67i0oR20 N.n _ _ _ _ _ _ _ _ h,fun h=>w67i0oR20 N.n _ _ _ _ _ _ _ _ h⟩⟩⟩,⟨⟨fun h=>w67i0oR20 N.n _ _ _ _ _ _ _ _ h,⟨fun h=>w67i0oR20 N.n _ _ _ _ _ _ _ _ h,fun h=>w67i0oR20 N.n _ _ _ _ _ _ _ _ h⟩⟩,⟨fun h=>w67i0oR20 N.n _ _ _ _ _ _ _ _ h,fun h=>w67i0oR20 N.n _ _ _ _ _ _ _ _ h⟩⟩⟩,fun _=>aO (enc:=cK) rfl⟩,⟨fun _=>⟨fun _=>fun _=>⟨fun _=>aO (enc:=cK) rfl,fun _=>aO (enc:=cK) rfl⟩,fun _=>aO (enc:=cK) rfl⟩,⟨⟨fun _=>⟨fun _=>fun h=>ya N.n _ _ _ _ _ h,fun _=>aO (enc:=cK) rfl⟩,fun h=>ya N.n _ _ _ _ _ h⟩,fun _=>⟨fun _=>⟨fun _=>fun h=>D2 N.n _ _ _ _ _ _ h,fun _=>aO (enc:=cK) rfl⟩,fun h=>D2 N.n _ _ _ _ _ _ h⟩⟩⟩⟩⟩)
def Gp(y0_0:List UInt8)(y0_1:Int)(y0_2:Int)(y0_3:Nat)(y1:List Vstep):List (TV EE.T):=[.a (.box 100000 0)]
def Br(y0_0:List UInt8)(y0_1:Int)(y0_2:Int)(y0_3:Nat)(y1:List Vstep):List (Nat × TB EE.T):=[(100000,.cs [.d .str y0_0,.d (.int .i64) y0_1,.d (.int .i64) y0_2,.vec (.nam 7) 200001 y0_3]),(200001,.vec 200001 (.nam 7) y1)]
theorem lT{N:RecC}(hN:i8 N)(y0_0:List UInt8)(y0_1:Int)(y0_2:Int)(y0_3:Nat)(y1:List Vstep){r:PR am}(h:bz N y0_0 y0_1 y0_2 y0_3 y1=some r)(ρ:Rn)(hi:Inj ρ (Br y0_0 y0_1 y0_2 y0_3 y1)):aE Try.prog 67 ((Gp y0_0 y0_1 y0_2 y0_3 y1).map (TV.to EE.toEnc ρ)) (hTo EE.toEnc ρ (Br y0_0 y0_1 y0_2 y0_3 y1)) (cx EE ρ fun u=>u=cK r):=
 dO (aa 0 Try.f67) 187 mixed (KL N hN) Try.func67 (by kernel_rfl) rfl rfl rfl rfl (Ln y0_0 y0_1 y0_2 y0_3 y1 h) ρ hi
def iw(N:RecC)(us:List (TV EE.T))(hs:List (Nat × TB EE.T)):XR EE.T:=
 gdX (eT us 1) <|
 bnX (aB us 0) fun i0=>
 bnX (bC hs i0) fun l0=>
 gdX (eT l0 4) <|
 bnX (cD .str l0 0) fun y0_0=>
 bnX (cD (.int .i64) l0 1) fun y0_1=>
 bnX (cD (.int .i64) l0 2) fun y0_2=>
 bnX (cVi (.nam 7) l0 3) fun i1=>
 bnX (cVn (.nam 7) l0 3) fun y0_3=>
 bnX (bV (.nam 7) hs i1) fun y1=>
 gdX (bA hs [i0,i1]) <|
 gdX (i4 [i0,i1]) <|
 .mv (bz N y0_0 y0_1 y0_2 y0_3 y1) [i0,i1] (mvL [i0,i1] [100000,200001]) 0 (ek i0 i1) (uL i0 i1)
theorem lr(N:RecC)(hN:i8 N):XOk Try.prog EE 67 (iw N):=fun us hs=>
 aJ fun h1=>ak fun i0 h2=>ak fun l0 h3=>aJ fun h4=>ak fun y0_0 h5=>ak fun y0_1 h6=>ak fun y0_2 h7=>ak fun i1 h8=>ak fun y0_3 h9=>ak fun y1 h10=>aJ fun h11=>aJ fun h12=>fun p hz ρ hi=>gQ (ex:=[]) (ks:=[100000,200001]) (us':=Gp y0_0 y0_1 y0_2 y0_3 y1) (h0:=Br y0_0 y0_1 y0_2 y0_3 y1) (ρ':=jT ρ [i0,i1]) (uc:=ek 100000 200001) (u:=ek i0 i1) (hc:=uL 100000 200001) (h:=uL i0 i1) hi h11 (by kernel_rfl) ⟨gJ h2 (by kernel_rfl),bU h1⟩ ⟨(by kernel_rfl),mD h3 ⟨dG h5,dG h6,dG h7,ji h8 h9 (by kernel_rfl),bU h4⟩,(by kernel_rfl),kY h10 (by kernel_rfl),trivial⟩ ⟨.inr rfl,.inl rfl,trivial⟩ h12 (fun hj=>lT hN y0_0 y0_1 y0_2 y0_3 y1 hz _ hj) (fun z=>⟨by kernel_rfl,by kernel_rfl,by kernel_rfl,by kernel_rfl⟩)
def dX(i0:Nat)(i1:Nat)(r:az):TV EE.T:=.a (.d .bool r.1)
def uV(i0:Nat)(i1:Nat)(r:az):List (Nat × TB EE.T):=[(i0,.cs [.d .str r.2.1,.d (.int .i64) r.2.2.1,.d (.int .i64) r.2.2.2.1,.vec (.nam 7) i1 r.2.2.2.2.1]),(i1,.vec i1 (.nam 7) r.2.2.2.2.2)]
def dK(r:PR az):RL EE.T:=pa (dX 100000 200001) (uV 100000 200001) r
def OK:Lvs:=⟨[(2,⟨[(0,false),(3,false)],[],[(100000,(none,[])),(200001,(none,[]))],[]⟩),(7,⟨[(0,false),(3,false),(4,false),(5,false),(6,false)],[],[(100000,(none,[])),(200001,(none,[]))],[]⟩),(9,⟨[(0,false),(3,false),(6,false)],[],[(100000,(none,[])),(200001,(none,[]))],[]⟩),(14,⟨[(0,false),(3,false),(8,false),(9,false)],[],[(100000,(none,[])),(200001,(none,[]))],[]⟩),(17,⟨[(0,false),(9,false)],[],[(100000,(none,[])),(200001,(none,[]))],[]⟩),(22,⟨[(0,false),(10,false)],[],[(100000,(none,[])),(200001,(none,[]))],[]⟩),(25,⟨[(0,false),(3,false),(8,false),(11,false)],[],[(100000,(none,[])),(200001,(none,[]))],[]⟩),(27,⟨[(0,false),(11,false)],[],[(100000,(none,[])),(200001,(none,[]))],[]⟩)],[],[7,9],[],false,[(100000,(none,[]))],[100000,200001],[],[]⟩
def NQ:List ResultVar:=[.tmp 2]
def Js(N:RecC):Gam EE:=⟨[],EQT,[⟨52,fG N.n⟩,⟨36,dL N.n⟩,⟨35,dx N.n⟩,⟨61,cU N.n⟩,⟨67,iw N⟩,⟨51,fF N.n⟩],[]⟩
theorem LM(N:RecC)(hN:i8 N):GOk Try.prog TT EE (Js N):=GOk.consx (hQ N.n) (GOk.consx (dY N.n) (GOk.consx (dQ N.n) (GOk.consx (dc N.n) (GOk.consx (lr N hN) (GOk.consx (gV N.n) (GOk.nil cN))))))
def Dk(c:Code):List It2:=atR 9 c
def Cn(x3:Int)(x6:UInt8)(Tf:List UInt8)(Td:Int)(Te:Int)(Tb:Nat)(Tg:List Vstep):TS EE.T:=⟨164,[(0,.a (.box 100000 0)),(3,.a (.d (.int .i64) x3)),(6,.a (.d .byte x6))],[(100000,.cs [.d .str Tf,.d (.int .i64) Td,.d (.int .i64) Te,.vec (.nam 7) 200001 Tb]),(200001,.vec 200001 (.nam 7) Tg)],[]⟩
def CQ(c:Code):List It2:=atR 7 c
def CD(x3:Int)(x4:Bool)(x5:Bool)(x6:UInt8)(Tf:List UInt8)(Td:Int)(Te:Int)(Tb:Nat)(Tg:List Vstep):TS EE.T:=⟨164,[(0,.a (.box 100000 0)),(3,.a (.d (.int .i64) x3)),(4,.a (.d .bool x4)),(5,.a (.d .bool x5)),(6,.a (.d .byte x6))],[(100000,.cs [.d .str Tf,.d (.int .i64) Td,.d (.int .i64) Te,.vec (.nam 7) 200001 Tb]),(200001,.vec 200001 (.nam 7) Tg)],[]⟩
def LD(c:Code):List It2:=[.c c]
def Ko(y0_0:List UInt8)(y0_1:Int)(y0_2:Int)(y0_3:Nat)(y1:List Vstep):TS EE.T:=⟨164,[(0,.a (.box 100000 0))],[(100000,.cs [.d .str y0_0,.d (.int .i64) y0_1,.d (.int .i64) y0_2,.vec (.nam 7) 200001 y0_3]),(200001,.vec 200001 (.nam 7) y1)],[]⟩
def si(c:Code)(f:Int→UInt8→(List UInt8)→Int→Int→Nat→(List Vstep)→Option (PR az))(x3:Int)(x6:UInt8)(Tf:List UInt8)(Td:Int)(Te:Int)(Tb:Nat)(Tg:List Vstep):Tree (Lf EE.T × Option (PR az)):=.leaf (.go (Dk c) (Cn x3 x6 Tf Td Te Tb Tg),f x3 x6 Tf Td Te Tb Tg)
def wD(c:Code)(f:Int→Bool→Bool→UInt8→(List UInt8)→Int→Int→Nat→(List Vstep)→Option (PR az))(x3:Int)(x4:Bool)(x5:Bool)(x6:UInt8)(Tf:List UInt8)(Td:Int)(Te:Int)(Tb:Nat)(Tg:List Vstep):Tree (Lf EE.T × Option (PR az)):=.leaf (.go (CQ c) (CD x3 x4 x5 x6 Tf Td Te Tb Tg),f x3 x4 x5 x6 Tf Td Te Tb Tg)
abbrev Av(N:RecC)(r:PR az)(k:List It2)(s:TS EE.T):Prop:=fa (Y:=TT) EE (Js N) OK NQ (fun u=>u=dK r) k s
def fd(x:PR az):Tree (Lf EE.T × Option (PR az)):=.leaf (.done (dK x),some x)
theorem rQ{N:RecC}{r:PR az}(n:Nat)(x3:Int)(x6:UInt8)(Tf:List UInt8)(Td:Int)(Te:Int)(Tb:Nat)(Tg:List Vstep)(h:bg N n x3 x6 Tf Td Te Tb Tg=some r):Av N r (Dk (aa 0 Try.f62)) (Cn x3 x6 Tf Td Te Tb Tg):=
 av (m:=4000) (t:=
 .bnd (ca N.n x3 Tf (w64 (Td+1)) Te Tb Tg) fun z8=>
 .sm z8 (fun z9=>
  .cond ((b2i x6)==(b2i 42))
  (
   .bnd (ap N.n ({ kind:=1,a:=0,b:=0,set_:=(none:Option (List Bool)) }:Vstep) z9.2.1 z9.2.2.1 z9.2.2.2.1 z9.2.2.2.2.1 z9.2.2.2.2.2) fun z10=>
   .sm z10 (fun z11=>
    .bnd (dg z11.2.2.2.2.1 z11.1) fun z12=>
    .bnd (z11.2.2.2.2.2[z12]?) fun z13=>
    .bnd (bi N.n z9.1 x3 z11.2.1 z11.2.2.1 z11.2.2.2.1 z11.2.2.2.2.1 (List.set z11.2.2.2.2.2 z12 ({ kind:=z13.kind,a:=(z11.2.2.2.2.1:Int),b:=z13.b,set_:=z13.set_ }:Vstep))) fun z14=>
    .sm z14 (fun z15=>
     .bnd (ap N.n ({ kind:=2,a:=z11.1,b:=0,set_:=(none:Option (List Bool)) }:Vstep) z15.1 z15.2.1 z15.2.2.1 z15.2.2.2.1 z15.2.2.2.2) fun z16=>
     .sm z16 (fun z17=>
      .bnd (dg z17.2.2.2.2.1 z11.1) fun z18=>
      .bnd (z17.2.2.2.2.2[z18]?) fun z19=>
      fd (.ok (true,z17.2.1,z17.2.2.1,z17.2.2.2.1,z17.2.2.2.2.1,List.set z17.2.2.2.2.2 z18 ({ kind:=z19.kind,a:=z19.a,b:=(z17.2.2.2.2.1:Int),set_:=z19.set_ }:Vstep)))) (fun vz16=>
      fd (.pan vz16))) (fun vz14=>
     fd (.pan vz14))) (fun vz10=>
    fd (.pan vz10)))
  (
   .cond ((b2i x6)==(b2i 43))
   (
    .bnd (bi N.n z9.1 x3 z9.2.1 z9.2.2.1 z9.2.2.2.1 z9.2.2.2.2.1 z9.2.2.2.2.2) fun z20=>
    .sm z20 (fun z21=>
     .bnd (ap N.n ({ kind:=1,a:=x3,b:=0,set_:=(none:Option (List Bool)) }:Vstep) z21.1 z21.2.1 z21.2.2.1 z21.2.2.2.1 z21.2.2.2.2) fun z22=>
     .sm z22 (fun z23=>
      .bnd (dg z23.2.2.2.2.1 z23.1) fun z24=>
      .bnd (z23.2.2.2.2.2[z24]?) fun z25=>
      fd (.ok (false,z23.2.1,z23.2.2.1,z23.2.2.2.1,z23.2.2.2.2.1,List.set z23.2.2.2.2.2 z24 ({ kind:=z25.kind,a:=z25.a,b:=(z23.2.2.2.2.1:Int),set_:=z25.set_ }:Vstep)))) (fun vz22=>
      fd (.pan vz22))) (fun vz20=>
     fd (.pan vz20)))
   (
    .bnd (ap N.n ({ kind:=1,a:=0,b:=0,set_:=(none:Option (List Bool)) }:Vstep) z9.2.1 z9.2.2.1 z9.2.2.2.1 z9.2.2.2.2.1 z9.2.2.2.2.2) fun z26=>
    .sm z26 (fun z27=>
     .bnd (dg z27.2.2.2.2.1 z27.1) fun z28=>
     .bnd (z27.2.2.2.2.2[z28]?) fun z29=>
     .bnd (bi N.n z9.1 x3 z27.2.1 z27.2.2.1 z27.2.2.2.1 z27.2.2.2.2.1 (List.set z27.2.2.2.2.2 z28 ({ kind:=z29.kind,a:=(z27.2.2.2.2.1:Int),b:=z29.b,set_:=z29.set_ }:Vstep))) fun z30=>
     .sm z30 (fun z31=>
      .bnd (dg z31.2.2.2.1 z27.1) fun z32=>
      .bnd (z31.2.2.2.2[z32]?) fun z33=>
      fd (.ok (true,z31.1,z31.2.1,z31.2.2.1,z31.2.2.2.1,List.set z31.2.2.2.2 z32 ({ kind:=z33.kind,a:=z33.a,b:=(z31.2.2.2.1:Int),set_:=z33.set_ }:Vstep)))) (fun vz30=>
      fd (.pan vz30))) (fun vz26=>
     fd (.pan vz26))))) (fun vz8=>
  fd (.pan vz8))) (by kernel_rfl) (by kernel_rfl) h (fun _=>⟨fun _=>⟨fun _=>⟨fun _=>fun _=>fun _=>fun _=>⟨fun _=>fun _=>⟨fun _=>fun _=>fun _=>aO (enc:=dK) rfl,fun _=>aO (enc:=dK) rfl⟩,fun _=>aO (enc:=dK) rfl⟩,fun _=>aO (enc:=dK) rfl⟩,⟨fun _=>⟨fun _=>fun _=>⟨fun _=>fun _=>fun _=>aO (enc:=dK) rfl,fun _=>aO (enc:=dK) rfl⟩,fun _=>aO (enc:=dK) rfl⟩,fun _=>⟨fun _=>fun _=>fun _=>fun _=>⟨fun _=>fun _=>fun _=>aO (enc:=dK) rfl,fun _=>aO (enc:=dK) rfl⟩,fun _=>aO (enc:=dK) rfl⟩⟩⟩,fun _=>aO (enc:=dK) rfl⟩)
theorem wq{N:RecC}{r:PR az}(n:Nat)(x3:Int)(x4:Bool)(x5:Bool)(x6:UInt8)(Tf:List UInt8)(Td:Int)(Te:Int)(Tb:Nat)(Tg:List Vstep)(h:a7 N n x3 x4 x5 x6 Tf Td Te Tb Tg=some r):Av N r (CQ (aa 0 Try.f62)) (CD x3 x4 x5 x6 Tf Td Te Tb Tg):=
 av (m:=4000) (t:=
 .cond (x5)
 (
  .cond (x4)
  (
   .cond ((b2i x6) != (b2i 63))
   (
    .bnd (aQ N.n 4 Td Tf Td Te Tb Tg) fun z6=>
    .sm z6 (fun z7=>
     si (aa 0 Try.f62) (bg N n) x3 x6 z7.1 z7.2.1 z7.2.2.1 z7.2.2.2.1 z7.2.2.2.2) (fun vz6=>
     fd (.pan vz6)))
   (
    si (aa 0 Try.f62) (bg N n) x3 x6 Tf Td Te Tb Tg))
  (
   si (aa 0 Try.f62) (bg N n) x3 x6 Tf Td Te Tb Tg))
 (
  si (aa 0 Try.f62) (bg N n) x3 x6 Tf Td Te Tb Tg)) (by kernel_rfl) (by kernel_rfl) h (⟨⟨⟨fun _=>⟨fun _=>fun h=>rQ n _ _ _ _ _ _ _ h,fun _=>aO (enc:=dK) rfl⟩,fun h=>rQ n _ _ _ _ _ _ _ h⟩,fun h=>rQ n _ _ _ _ _ _ _ h⟩,fun h=>rQ n _ _ _ _ _ _ _ h⟩)
theorem KR{N:RecC}{r:PR az}(y0_0:List UInt8)(y0_1:Int)(y0_2:Int)(y0_3:Nat)(y1:List Vstep)(h:cH N y0_0 y0_1 y0_2 y0_3 y1=some r):Av N r (LD (aa 0 Try.f62)) (Ko y0_0 y0_1 y0_2 y0_3 y1):=
 av (m:=4000) (t:=
 .bnd (cg y0_0 y0_1) fun z1=>
 .bnd (bz N y0_0 y0_1 y0_2 y0_3 y1) fun z2=>
 .sm z2 (fun z3=>
  .bnd (aK N.n z3.2.1 z3.2.2.1 z3.2.2.2.1 z3.2.2.2.2.1 z3.2.2.2.2.2) fun z4=>
  .sm z4 (fun z5=>
   .cond (!z5.2.1)
   (
    fd (.ok (z3.1,z5.2.2.1,z5.2.2.2.1,z5.2.2.2.2.1,z5.2.2.2.2.2.1,z5.2.2.2.2.2.2)))
   (
    .cond ((b2i z5.1) != (b2i 42))
    (
     .cond ((b2i z5.1) != (b2i 43))
     (
      .cond ((b2i z5.1) != (b2i 63))
      (
       fd (.ok (z3.1,z5.2.2.1,z5.2.2.2.1,z5.2.2.2.2.1,z5.2.2.2.2.2.1,z5.2.2.2.2.2.2)))
      (
       wD (aa 0 Try.f62) (a7 N N.n) (y0_3:Int) ((b2i z1)==(b2i 40)) z3.1 z5.1 z5.2.2.1 z5.2.2.2.1 z5.2.2.2.2.1 z5.2.2.2.2.2.1 z5.2.2.2.2.2.2))
     (
      wD (aa 0 Try.f62) (a7 N N.n) (y0_3:Int) ((b2i z1)==(b2i 40)) z3.1 z5.1 z5.2.2.1 z5.2.2.2.1 z5.2.2.2.2.1 z5.2.2.2.2.2.1 z5.2.2.2.2.2.2))
    (
     wD (aa 0 Try.f62) (a7 N N.n) (y0_3:Int) ((b2i z1)==(b2i 40)) z3.1 z5.1 z5.2.2.1 z5.2.2.2.1 z5.2.2.2.2.1 z5.2.2.2.2.2.1 z5.2.2.2.2.2.2))) (fun vz4=>
   fd (.pan vz4))) (fun vz2=>
  fd (.pan vz2))) (by kernel_rfl) (by kernel_rfl) h (fun _=>fun _=>⟨fun _=>fun _=>⟨fun _=>⟨aO (enc:=dK) rfl,⟨⟨⟨aO (enc:=dK) rfl,fun h=>wq N.n _ _ _ _ _ _ _ _ _ h⟩,fun h=>wq N.n _ _ _ _ _ _ _ _ _ h⟩,fun h=>wq N.n _ _ _ _ _ _ _ _ _ h⟩⟩,fun _=>aO (enc:=dK) rfl⟩,fun _=>aO (enc:=dK) rfl⟩)
def Fy(y0_0:List UInt8)(y0_1:Int)(y0_2:Int)(y0_3:Nat)(y1:List Vstep):List (TV EE.T):=[.a (.box 100000 0)]
def AB(y0_0:List UInt8)(y0_1:Int)(y0_2:Int)(y0_3:Nat)(y1:List Vstep):List (Nat × TB EE.T):=[(100000,.cs [.d .str y0_0,.d (.int .i64) y0_1,.d (.int .i64) y0_2,.vec (.nam 7) 200001 y0_3]),(200001,.vec 200001 (.nam 7) y1)]
theorem lz{N:RecC}(hN:i8 N)(y0_0:List UInt8)(y0_1:Int)(y0_2:Int)(y0_3:Nat)(y1:List Vstep){r:PR az}(h:cH N y0_0 y0_1 y0_2 y0_3 y1=some r)(ρ:Rn)(hi:Inj ρ (AB y0_0 y0_1 y0_2 y0_3 y1)):aE Try.prog 62 ((Fy y0_0 y0_1 y0_2 y0_3 y1).map (TV.to EE.toEnc ρ)) (hTo EE.toEnc ρ (AB y0_0 y0_1 y0_2 y0_3 y1)) (cx EE ρ fun u=>u=dK r):=
 dO (aa 0 Try.f62) 164 mixed (LM N hN) Try.func62 (by kernel_rfl) rfl rfl rfl rfl (KR y0_0 y0_1 y0_2 y0_3 y1 h) ρ hi
def g8(N:RecC)(us:List (TV EE.T))(hs:List (Nat × TB EE.T)):XR EE.T:=
 gdX (eT us 1) <|
 bnX (aB us 0) fun i0=>
 bnX (bC hs i0) fun l0=>
 gdX (eT l0 4) <|
 bnX (cD .str l0 0) fun y0_0=>
 bnX (cD (.int .i64) l0 1) fun y0_1=>
 bnX (cD (.int .i64) l0 2) fun y0_2=>
 bnX (cVi (.nam 7) l0 3) fun i1=>
 bnX (cVn (.nam 7) l0 3) fun y0_3=>
 bnX (bV (.nam 7) hs i1) fun y1=>
 gdX (bA hs [i0,i1]) <|
 gdX (i4 [i0,i1]) <|
 .mv (cH N y0_0 y0_1 y0_2 y0_3 y1) [i0,i1] (mvL [i0,i1] [100000,200001]) 0 (dX i0 i1) (uV i0 i1)
theorem kV(N:RecC)(hN:i8 N):XOk Try.prog EE 62 (g8 N):=fun us hs=>
 aJ fun h1=>ak fun i0 h2=>ak fun l0 h3=>aJ fun h4=>ak fun y0_0 h5=>ak fun y0_1 h6=>ak fun y0_2 h7=>ak fun i1 h8=>ak fun y0_3 h9=>ak fun y1 h10=>aJ fun h11=>aJ fun h12=>fun p hz ρ hi=>gQ (ex:=[]) (ks:=[100000,200001]) (us':=Fy y0_0 y0_1 y0_2 y0_3 y1) (h0:=AB y0_0 y0_1 y0_2 y0_3 y1) (ρ':=jT ρ [i0,i1]) (uc:=dX 100000 200001) (u:=dX i0 i1) (hc:=uV 100000 200001) (h:=uV i0 i1) hi h11 (by kernel_rfl) ⟨gJ h2 (by kernel_rfl),bU h1⟩ ⟨(by kernel_rfl),mD h3 ⟨dG h5,dG h6,dG h7,ji h8 h9 (by kernel_rfl),bU h4⟩,(by kernel_rfl),kY h10 (by kernel_rfl),trivial⟩ ⟨.inr rfl,.inl rfl,trivial⟩ h12 (fun hj=>lz hN y0_0 y0_1 y0_2 y0_3 y1 hz _ hj) (fun z=>⟨by kernel_rfl,by kernel_rfl,by kernel_rfl,by kernel_rfl⟩)
def eJ(i0:Nat)(i1:Nat)(r:be):TV EE.T:=.a (.d .bool r.1)
def uZ(i0:Nat)(i1:Nat)(r:be):List (Nat × TB EE.T):=[(i0,.cs [.d .str r.2.1,.d (.int .i64) r.2.2.1,.d (.int .i64) r.2.2.2.1,.vec (.nam 7) i1 r.2.2.2.2.1]),(i1,.vec i1 (.nam 7) r.2.2.2.2.2)]
def jI(r:PR be):RL EE.T:=pa (eJ 100000 200001) (uZ 100000 200001) r
def NX:Lvs:=⟨[],[(2,⟨[(0,false),(3,false)],[],[(100000,(none,[])),(200001,(none,[]))],[]⟩)],[],[],false,[(100000,(none,[]))],[100000,200001],[],[]⟩
def Ou:List ResultVar:=[.tmp 2]
def La(N:RecC):Gam EE:=⟨[],EQT,[⟨62,g8 N⟩,⟨61,cU N.n⟩],[]⟩
theorem I3(N:RecC)(hN:i8 N):GOk Try.prog TT EE (La N):=GOk.consx (kV N hN) (GOk.consx (dc N.n) (GOk.nil cN))
def C8(c:Code):List It2:=atL 2 c
def DA(x3:Bool)(Tf:List UInt8)(Td:Int)(Te:Int)(Tb:Nat)(Tg:List Vstep):TS EE.T:=⟨25,[(0,.a (.box 100000 0)),(3,.a (.d .bool x3))],[(100000,.cs [.d .str Tf,.d (.int .i64) Td,.d (.int .i64) Te,.vec (.nam 7) 200001 Tb]),(200001,.vec 200001 (.nam 7) Tg)],[]⟩
def LC(c:Code):List It2:=[.c c]
def Ks(y0_0:List UInt8)(y0_1:Int)(y0_2:Int)(y0_3:Nat)(y1:List Vstep):TS EE.T:=⟨25,[(0,.a (.box 100000 0))],[(100000,.cs [.d .str y0_0,.d (.int .i64) y0_1,.d (.int .i64) y0_2,.vec (.nam 7) 200001 y0_3]),(200001,.vec 200001 (.nam 7) y1)],[]⟩
def vS(c:Code)(f:Bool→(List UInt8)→Int→Int→Nat→(List Vstep)→Option (PR be))(x3:Bool)(Tf:List UInt8)(Td:Int)(Te:Int)(Tb:Nat)(Tg:List Vstep):Tree (Lf EE.T × Option (PR be)):=.leaf (.go (C8 c) (DA x3 Tf Td Te Tb Tg),f x3 Tf Td Te Tb Tg)
abbrev GF(N:RecC)(r:PR be)(k:List It2)(s:TS EE.T):Prop:=fa (Y:=TT) EE (La N) NX Ou (fun u=>u=jI r) k s
def rG(x:PR be):Tree (Lf EE.T × Option (PR be)):=.leaf (.done (jI x),some x)
theorem vP{N:RecC}{r:PR be}:∀ (n:Nat) (x3:Bool) (Tf:List UInt8) (Td:Int) (Te:Int) (Tb:Nat) (Tg:List Vstep),bq N n x3 Tf Td Te Tb Tg=some r→GF N r (C8 (aa 0 Try.f49)) (DA x3 Tf Td Te Tb Tg)
 |0,_,_,_,_,_,_,h=>by cases h
 |n+1,x3,Tf,Td,Te,Tb,Tg,h=>av (m:=4000) (t:=
  .bnd (aK N.n Tf Td Te Tb Tg) fun z1=>
  .sm z1 (fun z2=>
   .cond (!z2.2.1)
   (
    rG (.ok (x3,z2.2.2.1,z2.2.2.2.1,z2.2.2.2.2.1,z2.2.2.2.2.2.1,z2.2.2.2.2.2.2)))
   (
    .cond ((b2i z2.1)==(b2i 124))
    (
     rG (.ok (x3,z2.2.2.1,z2.2.2.2.1,z2.2.2.2.2.1,z2.2.2.2.2.2.1,z2.2.2.2.2.2.2)))
    (
     .cond ((b2i z2.1)==(b2i 41))
     (
      rG (.ok (x3,z2.2.2.1,z2.2.2.2.1,z2.2.2.2.2.1,z2.2.2.2.2.2.1,z2.2.2.2.2.2.2)))
     (
      .bnd (cH N z2.2.2.1 z2.2.2.2.1 z2.2.2.2.2.1 z2.2.2.2.2.2.1 z2.2.2.2.2.2.2) fun z3=>
      .sm z3 (fun z4=>
       .cond (!z4.1)
       (
        vS (aa 0 Try.f49) (bq N n) false z4.2.1 z4.2.2.1 z4.2.2.2.1 z4.2.2.2.2.1 z4.2.2.2.2.2)
       (
        vS (aa 0 Try.f49) (bq N n) x3 z4.2.1 z4.2.2.1 z4.2.2.2.1 z4.2.2.2.2.1 z4.2.2.2.2.2)) (fun vz3=>
       rG (.pan vz3)))))) (fun vz1=>
   rG (.pan vz1))) (by kernel_rfl) (by kernel_rfl) h (fun _=>⟨fun _=>⟨aO (enc:=jI) rfl,⟨aO (enc:=jI) rfl,⟨aO (enc:=jI) rfl,fun _=>⟨fun _=>⟨fun h=>(vP n) _ _ _ _ _ _ h,fun h=>(vP n) _ _ _ _ _ _ h⟩,fun _=>aO (enc:=jI) rfl⟩⟩⟩⟩,fun _=>aO (enc:=jI) rfl⟩)
theorem Lj{N:RecC}{r:PR be}(y0_0:List UInt8)(y0_1:Int)(y0_2:Int)(y0_3:Nat)(y1:List Vstep)(h:dw N y0_0 y0_1 y0_2 y0_3 y1=some r):GF N r (LC (aa 0 Try.f49)) (Ks y0_0 y0_1 y0_2 y0_3 y1):=
 av (m:=4000) (t:=
 vS (aa 0 Try.f49) (bq N N.n) true y0_0 y0_1 y0_2 y0_3 y1) (by kernel_rfl) (by kernel_rfl) h (fun h=>vP N.n _ _ _ _ _ _ h)
def FL(y0_0:List UInt8)(y0_1:Int)(y0_2:Int)(y0_3:Nat)(y1:List Vstep):List (TV EE.T):=[.a (.box 100000 0)]
def A9(y0_0:List UInt8)(y0_1:Int)(y0_2:Int)(y0_3:Nat)(y1:List Vstep):List (Nat × TB EE.T):=[(100000,.cs [.d .str y0_0,.d (.int .i64) y0_1,.d (.int .i64) y0_2,.vec (.nam 7) 200001 y0_3]),(200001,.vec 200001 (.nam 7) y1)]
theorem mq{N:RecC}(hN:i8 N)(y0_0:List UInt8)(y0_1:Int)(y0_2:Int)(y0_3:Nat)(y1:List Vstep){r:PR be}(h:dw N y0_0 y0_1 y0_2 y0_3 y1=some r)(ρ:Rn)(hi:Inj ρ (A9 y0_0 y0_1 y0_2 y0_3 y1)):aE Try.prog 49 ((FL y0_0 y0_1 y0_2 y0_3 y1).map (TV.to EE.toEnc ρ)) (hTo EE.toEnc ρ (A9 y0_0 y0_1 y0_2 y0_3 y1)) (cx EE ρ fun u=>u=jI r):=
 dO (aa 0 Try.f49) 25 mixed (I3 N hN) Try.func49 (by kernel_rfl) rfl rfl rfl rfl (Lj y0_0 y0_1 y0_2 y0_3 y1 h) ρ hi
def iL(N:RecC)(us:List (TV EE.T))(hs:List (Nat × TB EE.T)):XR EE.T:=
 gdX (eT us 1) <|
 bnX (aB us 0) fun i0=>
 bnX (bC hs i0) fun l0=>
 gdX (eT l0 4) <|
 bnX (cD .str l0 0) fun y0_0=>
 bnX (cD (.int .i64) l0 1) fun y0_1=>
 bnX (cD (.int .i64) l0 2) fun y0_2=>
 bnX (cVi (.nam 7) l0 3) fun i1=>
 bnX (cVn (.nam 7) l0 3) fun y0_3=>
 bnX (bV (.nam 7) hs i1) fun y1=>
 gdX (bA hs [i0,i1]) <|
 gdX (i4 [i0,i1]) <|
 .mv (dw N y0_0 y0_1 y0_2 y0_3 y1) [i0,i1] (mvL [i0,i1] [100000,200001]) 0 (eJ i0 i1) (uZ i0 i1)
theorem lR(N:RecC)(hN:i8 N):XOk Try.prog EE 49 (iL N):=fun us hs=>
 aJ fun h1=>ak fun i0 h2=>ak fun l0 h3=>aJ fun h4=>ak fun y0_0 h5=>ak fun y0_1 h6=>ak fun y0_2 h7=>ak fun i1 h8=>ak fun y0_3 h9=>ak fun y1 h10=>aJ fun h11=>aJ fun h12=>fun p hz ρ hi=>gQ (ex:=[]) (ks:=[100000,200001]) (us':=FL y0_0 y0_1 y0_2 y0_3 y1) (h0:=A9 y0_0 y0_1 y0_2 y0_3 y1) (ρ':=jT ρ [i0,i1]) (uc:=eJ 100000 200001) (u:=eJ i0 i1) (hc:=uZ 100000 200001) (h:=uZ i0 i1) hi h11 (by kernel_rfl) ⟨gJ h2 (by kernel_rfl),bU h1⟩ ⟨(by kernel_rfl),mD h3 ⟨dG h5,dG h6,dG h7,ji h8 h9 (by kernel_rfl),bU h4⟩,(by kernel_rfl),kY h10 (by kernel_rfl),trivial⟩ ⟨.inr rfl,.inl rfl,trivial⟩ h12 (fun hj=>mq hN y0_0 y0_1 y0_2 y0_3 y1 hz _ hj) (fun z=>⟨by kernel_rfl,by kernel_rfl,by kernel_rfl,by kernel_rfl⟩)
def ef(i0:Nat)(i1:Nat)(r:bO):TV EE.T:=.a (.d .bool r.1)
def uO(i0:Nat)(i1:Nat)(r:bO):List (Nat × TB EE.T):=[(i0,.cs [.d .str r.2.1,.d (.int .i64) r.2.2.1,.d (.int .i64) r.2.2.2.1,.vec (.nam 7) i1 r.2.2.2.2.1]),(i1,.vec i1 (.nam 7) r.2.2.2.2.2)]
def ol(r:PR bO):RL EE.T:=pa (ef 100000 200001) (uO 100000 200001) r
def MN:Lvs:=⟨[],[],[],[],false,[(100000,(none,[]))],[100000,200001],[],[]⟩
def NT:List ResultVar:=[.tmp 2]
def JT(N:RecC):Gam EE:=⟨[],EQT,[⟨34,eD N⟩],[]⟩
theorem LQ(N:RecC)(hN:i8 N):GOk Try.prog TT EE (JT N):=GOk.consx (gY N hN) (GOk.nil cN)
def Kk(c:Code):List It2:=[.c c]
def Ji(y0_0:List UInt8)(y0_1:Int)(y0_2:Int)(y0_3:Nat)(y1:List Vstep):TS EE.T:=⟨5,[(0,.a (.box 100000 0))],[(100000,.cs [.d .str y0_0,.d (.int .i64) y0_1,.d (.int .i64) y0_2,.vec (.nam 7) 200001 y0_3]),(200001,.vec 200001 (.nam 7) y1)],[]⟩
abbrev Np(N:RecC)(r:PR bO)(k:List It2)(s:TS EE.T):Prop:=fa (Y:=TT) EE (JT N) MN NT (fun u=>u=ol r) k s
def Fv(x:PR bO):Tree (Lf EE.T × Option (PR bO)):=.leaf (.done (ol x),some x)
theorem LB{N:RecC}{r:PR bO}(y0_0:List UInt8)(y0_1:Int)(y0_2:Int)(y0_3:Nat)(y1:List Vstep)(h:dl N y0_0 y0_1 y0_2 y0_3 y1=some r):Np N r (Kk (aa 0 Try.f53)) (Ji y0_0 y0_1 y0_2 y0_3 y1):=
 av (m:=4000) (t:=
 .bnd (dC N y0_0 y0_1 y0_2 y0_3 y1) fun z1=>
 .sm z1 (fun z2=>
  Fv (.ok (z2.1,z2.2.1,z2.2.2.1,z2.2.2.2.1,z2.2.2.2.2.1,z2.2.2.2.2.2))) (fun vz1=>
  Fv (.pan vz1))) (by kernel_rfl) (by kernel_rfl) h (fun _=>⟨fun _=>aO (enc:=ol) rfl,fun _=>aO (enc:=ol) rfl⟩)
def FN(y0_0:List UInt8)(y0_1:Int)(y0_2:Int)(y0_3:Nat)(y1:List Vstep):List (TV EE.T):=[.a (.box 100000 0)]
def Bm(y0_0:List UInt8)(y0_1:Int)(y0_2:Int)(y0_3:Nat)(y1:List Vstep):List (Nat × TB EE.T):=[(100000,.cs [.d .str y0_0,.d (.int .i64) y0_1,.d (.int .i64) y0_2,.vec (.nam 7) 200001 y0_3]),(200001,.vec 200001 (.nam 7) y1)]
theorem lS{N:RecC}(hN:i8 N)(y0_0:List UInt8)(y0_1:Int)(y0_2:Int)(y0_3:Nat)(y1:List Vstep){r:PR bO}(h:dl N y0_0 y0_1 y0_2 y0_3 y1=some r)(ρ:Rn)(hi:Inj ρ (Bm y0_0 y0_1 y0_2 y0_3 y1)):aE Try.prog 53 ((FN y0_0 y0_1 y0_2 y0_3 y1).map (TV.to EE.toEnc ρ)) (hTo EE.toEnc ρ (Bm y0_0 y0_1 y0_2 y0_3 y1)) (cx EE ρ fun u=>u=ol r):=
 dO (aa 0 Try.f53) 5 mixed (LQ N hN) Try.func53 (by kernel_rfl) rfl rfl rfl rfl (LB y0_0 y0_1 y0_2 y0_3 y1 h) ρ hi
def ir(N:RecC)(us:List (TV EE.T))(hs:List (Nat × TB EE.T)):XR EE.T:=
 gdX (eT us 1) <|
 bnX (aB us 0) fun i0=>
 bnX (bC hs i0) fun l0=>
 gdX (eT l0 4) <|
 bnX (cD .str l0 0) fun y0_0=>
 bnX (cD (.int .i64) l0 1) fun y0_1=>
 bnX (cD (.int .i64) l0 2) fun y0_2=>
 bnX (cVi (.nam 7) l0 3) fun i1=>
 bnX (cVn (.nam 7) l0 3) fun y0_3=>
 bnX (bV (.nam 7) hs i1) fun y1=>
 gdX (bA hs [i0,i1]) <|
 gdX (i4 [i0,i1]) <|
 .mv (dl N y0_0 y0_1 y0_2 y0_3 y1) [i0,i1] (mvL [i0,i1] [100000,200001]) 0 (ef i0 i1) (uO i0 i1)
theorem lx(N:RecC)(hN:i8 N):XOk Try.prog EE 53 (ir N):=fun us hs=>
 aJ fun h1=>ak fun i0 h2=>ak fun l0 h3=>aJ fun h4=>ak fun y0_0 h5=>ak fun y0_1 h6=>ak fun y0_2 h7=>ak fun i1 h8=>ak fun y0_3 h9=>ak fun y1 h10=>aJ fun h11=>aJ fun h12=>fun p hz ρ hi=>gQ (ex:=[]) (ks:=[100000,200001]) (us':=FN y0_0 y0_1 y0_2 y0_3 y1) (h0:=Bm y0_0 y0_1 y0_2 y0_3 y1) (ρ':=jT ρ [i0,i1]) (uc:=ef 100000 200001) (u:=ef i0 i1) (hc:=uO 100000 200001) (h:=uO i0 i1) hi h11 (by kernel_rfl) ⟨gJ h2 (by kernel_rfl),bU h1⟩ ⟨(by kernel_rfl),mD h3 ⟨dG h5,dG h6,dG h7,ji h8 h9 (by kernel_rfl),bU h4⟩,(by kernel_rfl),kY h10 (by kernel_rfl),trivial⟩ ⟨.inr rfl,.inl rfl,trivial⟩ h12 (fun hj=>lS hN y0_0 y0_1 y0_2 y0_3 y1 hz _ hj) (fun z=>⟨by kernel_rfl,by kernel_rfl,by kernel_rfl,by kernel_rfl⟩)
def ei(i0:Nat)(i1:Nat)(r:aw):TV EE.T:=.a (.d .bool r.1)
def uR(i0:Nat)(i1:Nat)(r:aw):List (Nat × TB EE.T):=[(i0,.cs [.d .str r.2.1,.d (.int .i64) r.2.2.1,.d (.int .i64) r.2.2.2.1,.vec (.nam 7) i1 r.2.2.2.2.1]),(i1,.vec i1 (.nam 7) r.2.2.2.2.2)]
def fM(r:PR aw):RL EE.T:=pa (ei 100000 200001) (uR 100000 200001) r
def OZ:Lvs:=⟨[(6,⟨[(0,false),(3,false),(4,false),(5,false),(6,false)],[],[(100000,(none,[])),(200001,(none,[]))],[]⟩),(9,⟨[(0,false),(4,false),(6,false),(7,false)],[],[(100000,(none,[])),(200001,(none,[]))],[]⟩),(12,⟨[(0,false),(4,false),(7,false)],[],[(100000,(none,[])),(200001,(none,[]))],[]⟩)],[(3,⟨[(0,false),(3,false),(4,false)],[],[(100000,(none,[])),(200001,(none,[]))],[]⟩)],[12],[],false,[(100000,(none,[]))],[100000,200001],[],[]⟩
def Oh:List ResultVar:=[.tmp 2]
def IL(N:RecC):Gam EE:=⟨[],EQT,[⟨52,fG N.n⟩,⟨36,dL N.n⟩,⟨49,iL N⟩,⟨50,eK N.n⟩,⟨53,ir N⟩,⟨51,fF N.n⟩],[]⟩
theorem Mo(N:RecC)(hN:i8 N):GOk Try.prog TT EE (IL N):=GOk.consx (hQ N.n) (GOk.consx (dY N.n) (GOk.consx (lR N hN) (GOk.consx (eY N.n) (GOk.consx (lx N hN) (GOk.consx (gV N.n) (GOk.nil cN))))))
def zE(c:Code):List It2:=atR 12 c
def zH(x4:Bool)(x7:Int)(Tf:List UInt8)(Td:Int)(Te:Int)(Tb:Nat)(Tg:List Vstep):TS EE.T:=⟨70,[(0,.a (.box 100000 0)),(4,.a (.d .bool x4)),(7,.a (.d (.int .i64) x7))],[(100000,.cs [.d .str Tf,.d (.int .i64) Td,.d (.int .i64) Te,.vec (.nam 7) 200001 Tb]),(200001,.vec 200001 (.nam 7) Tg)],[]⟩
def vk(c:Code):List It2:=atL 3 c
def wE(x3:Int)(x4:Bool)(Tf:List UInt8)(Td:Int)(Te:Int)(Tb:Nat)(Tg:List Vstep):TS EE.T:=⟨70,[(0,.a (.box 100000 0)),(3,.a (.d (.int .i64) x3)),(4,.a (.d .bool x4))],[(100000,.cs [.d .str Tf,.d (.int .i64) Td,.d (.int .i64) Te,.vec (.nam 7) 200001 Tb]),(200001,.vec 200001 (.nam 7) Tg)],[]⟩
def IT(c:Code):List It2:=[.c c]
def JB(y0_0:List UInt8)(y0_1:Int)(y0_2:Int)(y0_3:Nat)(y1:List Vstep):TS EE.T:=⟨70,[(0,.a (.box 100000 0))],[(100000,.cs [.d .str y0_0,.d (.int .i64) y0_1,.d (.int .i64) y0_2,.vec (.nam 7) 200001 y0_3]),(200001,.vec 200001 (.nam 7) y1)],[]⟩
def yp(c:Code)(f:Bool→Int→(List UInt8)→Int→Int→Nat→(List Vstep)→Option (PR aw))(x4:Bool)(x7:Int)(Tf:List UInt8)(Td:Int)(Te:Int)(Tb:Nat)(Tg:List Vstep):Tree (Lf EE.T × Option (PR aw)):=.leaf (.go (zE c) (zH x4 x7 Tf Td Te Tb Tg),f x4 x7 Tf Td Te Tb Tg)
def Lk(c:Code)(f:Int→Bool→(List UInt8)→Int→Int→Nat→(List Vstep)→Option (PR aw))(x3:Int)(x4:Bool)(Tf:List UInt8)(Td:Int)(Te:Int)(Tb:Nat)(Tg:List Vstep):Tree (Lf EE.T × Option (PR aw)):=.leaf (.go (vk c) (wE x3 x4 Tf Td Te Tb Tg),f x3 x4 Tf Td Te Tb Tg)
abbrev uI(N:RecC)(r:PR aw)(k:List It2)(s:TS EE.T):Prop:=fa (Y:=TT) EE (IL N) OZ Oh (fun u=>u=fM r) k s
def kl(x:PR aw):Tree (Lf EE.T × Option (PR aw)):=.leaf (.done (fM x),some x)
theorem yr{N:RecC}{r:PR aw}{k3:Int→Bool→(List UInt8)→Int→Int→Nat→(List Vstep)→Option (PR aw)}(hk3:∀x3 x4 Tf Td Te Tb Tg,k3 x3 x4 Tf Td Te Tb Tg=some r→uI N r (vk (aa 0 Try.f34)) (wE x3 x4 Tf Td Te Tb Tg))(n:Nat)(x4:Bool)(x7:Int)(Tf:List UInt8)(Td:Int)(Te:Int)(Tb:Nat)(Tg:List Vstep)(h:ci N k3 n x4 x7 Tf Td Te Tb Tg=some r):uI N r (zE (aa 0 Try.f34)) (zH x4 x7 Tf Td Te Tb Tg):=
 av (m:=4000) (t:=
 .bnd (dg Tb x7) fun z19=>
 .bnd (Tg[z19]?) fun z20=>
 kl (.ok (x4,Tf,Td,Te,Tb,List.set Tg z19 ({ kind:=z20.kind,a:=(Tb:Int),b:=z20.b,set_:=z20.set_ }:Vstep)))) (by kernel_rfl) (by kernel_rfl) h (fun _=>fun _=>aO (enc:=fM) rfl)
theorem xn{N:RecC}{r:PR aw}:∀ (n:Nat) (x3:Int) (x4:Bool) (Tf:List UInt8) (Td:Int) (Te:Int) (Tb:Nat) (Tg:List Vstep),bd N n x3 x4 Tf Td Te Tb Tg=some r→uI N r (vk (aa 0 Try.f34)) (wE x3 x4 Tf Td Te Tb Tg)
 |0,_,_,_,_,_,_,_,h=>by cases h
 |n+1,x3,x4,Tf,Td,Te,Tb,Tg,h=>av (m:=4000) (t:=
  .bnd (bc N.n 124 Tf Td Te Tb Tg) fun z3=>
  .sm z3 (fun z4=>
   .cond (z4.1)
   (
    .bnd (ca N.n x3 z4.2.1 z4.2.2.1 z4.2.2.2.1 z4.2.2.2.2.1 z4.2.2.2.2.2) fun z5=>
    .sm z5 (fun z6=>
     .bnd (ap N.n ({ kind:=1,a:=0,b:=0,set_:=(none:Option (List Bool)) }:Vstep) z6.2.1 z6.2.2.1 z6.2.2.2.1 z6.2.2.2.2.1 z6.2.2.2.2.2) fun z7=>
     .sm z7 (fun z8=>
      .bnd (dg z8.2.2.2.2.1 z8.1) fun z9=>
      .bnd (z8.2.2.2.2.2[z9]?) fun z10=>
      .bnd (bi N.n z6.1 x3 z8.2.1 z8.2.2.1 z8.2.2.2.1 z8.2.2.2.2.1 (List.set z8.2.2.2.2.2 z9 ({ kind:=z10.kind,a:=(z8.2.2.2.2.1:Int),b:=z10.b,set_:=z10.set_ }:Vstep))) fun z11=>
      .sm z11 (fun z12=>
       .bnd (ap N.n ({ kind:=2,a:=0,b:=0,set_:=(none:Option (List Bool)) }:Vstep) z12.1 z12.2.1 z12.2.2.1 z12.2.2.2.1 z12.2.2.2.2) fun z13=>
       .sm z13 (fun z14=>
        .bnd (dg z14.2.2.2.2.1 z8.1) fun z15=>
        .bnd (z14.2.2.2.2.2[z15]?) fun z16=>
        .bnd (dl N z14.2.1 z14.2.2.1 z14.2.2.2.1 z14.2.2.2.2.1 (List.set z14.2.2.2.2.2 z15 ({ kind:=z16.kind,a:=z16.a,b:=(z14.2.2.2.2.1:Int),set_:=z16.set_ }:Vstep))) fun z17=>
        .sm z17 (fun z18=>
         .cond (z18.1)
         (
          yp (aa 0 Try.f34) (ci N (bd N n) n) true z14.1 z18.2.1 z18.2.2.1 z18.2.2.2.1 z18.2.2.2.2.1 z18.2.2.2.2.2)
         (
          yp (aa 0 Try.f34) (ci N (bd N n) n) x4 z14.1 z18.2.1 z18.2.2.1 z18.2.2.2.1 z18.2.2.2.2.1 z18.2.2.2.2.2)) (fun vz17=>
         kl (.pan vz17))) (fun vz13=>
        kl (.pan vz13))) (fun vz11=>
       kl (.pan vz11))) (fun vz7=>
      kl (.pan vz7))) (fun vz5=>
     kl (.pan vz5)))
   (
    kl (.ok (x4,z4.2.1,z4.2.2.1,z4.2.2.2.1,z4.2.2.2.2.1,z4.2.2.2.2.2)))) (fun vz3=>
   kl (.pan vz3))) (by kernel_rfl) (by kernel_rfl) h (fun _=>⟨fun _=>⟨fun _=>⟨fun _=>fun _=>⟨fun _=>fun _=>fun _=>fun _=>⟨fun _=>fun _=>⟨fun _=>fun _=>fun _=>fun _=>⟨fun _=>⟨fun h=>yr (xn n) n _ _ _ _ _ _ _ h,fun h=>yr (xn n) n _ _ _ _ _ _ _ h⟩,fun _=>aO (enc:=fM) rfl⟩,fun _=>aO (enc:=fM) rfl⟩,fun _=>aO (enc:=fM) rfl⟩,fun _=>aO (enc:=fM) rfl⟩,fun _=>aO (enc:=fM) rfl⟩,aO (enc:=fM) rfl⟩,fun _=>aO (enc:=fM) rfl⟩)
theorem L7{N:RecC}{r:PR aw}(y0_0:List UInt8)(y0_1:Int)(y0_2:Int)(y0_3:Nat)(y1:List Vstep)(h:cP N y0_0 y0_1 y0_2 y0_3 y1=some r):uI N r (IT (aa 0 Try.f34)) (JB y0_0 y0_1 y0_2 y0_3 y1):=
 av (m:=4000) (t:=
 .bnd (dw N y0_0 y0_1 y0_2 y0_3 y1) fun z1=>
 .sm z1 (fun z2=>
  Lk (aa 0 Try.f34) (bd N N.n) (y0_3:Int) z2.1 z2.2.1 z2.2.2.1 z2.2.2.2.1 z2.2.2.2.2.1 z2.2.2.2.2.2) (fun vz1=>
  kl (.pan vz1))) (by kernel_rfl) (by kernel_rfl) h (fun _=>⟨fun _=>fun h=>xn N.n _ _ _ _ _ _ _ h,fun _=>aO (enc:=fM) rfl⟩)
def F0(y0_0:List UInt8)(y0_1:Int)(y0_2:Int)(y0_3:Nat)(y1:List Vstep):List (TV EE.T):=[.a (.box 100000 0)]
def An(y0_0:List UInt8)(y0_1:Int)(y0_2:Int)(y0_3:Nat)(y1:List Vstep):List (Nat × TB EE.T):=[(100000,.cs [.d .str y0_0,.d (.int .i64) y0_1,.d (.int .i64) y0_2,.vec (.nam 7) 200001 y0_3]),(200001,.vec 200001 (.nam 7) y1)]
theorem gX{N:RecC}(hN:i8 N)(y0_0:List UInt8)(y0_1:Int)(y0_2:Int)(y0_3:Nat)(y1:List Vstep){r:PR aw}(h:cP N y0_0 y0_1 y0_2 y0_3 y1=some r)(ρ:Rn)(hi:Inj ρ (An y0_0 y0_1 y0_2 y0_3 y1)):aE Try.prog 34 ((F0 y0_0 y0_1 y0_2 y0_3 y1).map (TV.to EE.toEnc ρ)) (hTo EE.toEnc ρ (An y0_0 y0_1 y0_2 y0_3 y1)) (cx EE ρ fun u=>u=fM r):=
 dO (aa 0 Try.f34) 70 mixed (Mo N hN) Try.func34 (by kernel_rfl) rfl rfl rfl rfl (L7 y0_0 y0_1 y0_2 y0_3 y1 h) ρ hi
def mL(N:RecC)(us:List (TV EE.T))(hs:List (Nat × TB EE.T)):XR EE.T:=
 gdX (eT us 1) <|
 bnX (aB us 0) fun i0=>
 bnX (bC hs i0) fun l0=>
 gdX (eT l0 4) <|
 bnX (cD .str l0 0) fun y0_0=>
 bnX (cD (.int .i64) l0 1) fun y0_1=>
 bnX (cD (.int .i64) l0 2) fun y0_2=>
 bnX (cVi (.nam 7) l0 3) fun i1=>
 bnX (cVn (.nam 7) l0 3) fun y0_3=>
 bnX (bV (.nam 7) hs i1) fun y1=>
 gdX (bA hs [i0,i1]) <|
 gdX (i4 [i0,i1]) <|
 .mv (cP N y0_0 y0_1 y0_2 y0_3 y1) [i0,i1] (mvL [i0,i1] [100000,200001]) 0 (ei i0 i1) (uR i0 i1)
theorem ly(N:RecC)(hN:i8 N):XOk Try.prog EE 34 (mL N):=fun us hs=>
 aJ fun h1=>ak fun i0 h2=>ak fun l0 h3=>aJ fun h4=>ak fun y0_0 h5=>ak fun y0_1 h6=>ak fun y0_2 h7=>ak fun i1 h8=>ak fun y0_3 h9=>ak fun y1 h10=>aJ fun h11=>aJ fun h12=>fun p hz ρ hi=>gQ (ex:=[]) (ks:=[100000,200001]) (us':=F0 y0_0 y0_1 y0_2 y0_3 y1) (h0:=An y0_0 y0_1 y0_2 y0_3 y1) (ρ':=jT ρ [i0,i1]) (uc:=ei 100000 200001) (u:=ei i0 i1) (hc:=uR 100000 200001) (h:=uR i0 i1) hi h11 (by kernel_rfl) ⟨gJ h2 (by kernel_rfl),bU h1⟩ ⟨(by kernel_rfl),mD h3 ⟨dG h5,dG h6,dG h7,ji h8 h9 (by kernel_rfl),bU h4⟩,(by kernel_rfl),kY h10 (by kernel_rfl),trivial⟩ ⟨.inr rfl,.inl rfl,trivial⟩ h12 (fun hj=>gX hN y0_0 y0_1 y0_2 y0_3 y1 hz _ hj) (fun z=>⟨by kernel_rfl,by kernel_rfl,by kernel_rfl,by kernel_rfl⟩)
theorem iN(n0:Nat):∀m,i8 ⟨n0,bh n0 m⟩
 |0=>LR n0
 |m+1=>ly ⟨n0,bh n0 m⟩ (iN n0 m)
def fZ(r:aG):TV EE.T:=.a (.d (.sl .str) r.1)
def AM(i0:Nat)(r:aG):List (Nat × TB EE.T):=[(i0,.cs (cv EE (.nam 8) r.2))]
def wK(r:aG):RL EE.T:=.ret (fZ r) (AM 100000 r)
def Nt:Lvs:=⟨[(6,⟨[(0,false),(1,false),(2,false),(7,false),(8,false),(9,false)],[],[(100000,(some 8,[]))],[]⟩),(7,⟨[(0,false),(1,false),(2,false),(7,false),(8,false)],[],[(100000,(some 8,[]))],[]⟩),(8,⟨[(0,false),(1,false),(2,false),(7,false),(8,false),(9,false)],[],[(100000,(some 8,[]))],[]⟩)],[(3,⟨[(0,false),(1,false),(2,false),(7,false),(8,false)],[],[(100000,(some 8,[]))],[]⟩)],[8],[],false,[(100000,(some 8,[]))],[100000],[],[]⟩
def NG:List ResultVar:=[.tmp 6]
def Ic(N:Nat):Gam EE:=⟨[],EQT,[],[]⟩
theorem IJ(N:Nat):GOk Try.prog TT EE (Ic N):=GOk.nil cN
def B2(c:Code):List It2:=atR 8 c
def Eh(x1:List UInt8)(x2:List Int)(x7:List (List UInt8))(x8:Int)(x9:List UInt8)(Tc:VMask):TS EE.T:=⟨56,[(0,.a (.box 100000 0)),(1,.a (.d .str x1)),(2,.a (.d (.sl (.int .i64)) x2)),(7,.a (.own .str x7)),(8,.a (.d (.int .i64) x8)),(9,.a (.d .str x9))],[(100000,.cs (cv EE (.nam 8) Tc))],[]⟩
def wR(c:Code):List It2:=atL 3 c
def we(x1:List UInt8)(x2:List Int)(x7:List (List UInt8))(x8:Int)(Tc:VMask):TS EE.T:=⟨56,[(0,.a (.box 100000 0)),(1,.a (.d .str x1)),(2,.a (.d (.sl (.int .i64)) x2)),(7,.a (.own .str x7)),(8,.a (.d (.int .i64) x8))],[(100000,.cs (cv EE (.nam 8) Tc))],[]⟩
def Ii(c:Code):List It2:=[.c c]
def J8(x1:List UInt8)(x2:List Int)(y0:VMask):TS EE.T:=⟨56,[(0,.a (.box 100000 0)),(1,.a (.d .str x1)),(2,.a (.d (.sl (.int .i64)) x2))],[(100000,.cs (cv EE (.nam 8) y0))],[]⟩
def wb(c:Code)(f:(List UInt8)→(List Int)→(List (List UInt8))→Int→(List UInt8)→VMask→Option aG)(x1:List UInt8)(x2:List Int)(x7:List (List UInt8))(x8:Int)(x9:List UInt8)(Tc:VMask):Tree (Lf EE.T × Option aG):=.leaf (.go (B2 c) (Eh x1 x2 x7 x8 x9 Tc),f x1 x2 x7 x8 x9 Tc)
def Co(c:Code)(f:(List UInt8)→(List Int)→(List (List UInt8))→Int→VMask→Option aG)(x1:List UInt8)(x2:List Int)(x7:List (List UInt8))(x8:Int)(Tc:VMask):Tree (Lf EE.T × Option aG):=.leaf (.go (wR c) (we x1 x2 x7 x8 Tc),f x1 x2 x7 x8 Tc)
abbrev u7(N:Nat)(r:aG)(k:List It2)(s:TS EE.T):Prop:=fa (Y:=TT) EE (Ic N) Nt NG (fun u=>u=wK r) k s
def MW(x:aG):Tree (Lf EE.T × Option aG):=.leaf (.done (wK x),some x)
theorem wk{N:Nat}{r:aG}{k3:(List UInt8)→(List Int)→(List (List UInt8))→Int→VMask→Option aG}(hk3:∀x1 x2 x7 x8 Tc,k3 x1 x2 x7 x8 Tc=some r→u7 N r (wR (aa 0 Try.f39)) (we x1 x2 x7 x8 Tc))(n:Nat)(x1:List UInt8)(x2:List Int)(x7:List (List UInt8))(x8:Int)(x9:List UInt8)(Tc:VMask)(h:cI N k3 n x1 x2 x7 x8 x9 Tc=some r):u7 N r (B2 (aa 0 Try.f39)) (Eh x1 x2 x7 x8 x9 Tc):=
 av (m:=4000) (t:=
 .bnd (g9 16 x7 ([x9] :List (List UInt8))) fun z7=>
 Co (aa 0 Try.f39) k3 x1 x2 z7 (w64 (x8+1)) Tc) (by kernel_rfl) (by kernel_rfl) h (fun _=>fun h=>hk3 _ _ _ _ _ h)
theorem sr{N:Nat}{r:aG}:∀ (n:Nat) (x1:List UInt8) (x2:List Int) (x7:List (List UInt8)) (x8:Int) (Tc:VMask),b7 N n x1 x2 x7 x8 Tc=some r→u7 N r (wR (aa 0 Try.f39)) (we x1 x2 x7 x8 Tc)
 |0,_,_,_,_,_,h=>by cases h
 |n+1,x1,x2,x7,x8,Tc,h=>av (m:=4000) (t:=
  .cond (decide (x8≤Tc.Groups))
  (
   .bnd (cg x2 (w64 (2 * x8))) fun z1=>
   .cond (decide (z1≥0))
   (
    .bnd (cg x2 (w64 ((w64 (2 * x8))+1))) fun z2=>
    .bnd (cg x2 (w64 (2 * x8))) fun z3=>
    .cond (decide (z2≥z3))
    (
     .bnd (cg x2 (w64 (2 * x8))) fun z4=>
     .bnd (cg x2 (w64 ((w64 (2 * x8))+1))) fun z5=>
     .bnd (nP x1 z4 z5) fun z6=>
     wb (aa 0 Try.f39) (cI N (b7 N n) n) x1 x2 x7 x8 z6 Tc)
    (
     wb (aa 0 Try.f39) (cI N (b7 N n) n) x1 x2 x7 x8 ([] :List UInt8) Tc))
   (
    wb (aa 0 Try.f39) (cI N (b7 N n) n) x1 x2 x7 x8 ([] :List UInt8) Tc))
  (
   MW (x7,Tc))) (by kernel_rfl) (by kernel_rfl) h (⟨fun _=>⟨fun _=>fun _=>⟨fun _=>fun _=>fun _=>fun h=>wk (sr n) n _ _ _ _ _ _ h,fun h=>wk (sr n) n _ _ _ _ _ _ h⟩,fun h=>wk (sr n) n _ _ _ _ _ _ h⟩,aO (enc:=wK) rfl⟩)
theorem I4{N:Nat}{r:aG}(x1:List UInt8)(x2:List Int)(y0:VMask)(h:er N x1 x2 y0=some r):u7 N r (Ii (aa 0 Try.f39)) (J8 x1 x2 y0):=
 av (m:=4000) (t:=
 Co (aa 0 Try.f39) (b7 N N) x1 x2 ([] :List (List UInt8)) 1 y0) (by kernel_rfl) (by kernel_rfl) h (fun h=>sr N _ _ _ _ _ h)
def F7(x1:List UInt8)(x2:List Int)(y0:VMask):List (TV EE.T):=[.a (.box 100000 0),.a (.d .str x1),.a (.d (.sl (.int .i64)) x2)]
def Ab(x1:List UInt8)(x2:List Int)(y0:VMask):List (Nat × TB EE.T):=[(100000,.cs (cv EE (.nam 8) y0))]
theorem nh{N:Nat}(x1:List UInt8)(x2:List Int)(y0:VMask){r:aG}(h:er N x1 x2 y0=some r)(ρ:Rn)(hi:Inj ρ (Ab x1 x2 y0)):aE Try.prog 39 ((F7 x1 x2 y0).map (TV.to EE.toEnc ρ)) (hTo EE.toEnc ρ (Ab x1 x2 y0)) (fun out H=>out=.ret ((fZ r).to EE.toEnc ρ)∧H=hTo EE.toEnc ρ (AM 100000 r)):=
 (dO (aa 0 Try.f39) 56 mixed (IJ N) Try.func39 (by kernel_rfl) rfl rfl rfl rfl (I4 x1 x2 y0 h) ρ hi).mono fun out H h=>cx.retH rfl rfl h
def i7(N:Nat)(us:List (TV EE.T))(hs:List (Nat × TB EE.T)):XR EE.T:=
 gdX (eT us 3) <|
 bnX (aB us 0) fun i0=>
 bnX (aD .str us 1) fun x1=>
 bnX (aD (.sl (.int .i64)) us 2) fun x2=>
 bnX (bS EE 8 hs i0) fun y0=>
 gdX (bA hs [i0]) <|
 .ret (er N x1 x2 y0) [i0] fZ (AM i0)
theorem l9(N:Nat):XOk Try.prog EE 39 (i7 N):=fun us hs=>
 aJ fun h1=>ak fun i0 h2=>ak fun x1 h3=>ak fun x2 h4=>ak fun y0 h5=>aJ fun h6=>fun z hz=>⟨rfl,fun ρ hi=>ni (us':=F7 x1 x2 y0) (h0:=Ab x1 x2 y0) (ρ':=jT ρ [i0]) hi h6 (by kernel_rfl) ⟨gJ h2 (by kernel_rfl),ja h3,ja h4,bU h1⟩ ⟨(by kernel_rfl),so h5,trivial⟩ (fun hj=>nh x1 x2 y0 hz _ hj) (fun out H h=>⟨h.1.trans (by kernel_rfl),h.2.trans (by kernel_rfl)⟩)⟩
def kI(r:Bool):TV EE.T:=.a (.d .bool r)
def A8(r:Bool):RL EE.T:=.ret (kI r) []
def SO:Lvs:=⟨[],[],[],[],false,[],[],[],[]⟩
def SX:List ResultVar:=[.tmp 2]
def Sg(N:Nat):Gam EE:=⟨[],EQT,[],[]⟩
theorem Ru(N:Nat):GOk Try.prog TT EE (Sg N):=GOk.nil cN
def Q2(c:Code):List It2:=[.c c]
def QH(x0:UInt8):TS EE.T:=⟨9,[(0,.a (.d .byte x0))],[],[]⟩
abbrev R6(N:Nat)(r:Bool)(k:List It2)(s:TS EE.T):Prop:=fa (Y:=TT) EE (Sg N) SO SX (fun u=>u=A8 r) k s
def PL(x:Bool):Tree (Lf EE.T × Option Bool):=.leaf (.done (A8 x),some x)
theorem Ry{N:Nat}{r:Bool}(x0:UInt8)(h:fI N x0=some r):R6 N r (Q2 (aa 0 Try.f47)) (QH x0):=
 av (m:=4000) (t:=
 .cond (decide ((b2i x0)≥(b2i 48)))
 (
  PL (decide ((b2i x0)≤(b2i 57))))
 (
  PL false)) (by kernel_rfl) (by kernel_rfl) h (⟨aO (enc:=A8) rfl,aO (enc:=A8) rfl⟩)
theorem ul{N:Nat}(x0:UInt8){r:Bool}(h:fI N x0=some r)(ρ:Rn):aE Try.prog 47 (([.a (.d .byte x0)] :List (TV EE.T)).map (TV.to EE.toEnc ρ)) [] (fun out H=>out=.ret ((kI r).to EE.toEnc ρ)∧H=[]):=
 (rA (aa 0 Try.f47) 9 mixed (Ru N) Try.func47 (by kernel_rfl) rfl rfl rfl rfl (Ry x0 h) ρ).mono fun out H h=>cx.ret rfl h
def kZ(N:Nat):List (TV EE.T)→PV EE.T
 | [u0] =>match lp .byte u0 with
   |some x0=>.opt (fI N x0) kI
   |_=>.bad
 |_=>.bad
theorem tN(N:Nat)(us:List (TV EE.T)):(kZ N us).ok fun u=>∀ρ,aE Try.prog 47 (us.map (TV.to EE.toEnc ρ)) [] (fun out H=>out=.ret (u.to EE.toEnc ρ)∧H=[]):=by
 unfold kZ
 split
 ·split
  ·rename_i h0
   intro z hz ρ;refine eU ?_ (ul _ hz ρ);exact⟨ec h0 ρ,trivial⟩
  ·trivial
 ·trivial
def qh(r:da):TV EE.T:=.tu [.a (.d (.sl (.nam 6)) r.1),.a (.d .bool r.2)]
def oS(r:da):RL EE.T:=.ret (qh r) []
def R7:Lvs:=⟨[],[(2,⟨[(0,false),(4,false)],[],[],[]⟩)],[],[],false,[],[],[],[]⟩
def Se:List ResultVar:=[.tmp 2,.tmp 3]
def Sf(N:Nat):Gam EE:=⟨[⟨47,kZ N⟩,⟨46,eu N⟩],EQT,[],[]⟩
theorem P1(N:Nat):GOk Try.prog TT EE (Sf N):=GOk.cons (tN N) (GOk.cons (fX N) (GOk.nil cN))
def KK(c:Code):List It2:=atL 2 c
def KM(x0:List UInt8)(x4:List Vpiece):TS EE.T:=⟨83,[(0,.a (.d .str x0)),(4,.a (.own (.nam 6) x4))],[],[]⟩
def Rc(c:Code):List It2:=[.c c]
def Qj(x0:List UInt8):TS EE.T:=⟨83,[(0,.a (.d .str x0))],[],[]⟩
def ww(c:Code)(f:(List UInt8)→(List Vpiece)→Option da)(x0:List UInt8)(x4:List Vpiece):Tree (Lf EE.T × Option da):=.leaf (.go (KK c) (KM x0 x4),f x0 x4)
abbrev PM(N:Nat)(r:da)(k:List It2)(s:TS EE.T):Prop:=fa (Y:=TT) EE (Sf N) R7 Se (fun u=>u=oS r) k s
def yh(x:da):Tree (Lf EE.T × Option da):=.leaf (.done (oS x),some x)
theorem vu{N:Nat}{r:da}:∀ (n:Nat) (x0:List UInt8) (x4:List Vpiece),cY N n x0 x4=some r→PM N r (KK (aa 0 Try.f28)) (KM x0 x4)
 |0,_,_,h=>by cases h
 |n+1,x0,x4,h=>av (m:=4000) (t:=
  .cond (!decide (x0=([] :List UInt8)))
  (
   .bnd (cg x0 0) fun z1=>
   .cond ((b2i z1) != (b2i 36))
   (
    .bnd (ND x0 ([36] :List UInt8)) fun z2=>
    .bnd (cB N z2 36) fun z3=>
    .bnd (nP x0 0 z3) fun z4=>
    .bnd (g9 24 x4 ([({ text:=z4,group:=(-1) }:Vpiece)] :List Vpiece)) fun z5=>
    .bnd (nP x0 z3 (x0.length:Int)) fun z6=>
    ww (aa 0 Try.f28) (cY N n) z6 z5)
   (
    .bnd (nP x0 1 (x0.length:Int)) fun z7=>
    .cond (decide (z7=([] :List UInt8)))
    (
     yh (([] :List Vpiece),false))
    (
     .bnd (cg z7 0) fun z8=>
     .cond ((b2i z8)==(b2i 36))
     (
      .bnd (g9 24 x4 ([({ text:=([36] :List UInt8),group:=(-1) }:Vpiece)] :List Vpiece)) fun z9=>
      .bnd (nP z7 1 (z7.length:Int)) fun z10=>
      ww (aa 0 Try.f28) (cY N n) z10 z9)
     (
      .bnd (cg z7 0) fun z11=>
      .bnd (fI N z11) fun z12=>
      .cond (z12)
      (
       .bnd (cg z7 0) fun z13=>
       .bnd (g9 24 x4 ([({ text:=([] :List UInt8),group:=w64 (b2i (toB (IntKind.wrap .u8 ((b2i z13) - (b2i 48))))) }:Vpiece)] :List Vpiece)) fun z14=>
       .bnd (nP z7 1 (z7.length:Int)) fun z15=>
       ww (aa 0 Try.f28) (cY N n) z15 z14)
      (
       .cond (decide ((z7.length:Int) > 2))
       (
        .bnd (cg z7 0) fun z16=>
        .cond ((b2i z16)==(b2i 123))
        (
         .bnd (cg z7 1) fun z17=>
         .bnd (fI N z17) fun z18=>
         .cond (z18)
         (
          .bnd (cg z7 2) fun z19=>
          .cond ((b2i z19)==(b2i 125))
          (
           .bnd (cg z7 1) fun z20=>
           .bnd (g9 24 x4 ([({ text:=([] :List UInt8),group:=w64 (b2i (toB (IntKind.wrap .u8 ((b2i z20) - (b2i 48))))) }:Vpiece)] :List Vpiece)) fun z21=>
           .bnd (nP z7 3 (z7.length:Int)) fun z22=>
           ww (aa 0 Try.f28) (cY N n) z22 z21)
          (
           yh (([] :List Vpiece),false)))
         (
          yh (([] :List Vpiece),false)))
        (
         yh (([] :List Vpiece),false)))
       (
        yh (([] :List Vpiece),false)))))))
  (
   yh (x4,true))) (by kernel_rfl) (by kernel_rfl) h (⟨fun _=>⟨fun _=>fun _=>fun _=>fun _=>fun _=>fun h=>(vu n) _ _ h,fun _=>⟨aO (enc:=oS) rfl,fun _=>⟨fun _=>fun _=>fun h=>(vu n) _ _ h,fun _=>fun _=>⟨fun _=>fun _=>fun _=>fun h=>(vu n) _ _ h,⟨fun _=>⟨fun _=>fun _=>⟨fun _=>⟨fun _=>fun _=>fun _=>fun h=>(vu n) _ _ h,aO (enc:=oS) rfl⟩,aO (enc:=oS) rfl⟩,aO (enc:=oS) rfl⟩,aO (enc:=oS) rfl⟩⟩⟩⟩⟩,aO (enc:=oS) rfl⟩)
theorem Qo{N:Nat}{r:da}(x0:List UInt8)(h:jM N x0=some r):PM N r (Rc (aa 0 Try.f28)) (Qj x0):=
 av (m:=4000) (t:=
 ww (aa 0 Try.f28) (cY N N) x0 ([] :List Vpiece)) (by kernel_rfl) (by kernel_rfl) h (fun h=>vu N _ _ h)
theorem nX{N:Nat}(x0:List UInt8){r:da}(h:jM N x0=some r)(ρ:Rn):aE Try.prog 28 (([.a (.d .str x0)] :List (TV EE.T)).map (TV.to EE.toEnc ρ)) [] (fun out H=>out=.ret ((qh r).to EE.toEnc ρ)∧H=[]):=
 (rA (aa 0 Try.f28) 83 mixed (P1 N) Try.func28 (by kernel_rfl) rfl rfl rfl rfl (Qo x0 h) ρ).mono fun out H h=>cx.ret rfl h
def sK(i0:Nat)(i1:Nat)(i2:Nat)(r:Nat × VMask × (List Vthread) × (List (Int × Bool))):TV EE.T:=.a (.vec (.nam 10) i1 r.1)
def qV(i0:Nat)(i1:Nat)(i2:Nat)(r:Nat × VMask × (List Vthread) × (List (Int × Bool))):List (Nat × TB EE.T):=[(i0,.cs (cv EE (.nam 8) r.2.1)),(i1,.vec i1 (.nam 10) r.2.2.1),(i2,.imap .bool r.2.2.2)]
def gc(N:RecC2)(us:List (TV EE.T))(hs:List (Nat × TB EE.T)):XR EE.T:=
 gdX (eT us 5) <|
 bnX (aB us 0) fun i0=>
 bnX (aVi (.nam 10) us 1) fun i1=>
 bnX (aVn (.nam 10) us 1) fun x1_n=>
 bnX (aM us 2) fun i2=>
 bnX (aS EE 10 us 3) fun x3=>
 bnX (aD (.int .i64) us 4) fun x4=>
 bnX (bS EE 8 hs i0) fun y0=>
 bnX (bV (.nam 10) hs i1) fun y1=>
 bnX (bI .bool hs i2) fun y2=>
 gdX (bA hs [i0,i1,i2]) <|
 gdX (i4 [i0,i1,i2]) <|
 .mv (dr N x1_n x3 x4 y0 y1 y2) [i0,i1,i2] (mvL [i0,i1,i2] [100000,200001,100002]) 0 (sK i0 i1 i2) (qV i0 i1 i2)
def tP(N:RecC2):Prop:=XOk Try.prog EE 38 (gc N)
theorem p7(N:RecC2)(hN:tP N):XOk Try.prog EE 38 (gc N):=hN
theorem G7(n:Nat):tP ⟨n,fun _ _ _ _ _ _=>none⟩:=fun us hs=>
 aJ fun h1=>ak fun i0 h2=>ak fun i1 h3=>ak fun x1_n h4=>ak fun i2 h5=>ak fun x3 h6=>ak fun x4 h7=>ak fun y0 h8=>ak fun y1 h9=>ak fun y2 h10=>aJ fun h11=>aJ fun h12=>fun p hz=>by cases hz
def fC(i0:Nat)(i1:Nat)(i2:Nat)(r:bB):TV EE.T:=.a (.vec (.nam 10) i1 r.1)
def uF(i0:Nat)(i1:Nat)(i2:Nat)(r:bB):List (Nat × TB EE.T):=[(i0,.cs (cv EE (.nam 8) r.2.1)),(i1,.vec i1 (.nam 10) r.2.2.1),(i2,.imap .bool r.2.2.2)]
def fx(r:PR bB):RL EE.T:=pa (fC 100000 200001 100002) (uF 100000 200001 100002) r
def M2:Lvs:=⟨[(4,⟨[(0,false),(1,false),(2,false),(4,false),(8,false)],[],[(8,(some 10,[])),(100000,(some 8,[])),(100002,(none,[])),(200001,(none,[]))],[]⟩),(5,⟨[(0,false),(1,false),(2,false),(4,false),(8,false),(11,false)],[],[(8,(some 10,[])),(11,(some 7,[])),(100000,(some 8,[])),(100002,(none,[])),(200001,(none,[]))],[]⟩)],[],[5],[],false,[(100000,(some 8,[]))],[100000,200001,100002],[(14,[.cl 401104 (.v (.int .i64)) (.s 12)])],[(88,200001)]⟩
def Nj:List ResultVar:=[.tmp 10]
def I7(N:RecC2):Gam EE:=⟨[],EQT,[⟨38,gc N⟩,⟨55,oI N.n⟩],[]⟩
theorem Ip(N:RecC2)(hN:tP N):GOk Try.prog TT EE (I7 N):=GOk.consx (p7 N hN) (GOk.consx (ql N.n) (GOk.nil cN))
def CP(c:Code):List It2:=atR 5 c
def CA(x1_n:Nat)(x4:Int)(b8:Vthread)(b11:Vstep)(Tc:VMask)(Tj:List (Int × Bool))(Tg:List Vthread):TS EE.T:=⟨89,[(0,.a (.box 100000 0)),(1,.a (.vec (.nam 10) 200001 x1_n)),(2,.a (.mpr 100002)),(4,.a (.d (.int .i64) x4)),(8,.a (.box 8 0)),(11,.a (.box 11 0))],[(8,.cs (cv EE (.nam 10) b8)),(11,.cs (cv EE (.nam 7) b11)),(100000,.cs (cv EE (.nam 8) Tc)),(100002,.imap .bool Tj),(200001,.vec 200001 (.nam 10) Tg)],[]⟩
def K6(c:Code):List It2:=[.c c]
def K0(x1_n:Nat)(x3:Vthread)(x4:Int)(y0:VMask)(y1:List Vthread)(y2:List (Int × Bool)):TS EE.T:=⟨89,[(0,.a (.box 100000 0)),(1,.a (.vec (.nam 10) 200001 x1_n)),(2,.a (.mpr 100002)),(3,.ag (cv EE (.nam 10) x3)),(4,.a (.d (.int .i64) x4))],[(100000,.cs (cv EE (.nam 8) y0)),(200001,.vec 200001 (.nam 10) y1),(100002,.imap .bool y2)],[]⟩
def KC(c:Code)(f:Nat→Int→Vthread→Vstep→VMask→(List (Int × Bool))→(List Vthread)→Option (PR bB))(x1_n:Nat)(x4:Int)(b8:Vthread)(b11:Vstep)(Tc:VMask)(Tj:List (Int × Bool))(Tg:List Vthread):Tree (Lf EE.T × Option (PR bB)):=.leaf (.go (CP c) (CA x1_n x4 b8 b11 Tc Tj Tg),f x1_n x4 b8 b11 Tc Tj Tg)
abbrev FE(N:RecC2)(r:PR bB)(k:List It2)(s:TS EE.T):Prop:=fa (Y:=TT) EE (I7 N) M2 Nj (fun u=>u=fx r) k s
def jt(x:PR bB):Tree (Lf EE.T × Option (PR bB)):=.leaf (.done (fx x),some x)
theorem L1{N:RecC2}{r:PR bB}(n:Nat)(x1_n:Nat)(x4:Int)(b8:Vthread)(b11:Vstep)(Tc:VMask)(Tj:List (Int × Bool))(Tg:List Vthread)(h:gL N n x1_n x4 b8 b11 Tc Tj Tg=some r):FE N r (CP (aa 0 Try.f38)) (CA x1_n x4 b8 b11 Tc Tj Tg):=
 av (m:=4000) (t:=
 .cond (b11.kind==2)
 (
  .bnd (dr N x1_n ({ at_:=b11.a,slots:=b8.slots }:Vthread) x4 Tc Tg Tj) fun z2=>
  .sm z2 (fun z3=>
   jt (.ok (z3.1,z3.2.1,z3.2.2.1,z3.2.2.2))) (fun vz2=>
   jt (.pan vz2)))
 (
  .cond (b11.kind==1)
  (
   .bnd (dr N x1_n ({ at_:=b11.a,slots:=b8.slots }:Vthread) x4 Tc Tg Tj) fun z4=>
   .sm z4 (fun z5=>
    .bnd (dr N z5.1 ({ at_:=b11.b,slots:=b8.slots }:Vthread) x4 z5.2.1 z5.2.2.1 z5.2.2.2) fun z6=>
    .sm z6 (fun z7=>
     jt (.ok (z7.1,z7.2.1,z7.2.2.1,z7.2.2.2))) (fun vz6=>
     jt (.pan vz6))) (fun vz4=>
    jt (.pan vz4)))
  (
   .cond (b11.kind==3)
   (
    .bnd (ko N.n b8.slots) fun z8=>
    .sm z8 (fun z9=>
     .bnd (dg z9.1 b11.a) fun z10=>
     .bnd (z9.2[z10]?) fun z11=>
     .bnd (nR z9.1 (List.set z9.2 z10 x4)) fun z12=>
     .bnd (dr N x1_n ({ at_:=w64 (b8.at_+1),slots:=z12 }:Vthread) x4 Tc Tg Tj) fun z13=>
     .sm z13 (fun z14=>
      jt (.ok (z14.1,z14.2.1,z14.2.2.1,z14.2.2.2))) (fun vz13=>
      jt (.pan vz13))) (fun vz8=>
     jt (.pan vz8)))
   (
    .bnd (oz 32 x1_n Tg ([b8] :List Vthread)) fun z15=>
    jt (.ok (z15.length,Tc,z15,Tj)))))) (by kernel_rfl) (by kernel_rfl) h (⟨fun _=>⟨fun _=>aO (enc:=fx) rfl,fun _=>aO (enc:=fx) rfl⟩,⟨fun _=>⟨fun _=>fun _=>⟨fun _=>aO (enc:=fx) rfl,fun _=>aO (enc:=fx) rfl⟩,fun _=>aO (enc:=fx) rfl⟩,⟨fun _=>⟨fun _=>fun _=>fun _=>fun _=>fun _=>⟨fun _=>aO (enc:=fx) rfl,fun _=>aO (enc:=fx) rfl⟩,fun _=>aO (enc:=fx) rfl⟩,fun _=>aO (enc:=fx) rfl⟩⟩⟩)
theorem KI{N:RecC2}{r:PR bB}(x1_n:Nat)(x3:Vthread)(x4:Int)(y0:VMask)(y1:List Vthread)(y2:List (Int × Bool))(h:gE N x1_n x3 x4 y0 y1 y2=some r):FE N r (K6 (aa 0 Try.f38)) (K0 x1_n x3 x4 y0 y1 y2):=
 av (m:=4000) (t:=
 .cond ((tE y2 x3.at_).getD false)
 (
  jt (.ok (x1_n,y0,y1,y2)))
 (
  nlR 134 (
   .bnd (cg y0.steps x3.at_) fun z1=>
   KC (aa 0 Try.f38) (gL N N.n) x1_n x4 x3 z1 y0 (DM y2 x3.at_ true) y1))) (by kernel_rfl) (by kernel_rfl) h (⟨aO (enc:=fx) rfl,Ay (fun _=>fun h=>L1 N.n _ _ _ _ _ _ _ h)⟩)
def GK(x1_n:Nat)(x3:Vthread)(x4:Int)(y0:VMask)(y1:List Vthread)(y2:List (Int × Bool)):List (TV EE.T):=[.a (.box 100000 0),.a (.vec (.nam 10) 200001 x1_n),.a (.mpr 100002),.ag (cv EE (.nam 10) x3),.a (.d (.int .i64) x4)]
def Ar(x1_n:Nat)(x3:Vthread)(x4:Int)(y0:VMask)(y1:List Vthread)(y2:List (Int × Bool)):List (Nat × TB EE.T):=[(100000,.cs (cv EE (.nam 8) y0)),(200001,.vec 200001 (.nam 10) y1),(100002,.imap .bool y2)]
theorem qc{N:RecC2}(hN:tP N)(x1_n:Nat)(x3:Vthread)(x4:Int)(y0:VMask)(y1:List Vthread)(y2:List (Int × Bool)){r:PR bB}(h:gE N x1_n x3 x4 y0 y1 y2=some r)(ρ:Rn)(hi:Inj ρ (Ar x1_n x3 x4 y0 y1 y2)):aE Try.prog 38 ((GK x1_n x3 x4 y0 y1 y2).map (TV.to EE.toEnc ρ)) (hTo EE.toEnc ρ (Ar x1_n x3 x4 y0 y1 y2)) (cx EE ρ fun u=>u=fx r):=
 dO (aa 0 Try.f38) 89 mixed (Ip N hN) Try.func38 (by kernel_rfl) rfl rfl rfl rfl (KI x1_n x3 x4 y0 y1 y2 h) ρ hi
def rb(N:RecC2)(us:List (TV EE.T))(hs:List (Nat × TB EE.T)):XR EE.T:=
 gdX (eT us 5) <|
 bnX (aB us 0) fun i0=>
 bnX (aVi (.nam 10) us 1) fun i1=>
 bnX (aVn (.nam 10) us 1) fun x1_n=>
 bnX (aM us 2) fun i2=>
 bnX (aS EE 10 us 3) fun x3=>
 bnX (aD (.int .i64) us 4) fun x4=>
 bnX (bS EE 8 hs i0) fun y0=>
 bnX (bV (.nam 10) hs i1) fun y1=>
 bnX (bI .bool hs i2) fun y2=>
 gdX (bA hs [i0,i1,i2]) <|
 gdX (i4 [i0,i1,i2]) <|
 .mv (gE N x1_n x3 x4 y0 y1 y2) [i0,i1,i2] (mvL [i0,i1,i2] [100000,200001,100002]) 0 (fC i0 i1 i2) (uF i0 i1 i2)
theorem oY(N:RecC2)(hN:tP N):XOk Try.prog EE 38 (rb N):=fun us hs=>
 aJ fun h1=>ak fun i0 h2=>ak fun i1 h3=>ak fun x1_n h4=>ak fun i2 h5=>ak fun x3 h6=>ak fun x4 h7=>ak fun y0 h8=>ak fun y1 h9=>ak fun y2 h10=>aJ fun h11=>aJ fun h12=>fun p hz ρ hi=>gQ (ex:=[]) (ks:=[100000,200001,100002]) (us':=GK x1_n x3 x4 y0 y1 y2) (h0:=Ar x1_n x3 x4 y0 y1 y2) (ρ':=jT ρ [i0,i1,i2]) (uc:=fC 100000 200001 100002) (u:=fC i0 i1 i2) (hc:=uF 100000 200001 100002) (h:=uF i0 i1 i2) hi h11 (by kernel_rfl) ⟨gJ h2 (by kernel_rfl),Qi h3 h4 (by kernel_rfl),PH h5 (by kernel_rfl),Lm h6,ja h7,bU h1⟩ ⟨(by kernel_rfl),so h8,(by kernel_rfl),kY h9 (by kernel_rfl),(by kernel_rfl),PK h10,trivial⟩ ⟨.inr rfl,.inl rfl,.inr rfl,trivial⟩ h12 (fun hj=>qc hN x1_n x3 x4 y0 y1 y2 hz _ hj) (fun z=>⟨by kernel_rfl,by kernel_rfl,by kernel_rfl,by kernel_rfl⟩)
theorem lD(n0:Nat):∀m,tP ⟨n0,fN n0 m⟩
 |0=>G7 n0
 |m+1=>oY ⟨n0,fN n0 m⟩ (lD n0 m)
def iC(N:Nat):List (TV EE.T)→List (Nat × TB EE.T)→XR EE.T:=gc ⟨N,fN N N⟩
theorem j8(N:Nat):XOk Try.prog EE 38 (iC N):=lD N N
attribute [local irreducible] AS.nf OpV bj Stk lP LJ aE df Lo Ia Awp Rq HW pF mr RW RE vm
set_option maxHeartbeats 8000000
def lfs{T:Nat→Type}:Tree (OL T)→List (TS T)
 |.leaf (.st s)=>[s]
 |.nl [] a b=>lfs a++lfs b
 |_=>[]
def okL{T:Nat→Type}:Tree (OL T)→Bool
 |.leaf (.st _)=>true
 |.nl [] a b=>okL a && okL b
 |_=>false
theorem tw{T:Nat→Type}{R:OL T→Prop}:∀ {t:Tree (OL T)},okL t=true→(∀s∈lfs t,R (.st s))→t.holds R
 |.leaf (.st s),_,h=>h s (List.mem_singleton_self s)
 |.leaf (.pan v),h0,_=>by cases h0
 |.nl [] a b,h0,h=>by
  simp only[okL,Bool.and_eq_true] at h0
  exact⟨fun _=>tw h0.1 fun s hs=>h s (List.mem_append.2 (.inl hs)),tw h0.2 fun s hs=>h s (List.mem_append.2 (.inr hs))⟩
 |.nl (_::_) a b,h0,_=>by cases h0
 |.cond _ _ _,h0,_=>by cases h0
 |.bnd _ _,h0,_=>by cases h0
 |.sm _ _ _,h0,_=>by cases h0
 |.fail,h0,_=>by cases h0
def FY:List Oper:=[{ dst:=some 10,op:=Op.load 28 (Operand.tmp 2),type:=28,pos:= "mask.go:248",after:= #[{ on:=1,ground:=Ground.gcOnly Departure.lateStores }],guard:=none },
 { dst:=none,op:=Op.store 54 (Operand.tmp 0) (Operand.const (Value.pointer none)),type:=0,pos:= "mask.go:248",after:= #[{ on:=0,ground:=Ground.textOnly Departure.lateStores }],guard:=none },
 { dst:=none,op:=Op.store 28 (Operand.tmp 1) (Operand.tmp 10),type:=0,pos:= "mask.go:248",after:= #[{ on:=0,ground:=Ground.data },{ on:=1,ground:=Ground.chain },{ on:=0,ground:=Ground.phase },{ on:=1,ground:=Ground.phase }],guard:=none }]
def cpT(e a:Int):TS EE.T:=⟨11,[(0,.a (.box 100000 0)),(1,.a (.box 100001 0)),(2,.a (.box 100002 0)),(3,.a .tt),(9,.a .tt)],[(100002,.cs [.d (.int .i64) e,.d (.int .i64) a]),(100000,.cs [.raw (.pointer none)]),(100001,.cs [.d (.int .i64) (0:Int),.d (.int .i64) (0:Int)])],[]⟩
def cpH(e a:Int):List (Nat × TB EE.T):=[(100001,.cs [.d (.int .i64) e,.d (.int .i64) a]),(100000,.cs [.raw (.pointer none)]),(100002,.cs [.d (.int .i64) e,.d (.int .i64) a]),(100000,.cs [.raw (.pointer none)]),(100001,.cs [.d (.int .i64) (0:Int),.d (.int .i64) (0:Int)])]
def cpR(k2 k3 kb:Nat):Rn:=⟨fun i=>if i=100000 then⟨k2,false,[]⟩ else if i=100001 then⟨k3,false,[]⟩ else⟨kb,false,[]⟩⟩
theorem HE(e a:Int):okL (HP TT EE ⟨[],EQT,[],[]⟩ FY (cpT e a))=true:=by kernel_rfl
theorem IP(e a:Int):(lfs (HP TT EE ⟨[],EQT,[],[]⟩ FY (cpT e a))).map (·.h)=[cpH e a,cpH e a] :=by kernel_rfl
def faultV(e a:Int):Value:=.iface 28 (.agg #[.int .i64 e,.int .i64 a])
set_option maxRecDepth 100000 in
theorem OW(k2 k3:Nat)(u0 c0 c1:AV)(hne:k2≠k3):vm Try.prog 33 [.v (.pointer (some ⟨k2,0,none⟩)),.v (.pointer (some ⟨k3,0,none⟩))] [(k2,[u0]),(k3,[c0,c1])] .returning .returning (fun out H'=>out=.ret (.tu [])∧look H' k2=some [u0] ∧look H' k3=some [c0,c1]):=by
 unfold vm
 refine vo Try.func33 rfl rfl rfl (fun X=>.v .nilIface) rfl rfl O5 ?_
 dsimp only[slotsOf,List.drop_succ_cons,List.drop_zero]
 repeat (first
  | ((first|apply BZ);(next=>(first| (simp only[go_sem,Nat.reduceBEq,Nat.reduceEqDiff,reduceIte,reduceCtorEq,String.reduceEq,Nat.reduceAdd,Int.reduceToNat];exact rfl))))
  | ((first|apply xj rfl rfl rfl rfl);(next=>(first
   | (refine sC (T:=TT) rfl ?_;(first|exact trivial))
   | (apply opk ⟨_,.typeAssert _ _ _ _,_,_,_,_⟩;first|exact ux (T:=TT) rfl rfl rfl rfl|fail)
   |fail)))
  | (refine arO _ ?_;first
   | (refine arO ⟨_,.store _ _ _,_,_,_,_⟩ ?_;first
    | (apply qFS rfl rfl;(next=>(first
     | (apply gz (T:=TT) rfl;(next=>(first|exact ga|fail));(next=>rfl);(next=>rfl);(next=>rfl);(next=>rfl);(next=>rfl);(next=>rfl);(next=>rfl);(next=>rfl))
     |fail)))
    |fail)
   | (refine arO ⟨_,.alloc _,_,_,_,_⟩ ?_;first
    | (refine lb rfl rfl (pA (T:=TT) rfl rfl ?_);intro kb hkb;(repeat (have hkn:=(pD hkb).1;replace hkb:=(pD hkb).2));(try have hkl:=n5 hkb);clear hkb;refine PC ?_)
    |fail)
   |fail)
  |refine wL ?_
  | (refine arE ?_;refine rS [0,1,2,3,9] rfl ?_)
  |refine mQ ?_
  |refine Ap ?_
  |refine DI rfl ?_
  | (refine arC (.cond _ _ _) ?_;first| (refine js rfl ?_ ?_;(next=>(first|rfl)))|fail)
  |fail)
 rename_i hkn2
 exact MG ⟨_,rfl,rfl,rO hkn2 ga,rO hkn (rO (fun e=>hne e.symm) ga)⟩
set_option maxRecDepth 100000 in
theorem Pc(k2 k3:Nat)(e a:Int)(hne:k2≠k3):vm Try.prog 33 [.v (.pointer (some ⟨k2,0,none⟩)),.v (.pointer (some ⟨k3,0,none⟩))] [(k2,[.v (.pointer none)]),(k3,[.v (.int .i64 0),.v (.int .i64 0)])] (.panicking [⟨faultV e a,false,false⟩]) (.panicking [⟨faultV e a,true,false⟩]) (fun out H'=>out=.ret (.tu [])∧look H' k2=some [.v (.pointer none)] ∧look H' k3=some [.v (.int .i64 e),.v (.int .i64 a)]):=by
 unfold vm
 refine vo (ru:=.ifc 28 (.ag [.v (.int .i64 e),.v (.int .i64 a)])) Try.func33 rfl rfl rfl (fun X=>.ifc _ _ _ (.ag _ #[_,_] rfl (fun i u x hu hx=>by
  match i,hu,hx with
  |0,hu,hx=>simp at hu hx;subst hu hx;exact .v _
  |1,hu,hx=>simp at hu hx;subst hu hx;exact .v _))) rfl rfl (NA (faultV e a)) ?_
 dsimp only[slotsOf,List.drop_succ_cons,List.drop_zero]
 repeat (first
  | ((first|apply BZ);(next=>(first| (simp only[go_sem,Nat.reduceBEq,Nat.reduceEqDiff,reduceIte,reduceCtorEq,String.reduceEq,Nat.reduceAdd,Int.reduceToNat];exact rfl))))
  | (apply xj rfl rfl rfl rfl;(next=>(first
   | (refine sC (T:=TT) rfl ?_;(first|exact trivial))
   | (apply opk ⟨_,.typeAssert _ _ _ _,_,_,_,_⟩;first|exact uu (T:=TT) rfl rfl rfl rfl|fail)
   |fail)))
  | (refine arO _ ?_;first
   | (refine arO ⟨_,.store _ _ _,_,_,_,_⟩ ?_;first
    | (apply qFS rfl rfl;(next=>(first
     | (apply gz (T:=TT) rfl;(next=>(first|exact ga|fail));(next=>rfl);(next=>rfl);(next=>rfl);(next=>rfl);(next=>rfl);(next=>rfl);(next=>rfl);(next=>rfl))
     |fail)))
    |fail)
   | (refine arO ⟨_,.alloc _,_,_,_,_⟩ ?_;first
    | (refine lb rfl rfl (pA (T:=TT) rfl rfl ?_);intro kb hkb;(repeat (have hkn:=(pD hkb).1;replace hkb:=(pD hkb).2));(try have hkl:=n5 hkb);clear hkb;refine PC ?_)
    |fail)
   |fail)
  |refine wL ?_
  | (refine arE ?_;refine rS [0,1,2,3,9] rfl ?_)
  |refine mQ ?_
  |refine DI rfl ?_
  | (refine arC (.cond _ _ _) ?_;first| (refine mT rfl ?_ ?_;(next=>(first|rfl)))|fail)
  |fail)
 rename_i hkn2
 have hinj:Inj (cpR k2 k3 kb) (cpT e a).h:=by
  intro p hp q hq
  simp only[cpT,List.mem_cons,List.not_mem_nil,or_false] at hp hq
  rcases hp with rfl|rfl|rfl<;> rcases hq with rfl|rfl|rfl<;> refine⟨fun _ _ h=> ?_,fun h=> ?_⟩<;> first|rfl| (exfalso;revert h;simp[cpR,Rn.b];omega)| (exfalso;revert h;simp)
 refine F2 (Y:=TT) (E:=EE) (G:=⟨[],EQT,[],[]⟩) (ρ:=cpR k2 k3 kb) (σ:=cpT e a) (ops:=FY) mixed (GOk.nil cN) hinj (tw (HE e a) fun s hs=> ?_)
 have hs2:s.h=cpH e a:=by
  have:s.h∈(lfs (HP TT EE ⟨[],EQT,[],[]⟩ FY (cpT e a))).map (·.h):=List.mem_map_of_mem hs
  rw[IP] at this
  simpa using this
 intro ρ' hi' ha
 have e0:ρ' 100000=k2:=by
  have:=ha 100000 rfl
  show(ρ'.k 100000).b=k2
  rw[this];rfl
 have e1:ρ' 100001=k3:=by
  have:=ha 100001 rfl
  show(ρ'.k 100001).b=k3
  rw[this];rfl
 have hh:(TS.to EE.toEnc ρ' s).h=hTo EE.toEnc ρ' (cpH e a):=by rw[← hs2];rfl
 refine MG ⟨.tu [],rfl,rfl,?_,?_⟩
 ·rw[hh,← e0]
  exact rO (fun e=>hne (by rw[← e0,← e1];exact e)) ga
 ·rw[hh,← e1]
  exact ga
end Go.Proofs.Ytlhjbhgkhpbnfaa
namespace Go.Proofs.Ytlhjbhgkhpbnfaa
open Go.Shelf Go.RowKit P
def Try.laysR_166:Go.Shelf.Ren:=⟨fun|166=>30|169=>31|170=>29|240=>48|276=>60|n=>n,fun|0=>0|3=>3|4=>4|5=>5|9=>9|20=>20|37=>46|70=>79|72=>81|75=>86|80=>89|127=>116|164=>124|n=>n,fun|n=>n⟩
set_option maxRecDepth 100000 in
theorem Try.laysn166:Go.Proofs.Lays.n166 Try.prog Try.laysR_166:={ mixed:=by kernel_rfl,f166:=Try.func30.trans (congrArg some (by kernel_rfl)),f240:=Try.func48.trans (congrArg some (by kernel_rfl)),f276:=Try.func60.trans (congrArg some (by kernel_rfl)),t0:=Try.underlying0,a0:=Try.isAgg0,z0:=Try.sizeOf0,v0:=Try.zeroValue0,t3:=Try.underlying3,a3:=Try.isAgg3,z3:=Try.sizeOf3,v3:=Try.zeroValue3,t4:=Try.underlying4,a4:=Try.isAgg4,z4:=Try.sizeOf4,v4:=Try.zeroValue4,t9:=Try.underlying9,a9:=Try.isAgg9,z9:=Try.sizeOf9,v9:=Try.zeroValue9,t20:=Try.underlying20,a20:=Try.isAgg20,z20:=Try.sizeOf20,v20:=Try.zeroValue20,t37:=Try.underlying46,a37:=Try.isAgg46,z37:=Try.sizeOf46,v37:=Try.zeroValue46,t70:=Try.underlying79,a70:=Try.isAgg79,z70:=Try.sizeOf79,v70:=Try.zeroValue79,t72:=Try.underlying81,a72:=Try.isAgg81,z72:=Try.sizeOf81,v72:=Try.zeroValue81,t75:=Try.underlying86,a75:=Try.isAgg86,z75:=Try.sizeOf86,v75:=Try.zeroValue86,t164:=Try.underlying124,a164:=Try.isAgg124,z164:=Try.sizeOf124,v164:=Try.zeroValue124 }
set_option maxRecDepth 100000 in
theorem Try.laysn170:Go.Proofs.Lays.n170 Try.prog Try.laysR_166:={ mixed:=by kernel_rfl,f170:=Try.func29.trans (congrArg some (by kernel_rfl)),t0:=Try.underlying0,a0:=Try.isAgg0,z0:=Try.sizeOf0,v0:=Try.zeroValue0,t3:=Try.underlying3,a3:=Try.isAgg3,z3:=Try.sizeOf3,v3:=Try.zeroValue3,t37:=Try.underlying46,a37:=Try.isAgg46,z37:=Try.sizeOf46,v37:=Try.zeroValue46,t70:=Try.underlying79,a70:=Try.isAgg79,z70:=Try.sizeOf79,v70:=Try.zeroValue79,t72:=Try.underlying81,a72:=Try.isAgg81,z72:=Try.sizeOf81,v72:=Try.zeroValue81 }
set_option maxRecDepth 100000 in
theorem Try.laysn169:Go.Proofs.Lays.n169 Try.prog Try.laysR_166:={ mixed:=by kernel_rfl,f169:=Try.func31.trans (congrArg some (by kernel_rfl)),t0:=Try.underlying0,a0:=Try.isAgg0,z0:=Try.sizeOf0,v0:=Try.zeroValue0,t3:=Try.underlying3,a3:=Try.isAgg3,z3:=Try.sizeOf3,v3:=Try.zeroValue3,t9:=Try.underlying9,a9:=Try.isAgg9,z9:=Try.sizeOf9,v9:=Try.zeroValue9,t37:=Try.underlying46,a37:=Try.isAgg46,z37:=Try.sizeOf46,v37:=Try.zeroValue46,t70:=Try.underlying79,a70:=Try.isAgg79,z70:=Try.sizeOf79,v70:=Try.zeroValue79,t72:=Try.underlying81,a72:=Try.isAgg81,z72:=Try.sizeOf81,v72:=Try.zeroValue81,t127:=Try.underlying116,a127:=Try.isAgg116,z127:=Try.sizeOf116,v127:=Try.zeroValue116 }
theorem Cy:Builder.Extra Try.prog Try.laysR_166:={ sizeBuilder:=by kernel_rfl,liesBuilder:=by kernel_rfl,t5:=Try.underlying5,a5:=Try.isAgg5,z5:=Try.sizeOf5,v5:=Try.zeroValue5,infoByte:=by kernel_rfl,cellsByte:=by kernel_rfl,sizeByte:=by kernel_rfl,neB5:=by decide }
abbrev G0(B b:Nat)(g:List UInt8)(w:World):Prop:=Lib.IsBuilder 81 5 B b (Lib.byteCells g) w
theorem pn{T e:TypeId}{B b:Nat}{bs:List Value}{w w':World}(h:Lib.IsBuilder T e B b bs w)(hb:Below w.heap.size w w'):Lib.IsBuilder T e B b bs w':=by
 have key:∀p,Lib.BuilderAt T e B b p bs w→Lib.BuilderAt T e B b p bs w':=by
  rintro p ⟨h1,v,h2,h3,h4⟩
  refine⟨h1,v,?_,?_,h4⟩
  ·rw[hb.block b (Array.getElem?_eq_some_iff.1 h2).1];exact h2
  ·refine⟨h3.1,?_⟩
   rcases h3.2 with hn| ⟨g,cap,cur,rfl,k1,k2,rest⟩
   ·exact .inl hn
   ·exact .inr ⟨g,cap,cur,rfl,k1,by rw[hb.block g (Array.getElem?_eq_some_iff.1 k2).1];exact k2,rest⟩
 rcases h with h|h
 ·exact .inl (key _ h)
 ·exact .inr (key _ h)
theorem ox{B B':Nat}{w w':World}(h:Below B' w w')(hB:B≤B'):Below B w w':=⟨h.os,h.tape,h.output,h.size,fun k hk=>h.block k (by omega)⟩
theorem vc(B b:Nat)(g s:List UInt8)(w:World)(h:G0 B b g w)(hlen:g.length+s.length≤140737488355328)(hBw:B≤w.heap.size):
  Calls Try.prog 30 #[.pointer (some ⟨b,0,none⟩),.string (mkB s)] w fun e w'=>e=.returned (.tuple #[.int .i64 s.length,.nilIface])∧(G0 B b (g++s) w'∧Below B w w'):=
 (Any.Builder_WriteString Try.laysn166 Cy B b (Lib.byteCells g) (mkB s) w h (by rw[Lib.byteCells_length];exact hlen) hBw).mono fun e w' k=>by
  obtain⟨k1,k2,k3⟩:=k
  refine⟨k1,.inr ?_,k3⟩
  rw[Lib.byteCells_append,show Lib.byteCells s=Lib.strCells (mkB s) from(Lib.strCells_eq (mkB s)).symm]
  exact k2
theorem t8(B b:Nat)(g:List UInt8)(w:World)(h:G0 B b g w):
  Calls Try.prog 29 #[.pointer (some ⟨b,0,none⟩)] w fun e w'=>e=.returned (.int .i64 g.length)∧w'=w:=
 (Any.Builder_Len Try.laysn170 B b (Lib.byteCells g) w h).mono fun e w' k=>by rw[Lib.byteCells_length] at k;exact k
theorem SH(B b:Nat)(g:List UInt8)(w:World)(h:G0 B b g w)(hBw:B≤w.heap.size):
  Calls Try.prog 31 #[.pointer (some ⟨b,0,none⟩)] w fun e w'=>e=.returned (.string (mkB g))∧Below B w w':=
 Any.Builder_String_any Try.laysn169 Cy B b g w h hBw
theorem l8{P:Program}{f:FuncId}{us:List AV}{u:AV}{vs:List Value}{X:GW}(h:aE P f us [] (fun out H=>out=.ret u∧H=[]))(hl:vs.length=us.length)(hg:∀b n,X.g b=some n→b < X.w.heap.size)
  (hr:∀ (i:Nat) u x,us[i]? =some u→vs[i]? =some x→Rel X u x∧cA (some u)=none):
  Calls P f vs.toArray X.w fun e w'=>∃X' y,e=.returned y∧X'.w=w'∧Rel X' u y∧Below X.w.heap.size X.w w'∧(∀b n,X'.g b=some n→b < w'.heap.size)∧∀b,b < X.w.heap.size→X'.g b=X.g b:=by
 have hnown:∀r,AS.own ⟨us.length,slotsOf 0 us,[],[]⟩ r=none:=by
  intro r
  cases r with
  |c k o=>rfl
  |s t=>
   simp only[AS.own]
   cases hlk:look (slotsOf 0 us) t with
   |none=>rfl
   |some u=>
    obtain⟨_,h2⟩:=cS us 0 t u hlk
    rw[Nat.sub_zero] at h2
    have ht:t < vs.length:=by rw[hl];exact(List.getElem?_eq_some_iff.1 h2).1
    exact(hr t u vs[t] h2 (List.getElem?_eq_getElem ht)).2
 have hs:SimE (fun b=>b < X.w.heap.size) X ⟨us.length,slotsOf 0 us,[],[]⟩ vs.toArray:=by
  refine⟨⟨by simp[hl],hg,fun b hb=>hb,fun t u hu=> ?_,fun k cs hk=>by simp[aH] at hk,fun x r hx=>by simp[aH] at hx,(fun r sz l ho=>by rw[hnown r] at ho;cases ho),(fun r r' sz l sz' l' a n c a' n' c' _ ho=>by rw[hnown r] at ho;cases ho)⟩,(fun p hp=>by cases hp)⟩
  obtain⟨_,h2⟩:=cS us 0 t u hu
  rw[Nat.sub_zero] at h2
  have ht:t < vs.length:=by rw[hl];exact(List.getElem?_eq_some_iff.1 h2).1
  have:vs.toArray.getD t undef=vs[t] :=by simp[ht]
  rw[this]
  exact(hr t u vs[t] h2 (List.getElem?_eq_getElem ht)).1
 refine(h.2 _ X vs.toArray hs).mono fun e w' ⟨X',out,H',p1,p2,p3,p4⟩=> ?_
 obtain⟨rfl,rfl⟩:=p2
 obtain⟨y,rfl,hy⟩:=p3
 subst p1
 exact⟨X',y,rfl,rfl,by simpa using hy.slot 0 u (by simp[ab]),⟨p4.os,p4.tape,p4.output,p4.size,fun b hb=>(p4.frame b hb).1⟩,hy.gb,fun b hb=>(p4.frame b hb).2⟩
theorem ig{B:Nat}{w w':World}{a:Addr}{v:Value}(hb:Below B w w')(ha:a.block < B)(h:w.cell? a=some v):w'.cell? a=some v:=by
 have:=hb.block a.block ha
 simp only[World.cell?,this] at h ⊢
 exact h
end Go.Proofs.Ytlhjbhgkhpbnfaa
namespace Go.Proofs.Ytlhjbhgkhpbnfaa
open Go.RowKit P
theorem jv{F:Nat→Prop}{X:GW}{σ:AS}{tm:Array Value}(h:SimE F X σ tm){B o:Nat}{cs:List AV}(hb:look σ.h B=some cs)(hm:eS cs=false){v:Value}(hu:cs[o]? =some (.v v)):X.w.cell? ⟨B,o,none⟩=some v∧X.w.frozen? ⟨B,o,none⟩=false:=by
 obtain⟨_,_,arr,e,fr,h1,h2,h3,h4⟩:=(h.box B cs hb).cells hm
 have ho:o < arr.size:=by rw[h2];exact(List.getElem?_eq_some_iff.1 hu).1
 have hx:arr[o]? =some arr[o] :=Array.getElem?_eq_getElem ho
 have:=b9 (h4 o _ _ hu hx)
 refine⟨?_,h3 o⟩
 rw[World.cell?,h1]
 show arr[o]? =some v
 rw[hx,this]
def yN(N:Nat)(m:List UInt8):Option (PR aw):=cP ⟨N,bh N N⟩ m 0 0 0 []
def cmH(s:List UInt8)(at_ gr:Int)(n:Nat)(l:List Vstep):List (Nat × TB EE.T):=[(100000,.cs [.d .str s,.d (.int .i64) at_,.d (.int .i64) gr,.vec (.nam 7) 200001 n]),(200001,.vec 200001 (.nam 7) l)]
def cmR(kx:Nat):Rn:=⟨fun i=>if i=100000 then⟨kx,false,[]⟩ else⟨0,true,[]⟩⟩
abbrev tq(W:World)(kx:Nat)(b:Nat):Prop:=b < W.heap.size∧b≠kx
theorem Lw(m:List UInt8)(W:World)(kx:Nat)(T:TypeId)(hk:W.heap[kx]? =some (.cells #[.string (mkB m),.int .i64 0,.int .i64 0,.slice none 0 0] T (0,0))):SimE (tq W kx) ⟨W,fun _=>none⟩ ⟨1,slotsOf 0 [.v (.pointer (some ⟨kx,0,none⟩))],[(kx,[.v (.string (mkB m)),.v (.int .i64 0),.v (.int .i64 0),.v (.slice none 0 0)])],[]⟩ #[.pointer (some ⟨kx,0,none⟩)] :=by
 refine⟨⟨rfl,fun b n h=>(by cases h),fun b h=>h.1,fun t u hu=> ?_,fun k cs hk'=> ?_,fun x r hx=>by simp[aH] at hx,fun r sz l ho=> ?_,fun r r' sz l sz' l' a n c a' n' c' _ ho=> ?_⟩,fun p hp=>by cases hp⟩
 ·simp only[slotsOf,ab,aH] at hu
  split at hu
  ·rename_i e;subst e;cases hu;exact .v _
  ·cases hu
 ·simp only[ab,aH] at hk'
  split at hk'
  ·rename_i e
   subst e
   cases hk'
   refine dD.box ⟨rfl,fun h=>h.2 rfl,_,_,_,hk,rfl,fun o=>by simp[World.frozen?,hk],fun o u x hu hx=> ?_⟩
   match o,hu,hx with
   |0,hu,hx=>simp at hu hx;subst hu hx;exact .v _
   |1,hu,hx=>simp at hu hx;subst hu hx;exact .v _
   |2,hu,hx=>simp at hu hx;subst hu hx;exact .v _
   |3,hu,hx=>simp at hu hx;subst hu hx;exact .v _
   |n+4,hu,hx=>simp at hu
  ·cases hk'
 all_goals
  exfalso
  cases r with
  |s t=>
   simp only[AS.own,slotsOf,ab,aH] at ho
   split at ho<;> cases ho
  |c k o=>
   simp only[AS.own,ab,aH] at ho
   split at ho
   ·rename_i cs hcs
    split at hcs
    ·cases hcs
     match o,ho with
     |0,ho=>cases ho
     |1,ho=>cases ho
     |2,ho=>cases ho
     |3,ho=>cases ho
     |n+4,ho=>simp[cA] at ho
    ·cases hcs
   ·cases ho
theorem EV{N:Nat}(m:List UInt8)(W:World)(kx:Nat)(T:TypeId)(hk:W.heap[kx]? =some (.cells #[.string (mkB m),.int .i64 0,.int .i64 0,.slice none 0 0] T (0,0))){r:PR aw}(h:yN N m=some r):
  Calls Try.prog 34 #[.pointer (some ⟨kx,0,none⟩)] W fun e w'=>∃X':GW,X'.w=w'∧Ext (tq W kx) ⟨W,fun _=>none⟩ X'∧match r with
   |.ok z=>e=.returned (.bool z.1)∧∃ρ:Rn,ρ 100000=kx∧Inj ρ (cmH z.2.1 z.2.2.1 z.2.2.2.1 z.2.2.2.2.1 z.2.2.2.2.2)∧SimE (tq W kx) X' ⟨1,[(0,.v (.bool z.1))],hTo EE.toEnc ρ (cmH z.2.1 z.2.2.1 z.2.2.2.1 z.2.2.2.2.1 z.2.2.2.2.2),[]⟩ #[.bool z.1]
   |.pan v=>e=.panicked [{ v:=v,recovered:=false }] :=by
 have hinj:Inj (cmR kx) (cmH m 0 0 0 []):=by
  intro p hp q hq
  simp only[cmH,List.mem_cons,List.not_mem_nil,or_false] at hp hq
  rcases hp with rfl|rfl<;> rcases hq with rfl|rfl
  ·exact⟨fun _ _ _=>rfl,fun _=>rfl⟩
  ·exact⟨(fun _ h2 _=>by cases h2),(fun h=>by cases h)⟩
  ·exact⟨(fun h1 _ _=>by cases h1),(fun h=>by cases h)⟩
  ·exact⟨fun _ _ _=>rfl,fun _=>rfl⟩
 have hc:=gX (iN N N) m 0 0 0 [] h (cmR kx) hinj
 refine(hc.2 (tq W kx) ⟨W,fun _=>none⟩ #[.pointer (some ⟨kx,0,none⟩)] (Lw m W kx T hk)).mono ?_
 rintro e w' ⟨X',out,H',rfl,hp,he,hx⟩
 refine⟨X',rfl,hx,?_⟩
 obtain⟨q,ρ,rfl,ha,hq⟩:=hp
 cases r with
 |ok z=>
  obtain⟨rfl,rfl,hi⟩:=hq
  obtain⟨v,rfl,hs⟩:=he
  have hv:v=.bool z.1:=by
   have:=b9 (hs.slot 0 (.v (.bool z.1)) (by exact ga))
   simpa using this
  subst hv
  refine⟨rfl,ρ,?_,hi,hs⟩
  have:=ha 100000 rfl
  show(ρ.k 100000).b=kx
  rw[this];rfl
 |pan v=>
  obtain⟨rfl,rfl⟩:=hq
  exact he.1
theorem SimE.args{F:Nat→Prop}{X:GW}{n:Nat}{t:List (Nat × AV)}{H:List (Nat × List AV)}{tm vs:Array Value}{us:List AV}(h:SimE F X ⟨n,t,H,[]⟩ tm)(hl:vs.size=us.length)(hu:∀ (i:Nat) u,us[i]? =some u→Rel X u (vs.getD i undef)∧cA (some u)=none):SimE F X ⟨us.length,slotsOf 0 us,H,[]⟩ vs:=by
 have hnoc:∀ (s sz:Nat) l,AS.own ⟨us.length,slotsOf 0 us,H,[]⟩ (.s s)=some (sz,l)→False:=fun s sz l ho=>by
  simp only[AS.own] at ho
  cases hlk:look (slotsOf 0 us) s with
  |none=>rw[hlk] at ho;cases ho
  |some u=>
   obtain⟨_,h2⟩:=cS us 0 s u hlk
   rw[Nat.sub_zero] at h2
   rw[hlk,(hu s u h2).2] at ho
   cases ho
 refine h.other hl h.fb (fun s u hs=> ?_) (fun k cs hk=>⟨hk,(h.box k cs hk).nF⟩) rfl (fun r=>r) (fun r sz l ho=>.inr ?_) (fun _ _ _ _ _ _ _ _ hne _ _ _ _=>hne)
 ·obtain⟨_,h2⟩:=cS us 0 s u hs
  rw[Nat.sub_zero] at h2
  exact(hu s u h2).1
 ·cases r with
  |s s=>exact(hnoc s sz l ho).elim
  |c k o=>exact⟨ho,rfl,fun q n c hr=>(h.own_nF (r:=.c k o) ho hr).1⟩
theorem Qs{F:Nat→Prop}{X:GW}{n:Nat}{t:List (Nat × AV)}{tm:Array Value}{kx:Nat}{ρ:Rn}{s:List UInt8}{at_ gr:Int}{k:Nat}{l:List Vstep}(hs:SimE F X ⟨n,t,hTo EE.toEnc ρ (cmH s at_ gr k l),[]⟩ tm)(hk:ρ 100000=kx)(hi:Inj ρ (cmH s at_ gr k l))(e a:Int):
  Calls Try.prog 35 #[.pointer (some ⟨kx,0,none⟩),.int .i64 e,.int .i64 a] X.w fun x w'=>x=.panicked [{ v:=faultV e a,recovered:=false }] ∧∃X':GW,X'.w=w'∧Ext F X X':=by
 have hc:=g6 (N:=0) e a s at_ gr k l (r:=.pan (faultV e a)) rfl ρ hi
 subst hk
 refine(hc.2 F X #[.pointer (some ⟨ρ 100000,0,none⟩),.int .i64 e,.int .i64 a] (hs.args rfl fun i u hu=> ?_)).mono ?_
 ·match i,hu with
  |0,hu=>cases hu;exact⟨.v _,rfl⟩
  |1,hu=>cases hu;exact⟨.v _,rfl⟩
  |2,hu=>cases hu;exact⟨.v _,rfl⟩
  |n+3,hu=>cases hu
 ·rintro x w' ⟨X',out,H',rfl,hp,he,hx⟩
  obtain⟨q,ρ',rfl,ha,hq⟩:=hp
  obtain⟨rfl,rfl⟩:=hq
  exact⟨he.1,X',rfl,hx⟩
def doneS:Vstep:=⟨4,0,0,none⟩
theorem RX{F:Nat→Prop}{X:GW}{n:Nat}{t:List (Nat × AV)}{tm:Array Value}{kx:Nat}{ρ:Rn}{s:List UInt8}{at_ gr:Int}{k:Nat}{l l':List Vstep}(hs:SimE F X ⟨n,t,hTo EE.toEnc ρ (cmH s at_ gr k l),[]⟩ tm)(hk:ρ 100000=kx)(hi:Inj ρ (cmH s at_ gr k l))(hv:oz 32 k l [doneS] =some l'):
  Calls Try.prog 36 #[.pointer (some ⟨kx,0,none⟩),.agg #[.int .i64 4,.int .i64 0,.int .i64 0,.pointer none]] X.w fun x w'=>(∃v,x=.returned v)∧∃X':GW,X'.w=w'∧Ext F X X'∧∃ (ρ':Rn) (t':List (Nat × AV)) (tm':Array Value),ρ' 100000=kx∧Inj ρ' (cmH s at_ gr l'.length l')∧SimE F X' ⟨1,t',hTo EE.toEnc ρ' (cmH s at_ gr l'.length l'),[]⟩ tm':=by
 have hc:=im (N:=0) doneS s at_ gr k l (r:=.ok (w64 ((l'.length:Int) - 1),s,at_,gr,l'.length,l')) (by unfold ap;rw[hv];rfl) ρ hi
 subst hk
 refine(hc.2 F X #[.pointer (some ⟨ρ 100000,0,none⟩),.agg #[.int .i64 4,.int .i64 0,.int .i64 0,.pointer none]] (hs.args rfl fun i u hu=> ?_)).mono ?_
 ·match i,hu with
  |0,hu=>cases hu;exact⟨.v _,rfl⟩
  |1,hu=>
   cases hu
   refine⟨.ag _ #[_,_,_,_] rfl (fun i u x hu hx=> ?_),rfl⟩
   match i,hu,hx with
   |0,hu,hx=>cases hu;cases hx;exact .v _
   |1,hu,hx=>cases hu;cases hx;exact .v _
   |2,hu,hx=>cases hu;cases hx;exact .v _
   |3,hu,hx=>cases hu;cases hx;exact .v _
   |n+4,hu,hx=>cases hu
  |n+2,hu=>cases hu
 ·rintro x w' ⟨X',out,H',rfl,hp,he,hx⟩
  obtain⟨q,ρ',rfl,ha,hq⟩:=hp
  obtain⟨rfl,rfl,hi'⟩:=hq
  obtain⟨v,rfl,hs'⟩:=he
  exact⟨⟨v,rfl⟩,X',rfl,hx,ρ',_,_,congrArg Bk.b (ha 100000 rfl),hi',hs'⟩
theorem LS(W:World)(k2 k3:Nat)(hne:k2≠k3)(p:Value)(e a:Int)(T2 T3:TypeId)(h2:W.heap[k2]? =some (.cells #[p] T2 (0,0)))(h3:W.heap[k3]? =some (.cells #[.int .i64 e,.int .i64 a] T3 (0,0))):
  SimE (fun b=>b < W.heap.size∧b≠k2∧b≠k3) ⟨W,fun _=>none⟩ ⟨2,slotsOf 0 [.v (.pointer (some ⟨k2,0,none⟩)),.v (.pointer (some ⟨k3,0,none⟩))],[(k2,[.v p]),(k3,[.v (.int .i64 e),.v (.int .i64 a)])],[]⟩ #[.pointer (some ⟨k2,0,none⟩),.pointer (some ⟨k3,0,none⟩)] :=by
 have hno:∀r sz l,AS.own ⟨2,slotsOf 0 [.v (.pointer (some ⟨k2,0,none⟩)),.v (.pointer (some ⟨k3,0,none⟩))],[(k2,[.v p]),(k3,[.v (.int .i64 e),.v (.int .i64 a)])],[]⟩ r=some (sz,l)→False:=by
  intro r sz l ho
  cases r with
  |s t=>
   simp only[AS.own,slotsOf,ab,aH] at ho
   split at ho
   ·cases ho
   ·split at ho<;> cases ho
  |c k o=>
   simp only[AS.own,ab,aH] at ho
   split at ho
   ·rename_i cs hcs
    split at hcs
    ·cases hcs
     match o,ho with
     |0,ho=>cases ho
     |n+1,ho=>simp[cA] at ho
    ·split at hcs
     ·cases hcs
      match o,ho with
      |0,ho=>cases ho
      |1,ho=>cases ho
      |n+2,ho=>simp[cA] at ho
     ·cases hcs
   ·cases ho
 refine⟨⟨rfl,fun b n h=>(by cases h),fun b h=>h.1,fun t u hu=> ?_,fun k cs hk'=> ?_,fun x r hx=>by simp[aH] at hx,fun r sz l ho=>(hno r sz l ho).elim,fun r r' sz l sz' l' a n c a' n' c' _ ho=>(hno r sz l ho).elim⟩,fun p hp=>by cases hp⟩
 ·simp only[slotsOf,ab,aH] at hu
  split at hu
  ·rename_i e;subst e;cases hu;exact .v _
  ·split at hu
   ·rename_i e;subst e;cases hu;exact .v _
   ·cases hu
 ·simp only[ab,aH] at hk'
  split at hk'
  ·rename_i e
   subst e
   cases hk'
   refine dD.box ⟨rfl,fun h=>h.2.1 rfl,_,_,_,h2,rfl,fun o=>by simp[World.frozen?,h2],fun o u x hu hx=> ?_⟩
   match o,hu,hx with
   |0,hu,hx=>simp at hu hx;subst hu hx;exact .v _
   |n+1,hu,hx=>simp at hu
  ·split at hk'
   ·rename_i e
    subst e
    cases hk'
    refine dD.box ⟨rfl,fun h=>h.2.2 rfl,_,_,_,h3,rfl,fun o=>by simp[World.frozen?,h3],fun o u x hu hx=> ?_⟩
    match o,hu,hx with
    |0,hu,hx=>simp at hu hx;subst hu hx;exact .v _
    |1,hu,hx=>simp at hu hx;subst hu hx;exact .v _
    |n+2,hu,hx=>simp at hu
   ·cases hk'
theorem Fj(W:World)(k2 k3:Nat)(hne:k2≠k3)(e a:Int)(T2 T3:TypeId)(h2:W.heap[k2]? =some (.cells #[.pointer none] T2 (0,0)))(h3:W.heap[k3]? =some (.cells #[.int .i64 0,.int .i64 0] T3 (0,0))):
  CallsD Try.prog 33 #[.pointer (some ⟨k2,0,none⟩),.pointer (some ⟨k3,0,none⟩)] (.panicking [{ v:=faultV e a,recovered:=false }]) W fun x u' w'=>u'=.panicking [{ v:=faultV e a,recovered:=true }] ∧(∃v,x=.returned v)∧w'.cell? ⟨k2,0,none⟩=some (.pointer none)∧w'.cell? ⟨k3,0,none⟩=some (.int .i64 e)∧w'.cell? ⟨k3,1,none⟩=some (.int .i64 a)∧(∃X':GW,X'.w=w'∧Ext (fun b=>b < W.heap.size∧b≠k2∧b≠k3) ⟨W,fun _=>none⟩ X'):=by
 refine(Pc k2 k3 e a hne _ ⟨W,fun _=>none⟩ _ (LS W k2 k3 hne _ 0 0 T2 T3 h2 h3)).mono ?_
 rintro x u' w' ⟨rfl,X',out,H',rfl,⟨rfl,l2,l3⟩,⟨v,rfl,hs⟩,hx⟩
 exact⟨rfl,⟨v,rfl⟩,(jv hs l2 rfl rfl).1,(jv hs l3 rfl rfl).1,(jv hs l3 rfl rfl).1,X',rfl,hx⟩
theorem Oc(W:World)(k2 k3:Nat)(hne:k2≠k3)(p:Value)(e a:Int)(T2 T3:TypeId)(h2:W.heap[k2]? =some (.cells #[p] T2 (0,0)))(h3:W.heap[k3]? =some (.cells #[.int .i64 e,.int .i64 a] T3 (0,0))):
  CallsD Try.prog 33 #[.pointer (some ⟨k2,0,none⟩),.pointer (some ⟨k3,0,none⟩)] .returning W fun x u' w'=>u'=.returning∧(∃v,x=.returned v)∧w'.cell? ⟨k2,0,none⟩=some p∧w'.cell? ⟨k3,0,none⟩=some (.int .i64 e)∧w'.cell? ⟨k3,1,none⟩=some (.int .i64 a)∧(∃X':GW,X'.w=w'∧Ext (fun b=>b < W.heap.size∧b≠k2∧b≠k3) ⟨W,fun _=>none⟩ X'):=by
 refine(OW k2 k3 (.v p) (.v (.int .i64 e)) (.v (.int .i64 a)) hne _ ⟨W,fun _=>none⟩ _ (LS W k2 k3 hne p e a T2 T3 h2 h3)).mono ?_
 rintro x u' w' ⟨rfl,X',out,H',rfl,⟨rfl,l2,l3⟩,⟨v,rfl,hs⟩,hx⟩
 exact⟨rfl,⟨v,rfl⟩,(jv hs l2 rfl rfl).1,(jv hs l3 rfl rfl).1,(jv hs l3 rfl rfl).1,X',rfl,hx⟩
theorem fe(w:World)(o:Obj):(w.alloc o).heap.size=w.heap.size+1:=by unfold World.alloc;exact Array.size_push ..
abbrev cpW(m:List UInt8)(w:World):World:=((w.alloc (.cells #[.pointer none] 54)).alloc (.cells #[.int .i64 0,.int .i64 0] 28)).alloc (.cells #[.string (mkB m),.int .i64 0,.int .i64 0,.slice none 0 0] 97)
theorem d8(m:List UInt8)(w:World):(cpW m w).heap.size=w.heap.size+1+1+1:=by rw[fe,fe,fe]
theorem Mj(m:List UInt8)(w:World):(cpW m w).heap[w.heap.size+1+1]? =some (.cells #[.string (mkB m),.int .i64 0,.int .i64 0,.slice none 0 0] 97 (0,0)):=by
 have:=heap_alloc_new ((w.alloc (.cells #[.pointer none] 54)).alloc (.cells #[.int .i64 0,.int .i64 0] 28)) (.cells #[.string (mkB m),.int .i64 0,.int .i64 0,.slice none 0 0] 97)
 rwa [fe,fe] at this
theorem K1(m:List UInt8)(w:World):(cpW m w).heap[w.heap.size+1]? =some (.cells #[.int .i64 0,.int .i64 0] 28 (0,0)):=by
 rw[Below.heap_alloc _ _ _ (by rw[fe,fe];omega)]
 have:=heap_alloc_new (w.alloc (.cells #[.pointer none] 54)) (.cells #[.int .i64 0,.int .i64 0] 28)
 rwa [fe] at this
theorem Ku(m:List UInt8)(w:World):(cpW m w).heap[w.heap.size]? =some (.cells #[.pointer none] 54 (0,0)):=by
 rw[Below.heap_alloc _ _ _ (by rw[fe,fe];omega),Below.heap_alloc _ _ _ (by rw[fe];omega)]
 exact heap_alloc_new w (.cells #[.pointer none] 54)
theorem tI(m:List UInt8)(w:World):Below w.heap.size w (cpW m w):=(((Below.refl _ w).alloc (Nat.le_refl _) _).alloc (by rw[fe];omega) _).alloc (by rw[fe,fe];omega) _
theorem fR{B:Nat}{F:Nat→Prop}{X X':GW}(h:Ext F X X')(hF:∀b,b < B→F b):Below B X.w X'.w:=⟨h.os,h.tape,h.output,h.size,fun b hb=>(h.frame b (hF b hb)).1⟩
set_option maxRecDepth 100000 in
set_option maxHeartbeats 4000000 in
theorem Ao{N:Nat}(m:List UInt8)(hm:m.length≤60)(e a:Int)(h:yN N m=some (.pan (faultV e a)))(w:World):
  Calls Try.prog 21 #[.string (mkB m)] w fun x w'=>x=.returned (.tuple #[.pointer none,.agg #[.int .i64 e,.int .i64 a]])∧Below w.heap.size w w':=by
 have hsize:= @kC
 have hmf:∀ (fn:Fn) (first cap:Array Value) (w:World),(Instr.makeFunc fn first cap).run Try.prog w=.ok (.func fn first cap) w:=fun _ _ _ _=>rfl
 have hmw:=EV m (cpW m w) (w.heap.size+1+1) _ (Mj m w) h
 go_enter_defers Try.func21,Try.ntmps21
 go_wp2_with (go_at_call 34;refine hmw.mono ?_)
 intro x w' X1 hw hx1 hpan
 subst hw hpan
 have hne:w.heap.size≠w.heap.size+1:=by omega
 have f2:=(hx1.frame w.heap.size ⟨by rw[d8];omega,by omega⟩).1
 have f3:=(hx1.frame (w.heap.size+1) ⟨by rw[d8];omega,by omega⟩).1
 have hb1:Below w.heap.size w X1.w:=(tI m w).trans (fR hx1 fun b hb=>⟨by rw[d8];omega,by omega⟩)
 have hclo:=Fj X1.w w.heap.size (w.heap.size+1) hne e a _ _ (f2.trans (Ku m w)) (f3.trans (K1 m w))
 show bodyPostD _ _ _ _ _ _
 refine leaves_cons (f:=33) (args:= #[.pointer (some ⟨w.heap.size,0,none⟩),.pointer (some ⟨w.heap.size+1,0,none⟩)]) (by simp) (by simp[go_sem]) ?_
 refine hclo.mono ?_
 rintro y u' w2 ⟨rfl,⟨v,rfl⟩,c2,c3,c4,X2,rfl,hx2⟩
 simp[Leaves,settle,results,Try.results21,go_sem,c2,c3,c4]
 have hz:=fR (B:=w.heap.size) hx2 fun b hb=>⟨Nat.lt_of_lt_of_le hb hb1.size,by omega,by omega⟩
 exact hb1.trans hz
theorem vx{F:Nat→Prop}{X:GW}{n:Nat}{t:List (Nat × AV)}{tm:Array Value}{kx:Nat}{ρ:Rn}{s:List UInt8}{at_ gr:Int}{k:Nat}{l:List Vstep}(hs:SimE F X ⟨n,t,hTo EE.toEnc ρ (cmH s at_ gr k l),[]⟩ tm)(hk:ρ 100000=kx):X.w.cell? ⟨kx,1,none⟩=some (.int .i64 at_)∧X.w.cell? ⟨kx,2,none⟩=some (.int .i64 gr)∧X.w.cell? ⟨kx,3,none⟩=some (vecV (ρ.k 200001) 4 k):=by
 subst hk
 have hb:look (hTo EE.toEnc ρ (cmH s at_ gr k l)) (ρ 100000)=some [.v (.string (mkB s)),.v (.int .i64 at_),.v (.int .i64 gr),.v (vecV (ρ.k 200001) 4 k)] :=ga
 exact⟨(jv hs hb rfl rfl).1,(jv hs hb rfl rfl).1,(jv hs hb rfl rfl).1⟩
set_option maxRecDepth 100000 in
set_option maxHeartbeats 4000000 in
theorem BO{N:Nat}(m:List UInt8)(hm:m.length≤60){emp:Bool}{s:List UInt8}{at_ gr:Int}{k:Nat}{l:List Vstep}(h:yN N m=some (.ok (emp,s,at_,gr,k,l)))(hat:at_ < (m.length:Int))(w:World):
  Calls Try.prog 21 #[.string (mkB m)] w fun x w'=>x=.returned (.tuple #[.pointer none,.agg #[.int .i64 1,.int .i64 at_]])∧Below w.heap.size w w':=by
 have hsize:= @kC
 have hmf:∀ (fn:Fn) (first cap:Array Value) (w:World),(Instr.makeFunc fn first cap).run Try.prog w=.ok (.func fn first cap) w:=fun _ _ _ _=>rfl
 have hmw:=EV m (cpW m w) (w.heap.size+1+1) _ (Mj m w) h
 go_enter_defers Try.func21,Try.ntmps21
 go_wp2_with (go_at_call 34;refine hmw.mono ?_)
 intro x w' X1 hw hx1 hx ρ hρ hi hs
 subst hw hx
 obtain⟨c1,c2,c3⟩:=vx hs hρ
 have hne:w.heap.size≠w.heap.size+1:=by omega
 have f2:=(hx1.frame w.heap.size ⟨by rw[d8];omega,by omega⟩).1
 have f3:=(hx1.frame (w.heap.size+1) ⟨by rw[d8];omega,by omega⟩).1
 have hb1:Below w.heap.size w X1.w:=(tI m w).trans (fR hx1 fun b hb=>⟨by rw[d8];omega,by omega⟩)
 have hfw:=Qs hs hρ hi 1 at_
 go_wp2_with (go_at_call 35;refine hfw.mono ?_)
 rintro x w' ⟨hx,X2,hw,hx2⟩
 subst hw hx
 have g2:=(hx2.frame w.heap.size ⟨by rw[d8];omega,by omega⟩).1
 have g3:=(hx2.frame (w.heap.size+1) ⟨by rw[d8];omega,by omega⟩).1
 have hb2:Below w.heap.size w X2.w:=hb1.trans (fR hx2 fun b hb=>⟨by rw[d8];omega,by omega⟩)
 have hclo:=Fj X2.w w.heap.size (w.heap.size+1) hne 1 at_ _ _ (g2.trans (f2.trans (Ku m w))) (g3.trans (f3.trans (K1 m w)))
 show bodyPostD _ _ _ _ _ _
 refine leaves_cons (f:=33) (args:= #[.pointer (some ⟨w.heap.size,0,none⟩),.pointer (some ⟨w.heap.size+1,0,none⟩)]) (by simp) (by simp[go_sem]) ?_
 refine hclo.mono ?_
 rintro y u' w2 ⟨rfl,⟨v,rfl⟩,c2,c3,c4,X3,rfl,hx3⟩
 simp[Leaves,settle,results,Try.results21,go_sem,c2,c3,c4]
 have hz:=fR (B:=w.heap.size) hx3 fun b hb=>⟨Nat.lt_of_lt_of_le hb hb2.size,by omega,by omega⟩
 exact hb2.trans hz
set_option maxRecDepth 100000 in
theorem A2(m:List UInt8)(hm:60 < m.length)(w:World):
  Calls Try.prog 21 #[.string (mkB m)] w fun x w'=>x=.returned (.tuple #[.pointer none,.agg #[.int .i64 2,.int .i64 0]])∧Below w.heap.size w w':=by
 have hsize:= @kC
 go_enter_defers Try.func21,Try.ntmps21
 go_wp2
 simp[bodyPostD,Leaves,settle,results,Try.results21,go_sem]
 exact((Below.refl _ w).alloc (Nat.le_refl _) _).alloc (by rw[fe];omega) _
theorem QA(b:Bk)(sz n:Nat)(hn:n≠0):vecV b sz n=.slice (some ⟨b.b,0,none⟩) n (n+b.sp.length / sz):=by
 unfold vecV
 rw[if_neg]
 simp only[Bool.and_eq_true,not_and]
 intro _ h
 exact hn (Nat.eq_of_beq_eq_true h)
theorem gy{w:World}{b:Nat}{cs:Array Value}{T:TypeId}(h:w.heap[b]? =some (.cells cs T (0,0)))(o:Nat):w.frozen? ⟨b,o,none⟩=false:=by simp[World.frozen?,h]
theorem sV{U:World}{b:Nat}{cs:Array Value}{T:TypeId}{fr:Nat × Nat}(h:U.heap[b]? =some (.cells cs T fr))(o:Nat)(v:Value):(U.setCell ⟨b,o,none⟩ v).heap[b]? =some (.cells (cs.setIfInBounds o v) T fr):=by
 simp[World.setCell,Array.getElem?_modify,h]
abbrev enW(U:World)(k2 k3:Nat)(p:Value):World:=(((U.setCell ⟨k2,0,none⟩ p).setCell ⟨k3,0,none⟩ (.int .i64 0)).setCell ⟨k3,1,none⟩ (.int .i64 0)).drew
theorem Sq{U:World}{k2 k3:Nat}{p q:Value}{T:TypeId}(hne:k2≠k3)(h:U.heap[k2]? =some (.cells #[q] T (0,0))):(enW U k2 k3 p).heap[k2]? =some (.cells #[p] T (0,0)):=by
 show(((U.setCell ⟨k2,0,none⟩ p).setCell ⟨k3,0,none⟩ (.int .i64 0)).setCell ⟨k3,1,none⟩ (.int .i64 0)).heap[k2]? =_
 rw[Below.heap_setCell _ _ _ _ hne,Below.heap_setCell _ _ _ _ hne]
 exact sV h 0 p
theorem Si{U:World}{k2 k3:Nat}{p a b:Value}{T:TypeId}(hne:k2≠k3)(h:U.heap[k3]? =some (.cells #[a,b] T (0,0))):(enW U k2 k3 p).heap[k3]? =some (.cells #[.int .i64 0,.int .i64 0] T (0,0)):=by
 have h1:(U.setCell ⟨k2,0,none⟩ p).heap[k3]? =some (.cells #[a,b] T (0,0)):=by rw[Below.heap_setCell _ _ _ _ (Ne.symm hne)];exact h
 exact sV (sV h1 0 (.int .i64 0)) 1 (.int .i64 0)
theorem Pt{U:World}{k2 k3 b:Nat}{p:Value}(h2:b≠k2)(h3:b≠k3):(enW U k2 k3 p).heap[b]? =U.heap[b]? :=by
 show(((U.setCell ⟨k2,0,none⟩ p).setCell ⟨k3,0,none⟩ (.int .i64 0)).setCell ⟨k3,1,none⟩ (.int .i64 0)).heap[b]? =_
 rw[Below.heap_setCell _ _ _ _ h3,Below.heap_setCell _ _ _ _ h3,Below.heap_setCell _ _ _ _ h2]
theorem JM(U:World)(k2 k3:Nat)(p:Value):(enW U k2 k3 p).heap.size=U.heap.size:=by
 show(((U.setCell ⟨k2,0,none⟩ p).setCell ⟨k3,0,none⟩ (.int .i64 0)).setCell ⟨k3,1,none⟩ (.int .i64 0)).heap.size=_
 simp[World.setCell]
theorem D0{F:Nat→Prop}{X2 X4:GW}{w:World}{n k2 k3:Nat}{t2:List (Nat × AV)}{tm2:Array Value}{ρ2:Rn}{s:List UInt8}{at_ gr:Int}{l':List Vstep}{p:Value}{T:TypeId}(hs2:SimE F X2 ⟨n,t2,hTo EE.toEnc ρ2 (cmH s at_ gr l'.length l'),[]⟩ tm2)(hi2:Inj ρ2 (cmH s at_ gr l'.length l'))(hl0:l'.length≠0)
  (hF2:F k2) (hF3:F k3) (g2:X2.g k2=none) (g3:X2.g k3=none) (hg:∀b,b < w.heap.size→F b∧X2.g b=none) (hk2:w.heap.size≤k2) (hk3:w.heap.size≤k3) (hkm2:k2 < X2.w.heap.size) (hkm3:k3 < X2.w.heap.size)
  (hx4:Ext (fun b=>b < (enW (X2.w.alloc (.cells #[.int .i64 gr,.slice (some ⟨(ρ2.k 200001).b,0,none⟩) l'.length (l'.length+ (ρ2.k 200001).sp.length / 4)] T)) k2 k3 p).heap.size∧b≠k2∧b≠k3) ⟨enW (X2.w.alloc (.cells #[.int .i64 gr,.slice (some ⟨(ρ2.k 200001).b,0,none⟩) l'.length (l'.length+ (ρ2.k 200001).sp.length / 4)] T)) k2 k3 p,fun _=>none⟩ X4) (hb:Below w.heap.size w X2.w):
  ∃X':GW,X'.w=X4.w∧Ext (fun b=>b < w.heap.size) ⟨w,fun _=>none⟩ X'∧SimE (fun b=>b < w.heap.size) X' ⟨1,[],[(X2.w.heap.size,[.v (.int .i64 gr),.sl false 4 (l'.map (cells EE.toEnc (.nam 7)))])],[]⟩ #[undef] :=by
 have hlive:bb ρ2 (.vec 200001 (.nam 7) l':TB EE.T)=true:=by
  cases l' with
  |nil=>exact absurd rfl hl0
  |cons x xs=>
   show(!((ρ2.k 200001).nil && false))=true
   rw[Bool.and_false];rfl
 have hto:hTo EE.toEnc ρ2 (cmH s at_ gr l'.length l')=[(ρ2 100000,[.v (.string (mkB s)),.v (.int .i64 at_),.v (.int .i64 gr),.v (vecV (ρ2.k 200001) 4 l'.length)]),(ρ2 200001,(l'.map (cells EE.toEnc (.nam 7))).flatten++ (ρ2.k 200001).sp.map AV.v)] :=by
  show List.map _ (List.filter _ [_,_])=_
  rw[List.filter_cons_of_pos (by rfl),List.filter_cons_of_pos (by exact hlive)]
  rfl
 have hnk:ρ2 200001≠ρ2 100000:=fun e=>by
  have:=(hi2 _ (List.mem_cons_self) _ (List.mem_cons_of_mem _ List.mem_cons_self)).1 rfl hlive e.symm
  cases this
 have hbv:look (hTo EE.toEnc ρ2 (cmH s at_ gr l'.length l')) (ρ2 200001)=some ((l'.map (cells EE.toEnc (.nam 7))).flatten++ (ρ2.k 200001).sp.map AV.v):=by
  rw[hto];exact rO hnk ga
 obtain⟨X3,hw3,hs3,hfz,hx3⟩:=hs2.freeze hbv (by
  cases l' with
  |nil=>exact absurd rfl hl0
  |cons x xs=>rfl)
 have hlen:(l'.map (cells EE.toEnc (.nam 7))).length=l'.length:=List.length_map _
 have hrel:Rel X3 (.sl false 4 (l'.map (cells EE.toEnc (.nam 7)))) (.slice (some ⟨(ρ2.k 200001).b,0,none⟩) l'.length (l'.length+ (ρ2.k 200001).sp.length / 4)):=by
  have:=hfz.sl (sz:=4) (L:=l'.map (cells EE.toEnc (.nam 7))) (sp:=(ρ2.k 200001).sp.map AV.v) (c:=l'.length+ (ρ2.k 200001).sp.length / 4) rfl (fun r hr=>by
   obtain⟨z,_,rfl⟩:=List.mem_map.1 hr
   rfl) (by rw[hlen];exact Nat.le_add_right _ _)
  rwa [hlen] at this
 have n2:X3.g k2=none:=(hx3.frame k2 hF2).2.trans g2
 have n3:X3.g k3=none:=(hx3.frame k3 hF3).2.trans g3
 have hgb:∀b m,X3.g b=some m→b < X2.w.heap.size:=fun b m h=>by rw[← hw3];exact hs3.gb b m h
 have hus:∀o:Obj,(enW (X2.w.alloc o) k2 k3 p).heap.size=X2.w.heap.size+1:=fun o=>by rw[JM,fe]
 have hheap:∀b,b < X2.w.heap.size→b≠k2→b≠k3→X4.w.heap[b]? =X2.w.heap[b]? :=fun b hlt e2 e3=>by
  rw[(hx4.frame b ⟨by rw[hus];omega,e2,e3⟩).1]
  show(enW _ k2 k3 p).heap[b]? =_
  rw[Pt e2 e3]
  exact Below.heap_alloc _ _ _ hlt
 have hkm:X4.w.heap[X2.w.heap.size]? =some (.cells #[.int .i64 gr,.slice (some ⟨(ρ2.k 200001).b,0,none⟩) l'.length (l'.length+ (ρ2.k 200001).sp.length / 4)] T (0,0)):=by
  rw[(hx4.frame X2.w.heap.size ⟨by rw[hus];omega,by omega,by omega⟩).1]
  show(enW _ k2 k3 p).heap[X2.w.heap.size]? =_
  rw[Pt (by omega) (by omega)]
  exact heap_alloc_new X2.w _
 have hsize:X2.w.heap.size+1≤X4.w.heap.size:=by
  have:=hx4.size
  rw[hus] at this
  exact this
 have hpres:ln X3 ⟨X4.w,X3.g⟩:=fun b m h=>⟨m,Nat.le_refl _,h,fun j hj=>by
  have hlt:=hgb b m h
  have e2:b≠k2:=fun e=>by rw[e,n2] at h;cases h
  have e3:b≠k3:=fun e=>by rw[e,n3] at h;cases h
  have:=hheap b hlt e2 e3
  rw[← hw3] at this
  simp only[World.cell?,this]⟩
 have hbel:Below w.heap.size w X4.w:=by
  refine⟨hx4.os.trans hb.os,hx4.tape.trans hb.tape,hx4.output.trans hb.output,by have:=hb.size;omega,fun b hlt=> ?_⟩
  rw[hheap b (by have:=hb.size;omega) (by omega) (by omega)]
  exact hb.block b hlt
 refine⟨⟨X4.w,X3.g⟩,rfl,⟨hbel.os,hbel.tape,hbel.output,hbel.size,fun b hlt=>⟨hbel.block b hlt,(hx3.frame b (hg b hlt).1).2.trans (hg b hlt).2⟩,fun b m h=>by cases h⟩,?_⟩
 have hno:∀r sz l,AS.own ⟨1,[],[(X2.w.heap.size,[.v (.int .i64 gr),.sl false 4 (l'.map (cells EE.toEnc (.nam 7)))])],[]⟩ r=some (sz,l)→False:=by
  intro r sz l ho
  cases r with
  |s t=>simp[AS.own,aH,cA] at ho
  |c k o=>
   simp only[AS.own,ab,aH] at ho
   split at ho
   ·rename_i cs hcs
    split at hcs
    ·cases hcs
     match o,ho with
     |0,ho=>cases ho
     |1,ho=>cases ho
     |n+2,ho=>simp[cA] at ho
    ·cases hcs
   ·cases ho
 refine⟨⟨rfl,fun b m h=>by have:=hgb b m h;show b < X4.w.heap.size;omega,fun b hlt=>by have:=hbel.size;show b < X4.w.heap.size;omega,fun t u hu=>by simp[aH] at hu,fun k cs hk'=> ?_,fun x r hx=>by simp[aH] at hx,fun r sz l ho=>(hno r sz l ho).elim,fun r r' sz l sz' l' a n c a' n' c' _ ho=>(hno r sz l ho).elim⟩,fun p hp=>by cases hp⟩
 simp only[ab,aH] at hk'
 split at hk'
 ·rename_i e
  subst e
  cases hk'
  refine dD.box ⟨?_,fun h=> ?_,_,_,_,hkm,rfl,fun o=>by simp[World.frozen?,hkm],fun o u x hu hx=> ?_⟩
  ·show X3.g X2.w.heap.size=none
   cases hq:X3.g X2.w.heap.size with
   |none=>rfl
   |some m=>exact absurd (hgb _ m hq) (Nat.lt_irrefl _)
  ·have:=hb.size
   have h2:X2.w.heap.size < w.heap.size:=h
   omega
  ·match o,hu,hx with
   |0,hu,hx=>simp at hu hx;subst hu hx;exact .v _
   |1,hu,hx=>simp at hu hx;subst hu hx;exact hrel.mono hpres
   |n+2,hu,hx=>simp at hu
 ·cases hk'
set_option maxRecDepth 100000 in
set_option maxHeartbeats 4000000 in
theorem E8{N:Nat}(m:List UInt8)(hm:m.length≤60){emp:Bool}{s:List UInt8}{at_ gr:Int}{k:Nat}{l l':List Vstep}(h:yN N m=some (.ok (emp,s,at_,gr,k,l)))(hat:¬at_ < (m.length:Int))(hv:oz 32 k l [doneS] =some l')(hl0:l'.length≠0)(w:World):
  Calls Try.prog 21 #[.string (mkB m)] w fun x w'=>∃ (X':GW) (km:Nat),x=.returned (.tuple #[.pointer (some ⟨km,0,none⟩),.agg #[.int .i64 0,.int .i64 0]])∧X'.w=w'∧Ext (fun b=>b < w.heap.size) ⟨w,fun _=>none⟩ X'∧SimE (fun b=>b < w.heap.size) X' ⟨1,[],[(km,[.v (.int .i64 gr),.sl false 4 (l'.map (cells EE.toEnc (.nam 7)))])],[]⟩ #[undef] :=by
 have hsize:= @kC
 have hmf:∀ (fn:Fn) (first cap:Array Value) (w:World),(Instr.makeFunc fn first cap).run Try.prog w=.ok (.func fn first cap) w:=fun _ _ _ _=>rfl
 have hmw:=EV m (cpW m w) (w.heap.size+1+1) _ (Mj m w) h
 go_enter_defers Try.func21,Try.ntmps21
 go_wp2_with (go_at_call 34;refine hmw.mono ?_)
 intro x w' X1 hw hx1 hx ρ hρ hi hs
 subst hw hx
 obtain⟨c1,c2,c3⟩:=vx hs hρ
 have hne:w.heap.size≠w.heap.size+1:=by omega
 have f2:=(hx1.frame w.heap.size ⟨by rw[d8];omega,by omega⟩).1
 have f3:=(hx1.frame (w.heap.size+1) ⟨by rw[d8];omega,by omega⟩).1
 have hb1:Below w.heap.size w X1.w:=(tI m w).trans (fR hx1 fun b hb=>⟨by rw[d8];omega,by omega⟩)
 have hpw:=RX hs hρ hi hv
 go_wp2_with (go_at_call 36;refine hpw.mono ?_)
 rintro x w' ⟨⟨v,hx⟩,X2,hw,hx2,ρ2,t2,tm2,hρ2,hi2,hs2⟩
 subst hw hx
 have g2:X2.w.heap[w.heap.size]? =_:=(hx2.frame w.heap.size ⟨by rw[d8];omega,by omega⟩).1.trans (f2.trans (Ku m w))
 have g3:X2.w.heap[w.heap.size+1]? =_:=(hx2.frame (w.heap.size+1) ⟨by rw[d8];omega,by omega⟩).1.trans (f3.trans (K1 m w))
 have hb2:Below w.heap.size w X2.w:=hb1.trans (fR hx2 fun b hb=>⟨by rw[d8];omega,by omega⟩)
 obtain⟨e1,e2,e3⟩:=vx hs2 hρ2
 rw[QA _ _ _ hl0] at e3
 have d2:X2.w.drew.cell? ⟨w.heap.size+1+1,2,none⟩=some (.int .i64 gr):=e2
 have d3:X2.w.drew.cell? ⟨w.heap.size+1+1,3,none⟩=some (.slice (some ⟨(ρ2.k 200001).b,0,none⟩) l'.length (l'.length+ (ρ2.k 200001).sp.length / 4)):=e3
 have hsz:w.heap.size+1+1+1≤X2.w.heap.size:=by
  have a1:=hx1.size
  have a2:=hx2.size
  rw[show(⟨cpW m w,fun _=>none⟩:GW).w.heap.size=w.heap.size+1+1+1 from d8 m w] at a1
  omega
 have q2:∀o:Obj,(X2.w.alloc o).heap[w.heap.size]? =_:=fun o=>(Below.heap_alloc X2.w o _ (by omega)).trans g2
 have q3:∀o:Obj,(X2.w.alloc o).heap[w.heap.size+1]? =_:=fun o=>(Below.heap_alloc X2.w o _ (by omega)).trans g3
 have d4:∀o:Obj,(X2.w.alloc o).cell? ⟨w.heap.size,0,none⟩=some (.pointer none):=fun o=>by simp[World.cell?,q2 o]
 have d5:∀o:Obj,(X2.w.alloc o).cell? ⟨w.heap.size+1,0,none⟩=some (.int .i64 0):=fun o=>by simp[World.cell?,q3 o]
 have d6:∀o:Obj,(X2.w.alloc o).cell? ⟨w.heap.size+1,1,none⟩=some (.int .i64 0):=fun o=>by simp[World.cell?,q3 o]
 have r4:∀o:Obj,(X2.w.alloc o).frozen? ⟨w.heap.size,0,none⟩=false:=fun o=>gy (q2 o) 0
 have r5:∀o:Obj,(X2.w.alloc o).frozen? ⟨w.heap.size+1,0,none⟩=false:=fun o=>gy (q3 o) 0
 have r6:∀o:Obj,(X2.w.alloc o).frozen? ⟨w.heap.size+1,1,none⟩=false:=fun o=>gy (q3 o) 1
 go_wp2
 go_region
 go_wp2
 have hclo:=Oc (enW (X2.w.alloc (.cells #[.int .i64 gr,.slice (some ⟨(ρ2.k 200001).b,0,none⟩) l'.length (l'.length+ (ρ2.k 200001).sp.length / 4)] 93)) w.heap.size (w.heap.size+1) (.pointer (some ⟨X2.w.heap.size,0,none⟩))) w.heap.size (w.heap.size+1) hne (.pointer (some ⟨X2.w.heap.size,0,none⟩)) 0 0 _ _ (Sq hne (q2 _)) (Si hne (q3 _))
 refine leaves_cons (f:=33) (args:= #[.pointer (some ⟨w.heap.size,0,none⟩),.pointer (some ⟨w.heap.size+1,0,none⟩)]) (by simp) (by simp[go_sem]) ?_
 refine hclo.mono ?_
 rintro y u' w2 ⟨rfl,⟨v,rfl⟩,c2,c3,c4,X4,rfl,hx4⟩
 simp[Leaves,settle,results,Try.results21,go_sem,c2,c3,c4]
 have hF:∀b,b < w.heap.size+1+1→tq (cpW m w) (w.heap.size+1+1) b∧X2.g b=none:=fun b hlt=>by
  have hb:tq (cpW m w) (w.heap.size+1+1) b:=⟨by rw[d8];omega,by omega⟩
  exact⟨hb,(hx2.frame b hb).2.trans (hx1.frame b hb).2⟩
 exact D0 hs2 hi2 hl0 (hF _ (by omega)).1 (hF _ (by omega)).1 (hF _ (by omega)).2 (hF _ (by omega)).2 (fun b hb=>hF b (by omega)) (Nat.le_refl _) (by omega) (by omega) (by omega) hx4 hb2
end Go.Proofs.Ytlhjbhgkhpbnfaa
