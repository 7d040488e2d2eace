import Derived.Test.YtobacplonkjigaaDoorBk08
import Derived.ProofKit
import Derived.OpenShut
import Derived.Deep.Slices
set_option linter.unusedSimpArgs false
set_option linter.unusedVariables false
namespace Go.Proofs.YtobacplonkjigaaDoor
open Go.RowKit P
set_option maxRecDepth 100000
def jQ(r:Bool):TV EE.T:=.a (.d .bool r)
def A1(r:Bool):RL EE.T:=.ret (jQ r) []
def Ww:Lvs:=⟨[],[],[],[],false,[],[],[],[]⟩
def Wp:List ResultVar:=[.tmp 0]
def w5G(N:Nat):Gam EE:=⟨[⟨6,jG N⟩],EQT,[],[]⟩
theorem U7(N:Nat):GOk Tryd.prog TT EE (w5G N):=GOk.cons (nS N) (GOk.nil bP)
def Vf(c:Code):List It2:=[.c c]
def T5:TS EE.T:=⟨31,[],[],[]⟩
abbrev WF(N:Nat)(r:Bool)(k:List It2)(s:TS EE.T):Prop:=eN (Y:=TT) EE (w5G N) Ww Wp (fun u=>u=A1 r) k s
def QN(x:Bool):Tree (Lf EE.T × Option Bool):=.leaf (.done (A1 x),some x)
theorem UL{N:Nat}{r:Bool}(h:fZ N=some r):WF N r (Vf (aa 0 Tryd.f5)) (T5):=
 am (m:=4000) (t:=
 .bnd (cg N ([({ Name:=([97] :List UInt8),Value:=([120,49] :List UInt8) }:VLabel)] :List VLabel) ([({ Kind:=1,Sources:=([([97] :List UInt8)] :List (List UInt8)),Between:=([] :List UInt8),Mask:=([120,40,46,41] :List UInt8),Modulus:=0,Target:=([98] :List UInt8),Replacement:=([121,36,49] :List UInt8) }:VRule)] :List VRule)) fun z1=>
 .cond (z1.2.2==0)
 (
  .cond (z1.2.1)
  (
   .cond ((z1.1.length:Int)==2)
   (
    .bnd (bN z1.1 1) fun z2=>
    QN (decide (z2.Value=([121,49] :List UInt8))))
   (
    QN false))
  (
   QN false))
 (
  QN false)) (by kernel_rfl) (by kernel_rfl) h (fun _=>⟨⟨⟨fun _=>ay (enc:=A1) rfl,ay (enc:=A1) rfl⟩,ay (enc:=A1) rfl⟩,ay (enc:=A1) rfl⟩)
theorem rN{N:Nat}{r:Bool}(h:fZ N=some r)(ρ:Rn):ai Tryd.prog 5 (([] :List (TV EE.T)).map (TV.to EE.toEnc ρ)) [] (fun out H=>out=.ret ((jQ r).to EE.toEnc ρ)∧H=[]):=
 (ip (aa 0 Tryd.f5) 31 mixed (U7 N) Tryd.func5 (by kernel_rfl) rfl rfl rfl rfl (UL h) ρ).mono fun out H h=>bQ.ret rfl h
def jL(N:Nat):List (TV EE.T)→PV EE.T
 | [] =>.opt (fZ N) jQ
 |_=>.bad
theorem qs(N:Nat)(us:List (TV EE.T)):(jL N us).ok fun u=>∀ρ,ai Tryd.prog 5 (us.map (TV.to EE.toEnc ρ)) [] (fun out H=>out=.ret (u.to EE.toEnc ρ)∧H=[]):=by
 unfold jL
 split
 ·intro z hz ρ;exact rN hz ρ
 ·trivial
def lD(r:Bool):TV EE.T:=.a (.d .bool r)
def Dg(r:Bool):RL EE.T:=.ret (lD r) []
def Wu:Lvs:=⟨[(6,⟨[(0,false),(1,false),(5,false)],[],[],[]⟩)],[(4,⟨[(0,false),(1,false),(5,false)],[],[],[]⟩)],[],[],false,[],[],[],[]⟩
def WH:List ResultVar:=[.tmp 4]
def w7G(N:Nat):Gam EE:=⟨[],EQT,[],[]⟩
theorem Vd(N:Nat):GOk Tryd.prog TT EE (w7G N):=GOk.nil bP
def Rd(c:Code):List It2:=atL 4 c
def QR(x0:List VLabel)(x1:List VLabel)(x5:Int):TS EE.T:=⟨26,[(0,.a (.d (.sl (.nam 2)) x0)),(1,.a (.d (.sl (.nam 2)) x1)),(5,.a (.d (.int .i64) x5))],[],[]⟩
def US(c:Code):List It2:=[.c c]
def VV(x0:List VLabel)(x1:List VLabel):TS EE.T:=⟨26,[(0,.a (.d (.sl (.nam 2)) x0)),(1,.a (.d (.sl (.nam 2)) x1))],[],[]⟩
def QT(c:Code)(f:(List VLabel)→(List VLabel)→Int→Option Bool)(x0:List VLabel)(x1:List VLabel)(x5:Int):Tree (Lf EE.T × Option Bool):=.leaf (.go (Rd c) (QR x0 x1 x5),f x0 x1 x5)
abbrev Vo(N:Nat)(r:Bool)(k:List It2)(s:TS EE.T):Prop:=eN (Y:=TT) EE (w7G N) Wu WH (fun u=>u=Dg r) k s
def TN(x:Bool):Tree (Lf EE.T × Option Bool):=.leaf (.done (Dg x),some x)
theorem QU{N:Nat}{r:Bool}:∀ (n:Nat) (x0:List VLabel) (x1:List VLabel) (x5:Int),dL N n x0 x1 x5=some r→Vo N r (Rd (aa 0 Tryd.f7)) (QR x0 x1 x5)
 |0,_,_,_,h=>by cases h
 |n+1,x0,x1,x5,h=>am (m:=4000) (t:=
  .cond (decide (x5 < (x0.length:Int)))
  (
   .bnd (bN x0 x5) fun z1=>
   .bnd (bN x1 x5) fun z2=>
   .cond (!(zN z1.Name z2.Name && (zN z1.Value z2.Value && true)))
   (
    TN false)
   (
    QT (aa 0 Tryd.f7) (dL N n) x0 x1 (w64 (x5+1))))
  (
   TN true)) (by kernel_rfl) (by kernel_rfl) h (⟨fun _=>fun _=>⟨ay (enc:=Dg) rfl,fun h=>(QU n) _ _ _ h⟩,ay (enc:=Dg) rfl⟩)
theorem V0{N:Nat}{r:Bool}(x0:List VLabel)(x1:List VLabel)(h:ej N x0 x1=some r):Vo N r (US (aa 0 Tryd.f7)) (VV x0 x1):=
 am (m:=4000) (t:=
 .cond ((x0.length:Int) != (x1.length:Int))
 (
  TN false)
 (
  QT (aa 0 Tryd.f7) (dL N N) x0 x1 0)) (by kernel_rfl) (by kernel_rfl) h (⟨ay (enc:=Dg) rfl,fun h=>QU N _ _ _ h⟩)
theorem uh{N:Nat}(x0:List VLabel)(x1:List VLabel){r:Bool}(h:ej N x0 x1=some r)(ρ:Rn):ai Tryd.prog 7 (([.a (.d (.sl (.nam 2)) x0),.a (.d (.sl (.nam 2)) x1)] :List (TV EE.T)).map (TV.to EE.toEnc ρ)) [] (fun out H=>out=.ret ((lD r).to EE.toEnc ρ)∧H=[]):=
 (ip (aa 0 Tryd.f7) 26 mixed (Vd N) Tryd.func7 (by kernel_rfl) rfl rfl rfl rfl (V0 x0 x1 h) ρ).mono fun out H h=>bQ.ret rfl h
def lx(N:Nat):List (TV EE.T)→PV EE.T
 | [u0,u1] =>match eB (.sl (.nam 2)) u0,eB (.sl (.nam 2)) u1 with
   |some x0,some x1=>.opt (ej N x0 x1) lD
   |_,_=>.bad
 |_=>.bad
theorem sA(N:Nat)(us:List (TV EE.T)):(lx N us).ok fun u=>∀ρ,ai Tryd.prog 7 (us.map (TV.to EE.toEnc ρ)) [] (fun out H=>out=.ret (u.to EE.toEnc ρ)∧H=[]):=by
 unfold lx
 split
 ·split
  ·rename_i h0 h1
   intro z hz ρ;refine bq ?_ (uh _ _ hz ρ);exact⟨bb h0 ρ,bb h1 ρ,trivial⟩
  ·trivial
 ·trivial
def nM(r:Bool):TV EE.T:=.a (.d .bool r)
def pP(r:Bool):RL EE.T:=.ret (nM r) []
def Wy:Lvs:=⟨[],[],[],[],false,[],[],[],[]⟩
def Wt:List ResultVar:=[.tmp 6]
def w3G(N:Nat):Gam EE:=⟨[⟨5,jL N⟩,⟨7,lx N⟩,⟨6,jG N⟩],EQT,[],[]⟩
theorem VE(N:Nat):GOk Tryd.prog TT EE (w3G N):=GOk.cons (qs N) (GOk.cons (sA N) (GOk.cons (nS N) (GOk.nil bP)))
def UP(c:Code):List It2:=[.c c]
def UH(x0:List VLabel)(x1:List (List UInt8))(x2:List UInt8):TS EE.T:=⟨81,[(0,.a (.d (.sl (.nam 2)) x0)),(1,.a (.d (.sl .str) x1)),(2,.a (.d .str x2))],[],[]⟩
abbrev WB(N:Nat)(r:Bool)(k:List It2)(s:TS EE.T):Prop:=eN (Y:=TT) EE (w3G N) Wy Wt (fun u=>u=pP r) k s
def zz(x:Bool):Tree (Lf EE.T × Option Bool):=.leaf (.done (pP x),some x)
theorem U2{N:Nat}{r:Bool}(x0:List VLabel)(x1:List (List UInt8))(x2:List UInt8)(h:jE N x0 x1 x2=some r):WB N r (UP (aa 0 Tryd.f3)) (UH x0 x1 x2):=
 am (m:=4000) (t:=
 .bnd (fZ N) fun z1=>
 .cond (!z1)
 (
  zz false)
 (
  .bnd (cg N x0 ([] :List VRule)) fun z2=>
  .cond (z2.2.2 != 0)
  (
   zz true)
  (
   .bnd (cg N x0 ([({ Kind:=2,Sources:=x1,Between:=x2,Mask:=([46,42] :List UInt8),Modulus:=0,Target:=([] :List UInt8),Replacement:=([] :List UInt8) }:VRule)] :List VRule)) fun z3=>
   .bnd (cg N x0 ([({ Kind:=3,Sources:=x1,Between:=x2,Mask:=([46,42] :List UInt8),Modulus:=0,Target:=([] :List UInt8),Replacement:=([] :List UInt8) }:VRule)] :List VRule)) fun z4=>
   .cond (!z2.2.1)
   (
    zz false)
   (
    .bnd (ej N z2.1 x0) fun z5=>
    .cond (!z5)
    (
     zz false)
    (
     .cond (z3.2.2 != z4.2.2)
     (
      zz false)
     (
      .cond (z3.2.2 != 0)
      (
       zz true)
      (
       .cond (z3.2.1)
       (
        .bnd (ej N z3.1 x0) fun z6=>
        .cond (z6)
        (
         .cond (!z4.2.1)
         (
          zz ((z4.1.length:Int)==0))
         (
          zz false))
        (
         zz false))
       (
        zz false)))))))) (by kernel_rfl) (by kernel_rfl) h (fun _=>⟨ay (enc:=pP) rfl,fun _=>⟨ay (enc:=pP) rfl,fun _=>fun _=>⟨ay (enc:=pP) rfl,fun _=>⟨ay (enc:=pP) rfl,⟨ay (enc:=pP) rfl,⟨ay (enc:=pP) rfl,⟨fun _=>⟨⟨ay (enc:=pP) rfl,ay (enc:=pP) rfl⟩,ay (enc:=pP) rfl⟩,ay (enc:=pP) rfl⟩⟩⟩⟩⟩⟩⟩)
theorem sV{N:Nat}(x0:List VLabel)(x1:List (List UInt8))(x2:List UInt8){r:Bool}(h:jE N x0 x1 x2=some r)(ρ:Rn):ai Tryd.prog 3 (([.a (.d (.sl (.nam 2)) x0),.a (.d (.sl .str) x1),.a (.d .str x2)] :List (TV EE.T)).map (TV.to EE.toEnc ρ)) [] (fun out H=>out=.ret ((nM r).to EE.toEnc ρ)∧H=[]):=
 (ip (aa 0 Tryd.f3) 81 mixed (VE N) Tryd.func3 (by kernel_rfl) rfl rfl rfl rfl (U2 x0 x1 x2 h) ρ).mono fun out H h=>bQ.ret rfl h
set_option maxRecDepth 1000000
variable {MM:Nat}
theorem OM:fZ (MM+400)=some true:=by kernel_rfl
theorem JA:hQ (MM+400) [46,42] =some (some ⟨0,[⟨1,1,3,none⟩,⟨0,0,0,some (List.replicate 256 true)⟩,⟨2,0,0,none⟩,⟨4,0,0,none⟩]⟩,⟨0,0⟩):=by kernel_rfl
def Ev{α:Type}(f:Nat→Option α)(v:α):Prop:=∃N0,∀N,N0≤N→f N=some v
theorem Ev.mk{α:Type}{f:Nat→Option α}{v:α}(h:∀N,f N=some v):Ev f v:=⟨0,fun N _=>h N⟩
theorem Ev.bind{α β:Type}{a:Nat→Option α}{k:Nat→α→Option β}{x:α}{v:β}(h1:Ev a x)(h2:Ev (fun N=>k N x) v):Ev (fun N=>(a N).bind (k N)) v:=by
 obtain⟨N1,h1⟩:=h1
 obtain⟨N2,h2⟩:=h2
 exact⟨max N1 N2,fun N hN=>by simp only[h1 N (by omega),Option.bind_some];exact h2 N (by omega)⟩
theorem Ev.one{α:Type}{f:Nat→Option α}{v:α}(h:Ev f v):∃N,f N=some v:=let ⟨N,h⟩:=h;⟨N,h N (Nat.le_refl _)⟩
theorem uf{α:Type}(p:List α)(z:α)(r:List α):bN (p++z::r) (p.length:Int)=some z:=by
 unfold bN
 rw[if_pos (by omega)]
 simp
theorem oR{α:Type}{l:List α}{i:Nat}(h:i < l.length):bN l (i:Int)=some l[i] :=by
 unfold bN
 rw[if_pos (by omega)]
 simp[h]
theorem qF{n:Int}(h1: -9223372036854775808≤n)(h2:n < 9223372036854775808):w64 n=n:=by
 unfold w64
 rw[IntKind.wrap_i64];omega
theorem um{α:Type}(p:List α)(z:α)(h:p.length+1 < 9223372036854775808):w64 ((p.length:Int)+1)=((p++ [z]).length:Int):=by
 rw[qF (by omega) (by omega)];simp
theorem lN{α:Type}(p:List α)(z:α)(r:List α):p++z::r=(p++ [z])++r:=by simp
theorem B8{α:Type}(p:List α)(z:α)(r:List α):decide ((p.length:Int) < ((p++z::r).length:Int))=true:=by
 simp;omega
theorem CW{α:Type}(p:List α):decide ((p.length:Int) < ((p++ ([] :List α)).length:Int))=false:=by simp
theorem AO(s:List UInt8)(hs:s.length < 140737488355328)(N:Nat):ei N s=some (iN s):=by unfold ei;rw[if_pos hs]
def zI(l:List VLabel):Prop:=l.length < 140737488355328∧∀z∈l,z.Name.length < 140737488355328∧z.Value.length < 140737488355328
def sf(e:Bool):List VLabel→Option Int
 | [] =>none
 |z::r=>if iN z.Name=false then some 1 else if z.Value=[] ∧e=false then some 1 else if z.Value.length > 100 then some 2 else sf e r
def N5:List VLabel→List VLabel→Bool
 |_,[] =>false
 |p,z::r=>p.any (fun y=>decide (y.Name=z.Name))|| N5 (p++ [z]) r
def uo(e:Bool)(l:List VLabel):Int:=if l.length > 20 then 2 else(sf e l).getD (if N5 [] l then 6 else 0)
theorem AA{α:Type}(k k':List UInt8)(u:α):∀ (m:List (List UInt8 × α)),qj (zV m k u) k'=if k'=k then some u else qj m k'
 | [] =>by simp[zV,qj]
 | (a,b)::m=>by
   have ih:=AA k k' u m
   unfold zV
   by_cases h:k=a
   ·subst h
    rw[if_pos rfl]
    unfold qj
    by_cases h2:k'=k
    ·simp[h2]
    ·simp[h2]
   ·rw[if_neg h]
    unfold qj
    by_cases h2:k'=a
    ·subst h2
     have:¬k'=k:=fun e=>h e.symm
     simp[this]
    ·simp only[if_neg h2,ih]
theorem Ai(N:Nat):∀ (r p:List VLabel) (n:Nat) (m:List (List UInt8 × Bool)),r.length < n→(p++r).length < 140737488355328→(∀k,(qj m k).getD false=p.any (fun y=>decide (y.Name=k)))→eA N n (p++r) ((p++r).length:Int) (p.length:Int) m=some (if N5 p r then 6 else 0)
 | [],p,0,_,h,_,_=>by simp at h
 |c::r,p,0,_,h,_,_=>by simp at h
 | [],p,n+1,m,h,hl,hm=>by
   unfold eA
   rw[CW];rfl
 |c::r,p,n+1,m,h,hl,hm=>by
  have hp:p.length+1 < 9223372036854775808:=by simp at hl;omega
  unfold eA
  rw[B8,cond_true,uf,Option.bind_some,hm,um p c hp]
  simp only[N5]
  by_cases hd:p.any (fun y=>decide (y.Name=c.Name))=true
  ·simp only[hd,cond_true,Bool.true_or,if_true]
  ·rw[Bool.not_eq_true] at hd
   simp only[hd,cond_false,Bool.false_or]
   have ih:=Ai N r (p++ [c]) n (zV m c.Name true) (by simp at h;omega) (by simpa using hl) (fun k=>by
    rw[AA,List.any_append,List.any_cons,List.any_nil,Bool.or_false]
    by_cases hk:k=c.Name
    ·subst hk;simp
    ·rw[if_neg hk,hm]
     have:decide (c.Name=k)=false:=by simp;exact fun e=>hk e.symm
     rw[this,Bool.or_false])
   rw[← lN] at ih
   exact ih
theorem D6(N:Nat)(e:Bool):∀ (r p:List VLabel) (n:Nat),r.length+ (p++r).length+1 < n→zI (p++r)→dN N n (p++r) e (p++r) ((p++r).length:Int) (p.length:Int)=some ((sf e r).getD (if N5 [] (p++r) then 6 else 0))
 |r,p,0,h,_=>by omega
 | [],p,n+1,h,hw=>by
   unfold dN
   rw[CW,cond_false]
   have:=Ai N (p++ []) [] n [] (by simp only[List.length_nil,List.append_nil] at h ⊢;omega) hw.1 (fun k=>by simp[qj])
   simpa[sf] using this
 |z::r,p,n+1,h,hw=>by
  have hp:p.length+1 < 9223372036854775808:=by have:=hw.1;simp only[List.length_append,List.length_cons] at this;omega
  have hz:=hw.2 z (by simp)
  have ih:=D6 N e r (p++ [z]) n (by rw[← lN];simp only[List.length_cons] at h;omega) (by rw[← lN];exact hw)
  rw[← lN] at ih
  unfold dN
  rw[B8,cond_true,uf,Option.bind_some,AO _ hz.1,Option.bind_some]
  unfold gW
  rw[um p z hp,ih]
  simp only[sf]
  cases h1:iN z.Name with
  |false=>simp
  |true=>
   by_cases h5:z.Value.length > 100
   ·have h6:decide ((z.Value.length:Int) > 100)=true:=by simp;omega
    by_cases h3:z.Value=[]
    ·rw[h3] at h5;simp at h5
    ·simp[h3,h6,h5]
   ·have h6:decide ((z.Value.length:Int) > 100)=false:=by simp;omega
    by_cases h3:z.Value=[]
    ·cases e<;> simp[h3]
    ·simp[h3,h6,h5]
theorem Og(e:Bool)(l:List VLabel)(hw:zI l):Ev (fun N=>hD N l e) (uo e l):=⟨2 * l.length+2,fun N hN=>by
 show hD N l e=_
 unfold hD uo
 by_cases h:l.length > 20
 ·have:decide ((l.length:Int) > 20)=true:=by simp;omega
  rw[this];simp[h]
 ·have:decide ((l.length:Int) > 20)=false:=by simp;omega
  have h4:=D6 N e l [] N (by simp only[List.nil_append];omega) (by simpa using hw)
  rw[this,cond_false,if_neg h]
  simpa using h4⟩
def mR:List VLabel→Bool
 |a::b::r=> !Op.bytesLess b.Name a.Name && mR (b::r)
 |_=>true
theorem AY:∀ (p:List VLabel) (a b:VLabel),mR (p++ [a,b])=(mR (p++ [a]) && !Op.bytesLess b.Name a.Name)
 | [],a,b=>by simp[mR]
 | [x],a,b=>by simp[mR,Bool.and_assoc]
 |x::y::p,a,b=>by
  have ih:=AY (y::p) a b
  simp only[List.cons_append] at ih ⊢
  simp only[mR,ih,Bool.and_assoc]
theorem IN(N:Nat)(a b:VLabel):(eS N a b).bind (fun z=>some (decide (z < 0)))=some (Op.bytesLess a.Name b.Name):=by
 unfold eS cf de
 simp only[Option.bind_some,decide_true,Bool.not_true,cond_false]
 cases Op.bytesLess a.Name b.Name with
 |true=>simp
 |false=>
  simp only[cond_false,Bool.false_or]
  by_cases h:a.Name=b.Name
  ·simp[h]
  ·simp[h]
theorem Gp(N:Nat)(a b:VLabel):∃z,eS N a b=some z∧decide (z < 0)=Op.bytesLess a.Name b.Name:=by
 have h:=IN N a b
 cases hz:eS N a b with
 |none=>rw[hz] at h;cases h
 |some z=>rw[hz] at h;exact⟨z,rfl,by simpa using h⟩
theorem vY(N:Nat)(l:List VLabel)(hl:l.length < 140737488355328):∀ (i n:Nat),i < n→i < l.length→aw N n l (i:Int)=some (mR (l.take (i+1)))
 |i,0,h,_=>by omega
 |0,n+1,_,hi=>by
  unfold aw
  cases l with
  |nil=>simp at hi
  |cons a l=>simp[mR]
 |i+1,n+1,h,hi=>by
  have ih:=vY N l hl i n (by omega) (by omega)
  obtain⟨z,hz1,hz2⟩:=Gp N (l[i+1]'hi) (l[i]'(by omega))
  unfold aw
  have h1:decide (((i+1:Nat):Int) > 0)=true:=decide_eq_true (by omega)
  have h2:w64 (((i+1:Nat):Int) - 1)=(i:Int):=by rw[qF (by omega) (by omega)];omega
  rw[h1,cond_true,oR hi,Option.bind_some,h2,oR (by omega),Option.bind_some,hz1,Option.bind_some,hz2,ih]
  have h3:l.take (i+1+1)=l.take i++ [l[i]'(by omega),l[i+1]'hi] :=by
   rw[List.take_succ_eq_append_getElem hi,List.take_succ_eq_append_getElem (by omega:i < l.length),List.append_assoc];rfl
  have h4:l.take (i+1)=l.take i++ [l[i]'(by omega)] :=List.take_succ_eq_append_getElem (by omega)
  rw[h3,AY,← h4]
  cases Op.bytesLess (l[i+1]'hi).Name (l[i]'(by omega)).Name<;> simp
theorem Jy(l:List VLabel)(hl:l.length < 140737488355328):Ev (fun N=>aI N l) (mR l):=⟨l.length+1,fun N hN=>by
 show aI N l=_
 unfold aI
 cases l with
 |nil=>
  have:w64 ((([] :List VLabel).length:Int) - 1)= -1:=by rw[qF] <;> simp
  rw[this]
  cases N with
  |zero=>omega
  |succ n=>
   unfold aw
   simp[mR]
 |cons a l=>
  have:w64 ((((a::l).length:Nat):Int) - 1)=(l.length:Int):=by
   have h1:((a::l).length:Int)=(l.length:Int)+1:=by simp
   rw[qF (by simp only[List.length_cons] at hl;omega) (by simp only[List.length_cons] at hl;omega)];omega
  rw[this,vY N (a::l) hl l.length N (by simp only[List.length_cons] at hN;omega) (by simp)]
  simp⟩
def lT(l:List VLabel):Int:=if uo false l=0 then(if mR l then 0 else 4) else uo false l
theorem KP(l:List VLabel)(hw:zI l):Ev (fun N=>cK N l) (lT l):=by
 obtain⟨N1,h1⟩:=Og false l hw
 obtain⟨N2,h2⟩:=Jy l hw.1
 refine⟨max N1 N2,fun N hN=> ?_⟩
 show cK N l=_
 have h1:=h1 N (by omega)
 have h2:=h2 N (by omega)
 simp only at h1 h2
 unfold cK lT
 rw[h1,Option.bind_some,h2,Option.bind_some]
 by_cases h:uo false l=0
 ·rw[if_pos h,h];cases mR l<;> simp
 ·rw[if_neg h]
  have:(uo false l != 0)=true:=by simpa using h
  rw[this];rfl
theorem wuE{n:Int}(h1:0≤n)(h2:n < 18446744073709551616):IntKind.wrap .u64 n=n:=by rw[IntKind.wrap_u64];omega
theorem tG:∀a:List UInt8,Op.bytesLess a a=false
 | [] =>rfl
 |a::x=>by simp[Op.bytesLess,tG x]
theorem Hl:∀ {a b c:List UInt8},Op.bytesLess a b=true→Op.bytesLess b c=true→Op.bytesLess a c=true
 |_,[],_,h,_=>by simp[Op.bytesLess] at h
 |_,_::_,[],_,h=>by simp[Op.bytesLess] at h
 | [],_::_,_::_,_,_=>rfl
 |a::x,b::y,c::z,h1,h2=>by
  simp only[Op.bytesLess,Bool.or_eq_true,decide_eq_true_eq,Bool.and_eq_true,beq_iff_eq] at h1 h2 ⊢
  rcases h1 with h1| ⟨rfl,h1⟩
  ·rcases h2 with h2| ⟨rfl,h2⟩
   ·exact Or.inl (UInt8.lt_trans h1 h2)
   ·exact Or.inl h1
  ·rcases h2 with h2| ⟨rfl,h2⟩
   ·exact Or.inl h2
   ·exact Or.inr ⟨rfl,Hl h1 h2⟩
theorem Ch:∀ {a b:List UInt8},Op.bytesLess a b=false→Op.bytesLess b a=false→a=b
 | [],[],_,_=>rfl
 |_::_,[],_,h=>by simp[Op.bytesLess] at h
 | [],_::_,h,_=>by simp[Op.bytesLess] at h
 |a::x,b::y,h1,h2=>by
  simp only[Op.bytesLess,Bool.or_eq_false_iff,decide_eq_false_iff_not,Bool.and_eq_false_iff,beq_eq_false_iff_ne] at h1 h2
  have e:a=b:=by
   have h3:=h1.1
   have h4:=h2.1
   rw[UInt8.lt_iff_toNat_lt] at h3 h4
   exact UInt8.toNat.inj (by omega)
  subst e
  rw[Ch (h1.2.resolve_left (by simp)) (h2.2.resolve_left (by simp))]
theorem za{a b c:List UInt8}(h1:Op.bytesLess b a=false)(h2:Op.bytesLess c b=false):Op.bytesLess c a=false:=by
 cases h:Op.bytesLess c a with
 |false=>rfl
 |true=>
  cases h3:Op.bytesLess a b with
  |true=>rw[Hl h h3] at h2;cases h2
  |false=>rw[← Ch h3 h1,h] at h2;cases h2
theorem LD{a:VLabel}{l:List VLabel}(h:mR (a::l)=true):mR l=true∧∀y∈l,Op.bytesLess y.Name a.Name=false:=by
 induction l generalizing a with
 |nil=>exact⟨rfl,fun y hy=>by cases hy⟩
 |cons b l ih=>
  simp only[mR,Bool.and_eq_true,Bool.not_eq_true'] at h
  refine⟨h.2,fun y hy=> ?_⟩
  rcases List.mem_cons.1 hy with rfl|hy
  ·exact h.1
  ·exact za h.1 ((ih h.2).2 y hy)
theorem FF{l:List VLabel}(h:mR l=true):∀ {i j:Nat} (hj:j < l.length) (hij:i≤j),Op.bytesLess l[j].Name (l[i]'(by omega)).Name=false:=by
 induction l with
 |nil=>intro i j hj;simp at hj
 |cons a l ih=>
  intro i j hj hij
  have ht:=LD h
  cases i with
  |zero=>
   cases j with
   |zero=>exact tG _
   |succ j=>exact ht.2 _ (List.getElem_mem _)
  |succ i=>
   cases j with
   |zero=>omega
   |succ j=>exact ih ht.1 (by simpa using hj) (by omega)
def iO(s:List UInt8):List VLabel→List UInt8
 | [] =>[]
 |z::r=>if z.Name=s then z.Value else iO s r
theorem tC{s:List UInt8}:∀ (l:List VLabel) (i:Nat) (hi:i≤l.length),(∀j (hj:j < i),(l[j]'(by omega)).Name≠s)→iO s l=iO s (l.drop i)
 |l,0,_,_=>by simp
 | [],i+1,hi,_=>by simp at hi
 |z::l,i+1,hi,h=>by
  have h0:=h 0 (by omega)
  simp only[List.getElem_cons_zero] at h0
  rw[List.drop_succ_cons,← tC l i (by simpa using hi) fun j hj=>by simpa using h (j+1) (by omega)]
  simp[iO,h0]
theorem tO{s:List UInt8}:∀ (l:List VLabel),(∀z∈l,z.Name≠s)→iO s l=[]
 | [],_=>rfl
 |z::l,h=>by
  rw[iO,if_neg (h z (by simp)),tO l fun y hy=>h y (by simp[hy])]
def Gg(a b:List UInt8):Int:=if Op.bytesLess a b then -1 else if a=b then 0 else 1
theorem Gk(N:Nat)(a b:List UInt8):cf N a b=some (Gg a b):=by
 unfold cf de Gg
 simp only[Option.bind_some,decide_true,Bool.not_true,cond_false]
 cases Op.bytesLess a b with
 |true=>simp
 |false=>by_cases h:a=b<;> simp[h]
theorem Dt(N:Nat)(z:VLabel)(s:List UInt8):eP N z s=some (Gg z.Name s):=by
 unfold eP;rw[Gk];rfl
theorem KE{a b:List UInt8}:decide (Gg a b < 0)=Op.bytesLess a b:=by
 unfold Gg
 cases Op.bytesLess a b with
 |true=>rfl
 |false=>by_cases h:a=b<;> simp[h]
theorem IX{a b:List UInt8}:(Gg a b==0)=decide (a=b):=by
 unfold Gg
 cases h:Op.bytesLess a b with
 |true=>
  have:a≠b:=fun e=>by rw[e,tG] at h;cases h
  simp[this]
 |false=>by_cases h:a=b<;> simp[h]
theorem WE{lo hi:Nat}(h:lo+hi < 9223372036854775808):DJ .u64 (IntKind.wrap .u64 (w64 ((lo:Int)+ (hi:Int)))) 1=some (((lo+hi) / 2:Nat):Int):=by
 rw[qF (by omega) (by omega),wuE (by omega) (by omega)]
 unfold DJ
 rw[if_pos (by omega)]
 have:min (1:Int).toNat IntKind.u64.bits=1:=by decide
 rw[this]
 have e:((lo:Int)+ (hi:Int)).fdiv (2 ^ 1)=(((lo+hi) / 2:Nat):Int):=by
  rw[Int.fdiv_eq_ediv_of_nonneg _ (by omega)];omega
 rw[e]
theorem vl(N:Nat)(l:List VLabel)(s:List UInt8)(hs:mR l=true)(hl:l.length < 140737488355328):∀ (n lo hi:Nat),lo≤hi→hi≤l.length→hi - lo < n→
  (∀j (hj:j < l.length),j < lo→Op.bytesLess l[j].Name s=true)→(∀j (hj:j < l.length),hi≤j→Op.bytesLess l[j].Name s=false)→
  ∃k,k≤l.length∧(∀j (hj:j < l.length),j < k→Op.bytesLess l[j].Name s=true)∧(∀j (hj:j < l.length),k≤j→Op.bytesLess l[j].Name s=false)∧
   aq N n l s (l.length:Int) (lo:Int) (hi:Int)=some ((k:Int),if h:k < l.length then decide (l[k].Name=s) else false)
 |0,lo,hi,_,_,h,_,_=>by omega
 |n+1,lo,hi,h1,h2,h3,h4,h5=>by
  unfold aq
  by_cases hlt:lo < hi
  ·have e0:decide ((lo:Int) < (hi:Int))=true:=by simp;omega
   have hm:(lo+hi) / 2 < l.length:=by omega
   rw[e0,cond_true,WE (by omega),Option.bind_some,qF (by omega) (by omega),oR hm,Option.bind_some,Dt,Option.bind_some,KE,qF (by omega) (by omega)]
   cases hc:Op.bytesLess (l[(lo+hi) / 2]'hm).Name s with
   |true=>
    rw[cond_true]
    exact vl N l s hs hl n ((lo+hi) / 2+1) hi (by omega) h2 (by omega) (fun j hj hjl=>by
     cases hjs:Op.bytesLess l[j].Name s with
     |true=>rfl
     |false=>
      have:=FF hs hm (by omega:j≤(lo+hi) / 2)
      rw[za (a:=s) hjs this] at hc;cases hc) h5
   |false=>
    rw[cond_false]
    exact vl N l s hs hl n lo ((lo+hi) / 2) (by omega) (by omega) (by omega) h4 fun j hj hjl=>za hc (FF hs hj hjl)
  ·obtain rfl:lo=hi:=by omega
   have e0:decide ((lo:Int) < (lo:Int))=false:=by simp
   rw[e0,cond_false]
   refine⟨lo,h2,h4,h5,?_⟩
   by_cases hlo:lo < l.length
   ·have e1:decide ((lo:Int) < (l.length:Int))=true:=by simp;omega
    rw[e1,cond_true,oR hlo,Option.bind_some,Dt,Option.bind_some,IX,dif_pos hlo]
   ·have e1:decide ((lo:Int) < (l.length:Int))=false:=by simp;omega
    rw[e1,cond_false,dif_neg hlo]
theorem My(l:List VLabel)(hw:zI l)(hs:mR l=true)(s:List UInt8){N:Nat}(hN:l.length+1≤N):gA N l s=some (iO s l):=by
 obtain⟨k,h1,h2,h3,h4⟩:=vl N l s hs hw.1 N 0 l.length (by omega) (by omega) (by omega) (fun j hj h=>by omega) (fun j hj h=>by omega)
 have hk:=tC (s:=s) l k h1 fun j hj e=>by
  have:=h2 j (by omega) hj
  rw[e,tG] at this;cases this
 show gA N l s=_
 unfold gA gE aJ
 rw[show(0:Int)=((0:Nat):Int) from rfl,h4]
 simp only[Option.bind_some]
 by_cases hkl:k < l.length
 ·rw[dif_pos hkl,oR hkl]
  simp only[Option.bind_some]
  rw[hk,List.drop_eq_getElem_cons hkl,iO]
  by_cases e:l[k].Name=s
  ·simp[e]
  ·rw[tO]
   ·simp[e]
   ·intro z hz ez
    obtain⟨j,hj,rfl⟩:=List.getElem_of_mem hz
    simp only[List.length_drop] at hj
    simp only[List.getElem_drop] at ez
    have hj2:k+1+j < l.length:=by omega
    have h6:=FF hs hj2 (by omega:k≤k+1+j)
    rw[ez] at h6
    exact e (Ch (h3 k hkl (Nat.le_refl _)) h6)
 ·rw[dif_neg hkl,hk,List.drop_eq_nil_of_le (by omega)];rfl
theorem F7{l:List VLabel}(h:lT l=0):l.length≤20:=by
 unfold lT at h
 split at h
 ·rename_i he
  unfold uo at he
  split at he
  ·omega
  ·omega
 ·rename_i he;exact absurd h he
theorem xH{e:Bool}:∀ {l:List VLabel},sf e l=none→∀z∈l,iN z.Name=true∧z.Value.length≤100
 | [],_,z,hz=>by cases hz
 |y::r,h,z,hz=>by
  unfold sf at h
  split at h
  ·cases h
  ·rename_i h1
   split at h
   ·cases h
   ·split at h
    ·cases h
    ·rename_i h3
     rcases List.mem_cons.1 hz with rfl|hz
     ·exact⟨by simpa using h1,by omega⟩
     ·exact xH h z hz
theorem ul{l:List VLabel}(h:lT l=0):l.length≤20∧∀z∈l,z.Name.length≤40∧z.Value.length≤100:=by
 refine⟨F7 h,fun z hz=> ?_⟩
 have h1:uo false l=0:=by
  unfold lT at h
  split at h
  ·assumption
  ·exact h
 unfold uo at h1
 split at h1
 ·omega
 ·cases hf:sf false l with
  |some e=>
   rw[hf] at h1
   simp only[Option.getD_some] at h1
   exfalso
   have:∀ {l:List VLabel} {e:Int},sf false l=some e→e≠0:=by
    intro l
    induction l with
    |nil=>intro e h;cases h
    |cons y r ih=>
     intro e h
     unfold sf at h
     split at h
     ·cases h;decide
     ·split at h
      ·cases h;decide
      ·split at h
       ·cases h;decide
       ·exact ih h
   exact this hf h1
  |none=>
   obtain⟨q1,q2⟩:=xH hf z hz
   unfold iN at q1
   simp only[Bool.and_eq_true,decide_eq_true_eq] at q1
   exact⟨q1.2,q2⟩
theorem Eh{l:List VLabel}(h:lT l=0):mR l=true:=by
 unfold lT at h
 split at h
 ·by_cases ha:mR l=true
  ·exact ha
  ·rw[if_neg ha] at h;cases h
 ·rename_i he;exact absurd h he
set_option maxRecDepth 1000000
variable {MM:Nat}
def ju(S:List Bool):VMask:=⟨0,[⟨1,1,3,none⟩,⟨0,0,0,some S⟩,⟨2,0,0,none⟩,⟨4,0,0,none⟩]⟩
def rY:List Vthread:=[⟨1,[-1,-1]⟩,⟨3,[-1,-1]⟩]
theorem LY(S:List Bool)(p:Int):cC (MM+400) (some (ju S)) 0 ⟨2,[-1,-1]⟩ p [] [] =some (.ok (2,rY,[(2,true),(0,true),(1,true),(3,true)])):=by kernel_rfl
theorem FX{S:List Bool}{k4:(Option VMask)→(List UInt8)→Nat→Int→Int→(List Vthread)→Option (PR ar)}{n:Nat}{x1:List UInt8}{i x30 x31:Int}{b:UInt8}(hi:bN x1 i=some b)(hb:BK 256 (some S) (b2i b)=some true):
  cT (MM+400) k4 (n+3) (some (ju S)) x1 i 0 x30 x31 2 2 0 [] rY [] =k4 (some (ju S)) x1 2 x30 (w64 (x31+1)) rY:=by
 have h1:cT (MM+400) k4 (n+3) (some (ju S)) x1 i 0 x30 x31 2 2 0 [] rY [] =(bN x1 i).bind fun z=>(BK 256 (some S) (b2i z)).bind fun q=>bif q then
   (cC (MM+400) (some (ju S)) 0 ⟨2,[-1,-1]⟩ (w64 (i+1)) [] []).bind fun z133=>
   match z133 with
   |.pan vz133=>some (.pan vz133)
   |.ok z134=>db (MM+400) (cT (MM+400) k4 (n+2)) k4 (n+2) (some (ju S)) x1 i z134.1 x30 x31 2 2 0 z134.2.2 rY z134.2.1
  else db (MM+400) (cT (MM+400) k4 (n+2)) k4 (n+2) (some (ju S)) x1 i 0 x30 x31 2 2 0 [] rY [] :=by kernel_rfl
 rw[h1,hi,Option.bind_some,hb,Option.bind_some,cond_true,LY,Option.bind_some]
 show _=_
 kernel_rfl
theorem Kl(S:List Bool)(n:Nat)(s:List UInt8):fq (MM+400) (n+2) (some (ju S)) s 2 2 0 rY=some (.ok (true,[])):=by kernel_rfl
def KY(S:List Bool)(s:List UInt8):Prop:=∀b∈s,BK 256 (some S) (b2i b)=some true
theorem KL{s:List UInt8}{i:Nat}(h:i < s.length):∃b,b∈s∧bN s (i:Int)=some b:=by
 refine⟨s[i],List.getElem_mem h,?_⟩
 unfold bN
 rw[if_pos (by omega),Int.toNat_natCast,List.getElem?_eq_getElem h]
theorem LZ{i:Nat}(h:i≤2000):w64 ((i:Int)+1)=((i+1:Nat):Int):=by
 unfold w64;rw[IntKind.wrap_i64];omega
theorem Aj{S:List Bool}{s:List UInt8}(hs:KY S s)(hl:s.length≤2000):∀ (d i n:Nat),i+d=s.length→d+4≤n→cS (MM+400) n (some (ju S)) s 2 (s.length:Int) (i:Int) rY=some (.ok (true,[]))
 |0,i,n,hi,hn=>by
  obtain⟨k,rfl⟩:∃k,n=k+3:=⟨n - 3,by omega⟩
  rw[cS,decide_eq_false (by omega),cond_false]
  exact Kl S k s
 |d+1,i,n,hi,hn=>by
  obtain⟨k,rfl⟩:∃k,n=k+4:=⟨n - 4,by omega⟩
  obtain⟨b,hb,hib⟩:=KL (s:=s) (i:=i) (by omega)
  rw[cS,decide_eq_true (by omega),cond_true]
  show cT (MM+400) (cS (MM+400) (k+3)) (k+3) (some (ju S)) s (i:Int) 0 (s.length:Int) (i:Int) 2 2 0 [] rY [] =_
  rw[FX hib (hs b hb),LZ (by omega)]
  exact Aj hs hl d (i+1) (k+3) (by omega) (by omega)
theorem DL{S:List Bool}{s:List UInt8}(hs:KY S s)(hl:s.length≤2000)(hM:2004≤MM):dU (MM+400) (some (ju S)) s=some (.ok (true,[])):=by
 have h:dU (MM+400) (some (ju S)) s=cS (MM+400) (MM+400) (some (ju S)) s 2 (s.length:Int) ((0:Nat):Int) rY:=by kernel_rfl
 rw[h]
 exact Aj hs hl s.length 0 (MM+400) (by omega) (by omega)
theorem JZ(s:List UInt8):KY (List.replicate 256 true) s:=fun b _=>by
 have h:∀b:UInt8,(b2i b)=((b.toNat:Nat):Int):=fun b=>rfl
 have hb:=b.toNat_lt
 rw[h]
 unfold BK gN
 rw[Option.bind_some,if_pos (by omega),Option.map_some,Int.toNat_natCast,List.getD_eq_getElem?_getD,List.getElem?_replicate,if_pos (by omega)]
 rfl
def rlN(k:Int)(ss:List (List UInt8))(b:List UInt8):VRule:=⟨k,ss,b,[46,42],0,[],[]⟩
def lO(ss:List (List UInt8))(b:List UInt8):Int:=if ss.length > 20 then 2 else if b.length > 100 then 2 else if ss.any (fun s=> !iN s) then 1 else 0
theorem D3(N:Nat):∀ (r p:List (List UInt8)) (n:Nat),r.length < n→(p++r).length < 140737488355328→(∀s∈r,s.length < 140737488355328)→∃z,aO N n (p++r) ((p++r).length:Int) (p.length:Int)=some z∧decide (z≥0)=r.any (fun s=> !iN s)
 |r,p,0,h,hl,hs=>by omega
 | [],p,n+1,h,hl,hs=>by
   unfold aO
   rw[CW,cond_false]
   exact⟨_,rfl,rfl⟩
 |s::r,p,n+1,h,hl,hs=>by
  have hp:p.length+1 < 9223372036854775808:=by simp only[List.length_append,List.length_cons] at hl;omega
  unfold aO fo
  rw[B8,cond_true,uf,Option.bind_some,AO _ (hs s (by simp)),Option.bind_some,Option.bind_some,List.any_cons]
  cases iN s with
  |false=>exact⟨_,rfl,by simp⟩
  |true=>
   obtain⟨z,h1,h2⟩:=D3 N r (p++ [s]) n (by simp only[List.length_cons] at h;omega) (by rw[← lN];exact hl) fun q hq=>hs q (by simp[hq])
   rw[← lN] at h1
   rw[Bool.not_true,cond_false,Bool.false_or,um p s hp]
   exact⟨z,h1,h2⟩
theorem xL{k:Int}(hk:k=2∨k=3)(ss:List (List UInt8))(b:List UInt8)(hs:ss.length < 140737488355328)(hs2:∀s∈ss,s.length < 140737488355328)(hb:b.length < 140737488355328):cm (MM+400) (rlN k ss b)=some (if lO ss b=0 then some (ju (List.replicate 256 true)) else none,lO ss b):=by
 unfold cm lO
 show(bif decide (k < 1) then _ else bif decide (k > 7) then _ else bif decide ((ss.length:Int) > 20) then _ else bif decide ((if(if(b.length:Int) < (0:Int) then(0:Int) else(b.length:Int)) < (0:Int) then(0:Int) else(if(b.length:Int) < (0:Int) then(0:Int) else(b.length:Int))) > 100) then _ else _)=_
 rw[if_neg (show ¬(b.length:Int) < 0 by omega),if_neg (show ¬(b.length:Int) < 0 by omega),decide_eq_false (show ¬k < 1 by omega),cond_false,decide_eq_false (show ¬k > 7 by omega),cond_false]
 by_cases h1:ss.length > 20
 ·rw[if_pos h1,decide_eq_true (by omega),cond_true];rfl
 ·rw[if_neg h1,decide_eq_false (by omega),cond_false]
  by_cases h2:b.length > 100
  ·rw[if_pos h2,decide_eq_true (by omega),cond_true];rfl
  ·rw[if_neg h2,decide_eq_false (by omega),cond_false]
   obtain⟨z,e1,e2⟩:=D3 (MM+400) ss [] (MM+400) (by omega) (by simpa using hs) hs2
   rw[List.nil_append] at e1
   have e3:aT (MM+400) ss=some (ss.any fun s=> !iN s):=by
    unfold aT bv
    have e4:aO (MM+400) (MM+400) ss (ss.length:Int) 0=some z:=e1
    rw[e4,Option.bind_some,e2]
   show((aT (MM+400) ss).bind _)=_
   rw[e3,Option.bind_some]
   cases hany:ss.any (fun s=> !iN s) with
   |true=>rw[cond_true];rfl
   |false=>
    rw[cond_false]
    show((hQ (MM+400) [46,42]).bind _)=_
    rw[JA,Option.bind_some]
    rcases hk with rfl|rfl<;> kernel_rfl
set_option maxRecDepth 1000000
variable {MM:Nat}
theorem rl{α:Type}(by_:Nat)(l m:List α)(h:l.length+m.length≤1048577)(hb:by_≤1000000):jf by_ l m=some (l++m):=by
 unfold jf
 have:(l.length+m.length) * by_≤1048577 * 1000000:=Nat.mul_le_mul h hb
 rw[if_pos (by omega)]
theorem DZ(sep:List UInt8)(k:Nat):∀ (l:List (List UInt8)),(∀s∈l,s.length≤k)→(Lib.join l sep).length≤l.length * (k+sep.length)
 | [],h=>by simp[Lib.join,List.intercalate]
 | [x],h=>by
   have:=h x (by simp)
   simp[Lib.join,List.intercalate];omega
 |x::y::r,h=>by
  have h1:=h x (by simp)
  have ih:=DZ sep k (y::r) fun s hs=>h s (List.mem_cons_of_mem _ hs)
  have e:Lib.join (x::y::r) sep=x++ (sep++Lib.join (y::r) sep):=by simp[Lib.join,List.intercalate]
  rw[e,List.length_append,List.length_append,List.length_cons (a:=x),Nat.succ_mul]
  omega
theorem vX{k:Nat}(s:List UInt8):∀ (l:List VLabel),(∀z∈l,z.Value.length≤k)→(iO s l).length≤k
 | [],h=>Nat.zero_le _
 |z::r,h=>by
  unfold iO
  split
  ·exact h z (by simp)
  ·exact vX s r fun y hy=>h y (by simp[hy])
def un(l:List VLabel)(r:VRule):List UInt8:=Lib.join (r.Sources.map fun s=>iO s l) r.Between
theorem wh{l:List VLabel}(hw:zI l)(hs:mR l=true)(r:VRule){N:Nat}(hN:l.length+1≤N):∀ (ss p:List (List UInt8)) (acc:List (List UInt8)) (n:Nat),ss.length < n→(p++ss).length≤1000→acc.length+ss.length≤1000→dK N n l acc (p++ss) ((p++ss).length:Int) (p.length:Int) r=ig N (acc++ss.map fun s=>iO s l) r.Between
 |ss,p,acc,0,h,_,_=>by omega
 | [],p,acc,n+1,h,hl,ha=>by
   unfold dK
   rw[CW,cond_false,List.map_nil,List.append_nil]
   cases ig N acc r.Between<;> rfl
 |s::ss,p,acc,n+1,h,hl,ha=>by
  have hp:p.length+1 < 9223372036854775808:=by simp only[List.length_append,List.length_cons] at hl;omega
  simp only[List.length_cons] at h ha
  have ih:=wh hw hs r hN ss (p++ [s]) (acc++ [iO s l]) n (by omega) (by rw[← lN];exact hl) (by simp;omega)
  rw[← lN] at ih
  unfold dK
  rw[B8,cond_true,uf,Option.bind_some,My l hw hs s hN,Option.bind_some,rl _ _ _ (by simp;omega) (by omega),Option.bind_some,um p s hp,ih]
  simp
theorem AG{l:List VLabel}(hw:zI l)(hs:mR l=true)(hv:∀z∈l,z.Value.length≤100)(r:VRule)(h1:r.Sources.length≤20)(h2:r.Between.length≤100){N:Nat}(hN:l.length+25≤N):cF N l r=some (un l r):=by
 have h:=wh hw hs r (N:=N) (by omega) r.Sources [] [] N (by omega) (by simpa using (by omega:r.Sources.length≤1000)) (by simp;omega)
 rw[List.nil_append,List.nil_append] at h
 unfold cF
 refine Eq.trans h ?_
 have hj:=DZ r.Between 100 (r.Sources.map fun s=>iO s l) fun s hs'=>by
  obtain⟨q,_,rfl⟩:=List.mem_map.1 hs'
  exact vX q l hv
 rw[List.length_map] at hj
 have:r.Sources.length * (100+r.Between.length)≤20 * 200:=Nat.mul_le_mul h1 (by omega)
 unfold ig
 rw[if_pos ⟨by rw[List.length_map];omega,by omega⟩]
 rfl
theorem Be(N:Nat)(l:List VLabel)(hl:l.length≤1000):∀ (d n i:Nat),i+d=l.length→d+1≤n→dL N n l l (i:Int)=some true
 |d,0,i,h1,h2=>by omega
 |0,n+1,i,h1,h2=>by rw[dL,decide_eq_false (by omega),cond_false]
 |d+1,n+1,i,h1,h2=>by
  have hi:i < l.length:=by omega
  have e1:bN l (i:Int)=some l[i] :=oR hi
  have hb:∀s:List UInt8,zN s s=true:=fun s=>by unfold zN;simp
  rw[dL,decide_eq_true (by omega),cond_true,e1,Option.bind_some,Option.bind_some,hb,hb,qF (by omega) (by omega)]
  exact Be N l hl d n (i+1) (by omega) (by omega)
theorem Ll{N:Nat}{l:List VLabel}(hl:l.length≤1000)(hN:l.length+1≤N):ej N l l=some true:=by
 unfold ej
 rw[show(((l.length:Int)) != (l.length:Int))=false by simp,cond_false]
 exact Be N l hl l.length N 0 (by omega) hN
theorem rh{l:List VLabel}(h:lT l=0):l.length≤20∧(∀z∈l,z.Value.length≤100)∧mR l=true:=
 ⟨(ul h).1,fun z hz=>((ul h).2 z hz).2,Eh h⟩
section
variable {l:List VLabel} {ss:List (List UInt8)} {b:List UInt8}
theorem FQ{N:Nat}(hc:cK N l=some (lT l))(hN:100≤N):cg N l [] =some (if lT l=0 then(l,true,0) else([],false,lT l)):=by
 obtain⟨n,rfl⟩:∃n,N=n+2:=⟨N - 2,by omega⟩
 show ew (n+2) l [] =_
 unfold ew
 rw[decide_eq_false (by simp),cond_false,hc,Option.bind_some]
 by_cases h:lT l=0
 ·rw[h,if_pos rfl,show((0:Int) != 0)=false from rfl,cond_false]
  have hl:=(rh h).1
  unfold cL aA
  rw[decide_eq_false (by simp),cond_false,rl _ _ _ (by simp;omega) (by omega),Option.bind_some,Option.bind_some,List.nil_append]
  unfold cB
  rw[decide_eq_false (by simp),cond_false]
 ·have hb:(lT l != 0)=true:=by simp[h]
  rw[if_neg h,hb,cond_true]
set_option maxHeartbeats 1000000 in
theorem PH(hc:cK (MM+400) l=some (lT l))(hw:zI l)(hs:ss.length < 140737488355328)(hs2:∀s∈ss,s.length < 140737488355328)(hb:b.length < 140737488355328)(hM:3000≤MM):
  cg (MM+400) l [rlN 2 ss b] =some (if lT l=0 then(if lO ss b=0 then(if 2000 < (un l (rlN 2 ss b)).length then([],false,2) else(l,true,0)) else([],false,lO ss b)) else([],false,lT l)):=by
 show ew (MM+400) l [rlN 2 ss b] =_
 unfold ew
 rw[decide_eq_false (by simp),cond_false,hc,Option.bind_some]
 by_cases h:lT l=0
 ·obtain⟨r1,r2,r3⟩:=rh h
  rw[h,if_pos rfl,show((0:Int) != 0)=false from rfl,cond_false,cL,decide_eq_true (by simp),cond_true]
  show((cm (MM+400) (rlN 2 ss b)).bind _)=_
  rw[xL (.inl rfl) ss b hs hs2 hb,Option.bind_some]
  by_cases he:lO ss b=0
  ·rw[he,if_pos rfl,if_pos rfl]
   dsimp only
   rw[show((0:Int) != 0)=false from rfl,cond_false,rl _ _ _ (by simp) (by omega),Option.bind_some]
   show cL (MM+400) (MM+399) l [rlN 2 ss b] [some (ju (List.replicate 256 true))] [rlN 2 ss b] 1 (w64 1)=_
   rw[cL,decide_eq_false (by decide),cond_false]
   unfold aA
   rw[rl _ _ _ (by simp;omega) (by omega),Option.bind_some,Option.bind_some,List.nil_append]
   have hss:ss.length≤20∧b.length≤100:=by
    unfold lO at he
    split at he
    ·cases he
    ·split at he
     ·cases he
     ·omega
   rw[cB,decide_eq_true (by simp),cond_true]
   show((cF (MM+400) l (rlN 2 ss b)).bind _)=_
   rw[AG hw r3 r2 (rlN 2 ss b) hss.1 hss.2 (by omega),Option.bind_some]
   by_cases hj:2000 < (un l (rlN 2 ss b)).length
   ·rw[if_pos hj,decide_eq_true (by omega),cond_true]
   ·rw[if_neg hj,decide_eq_false (by omega),cond_false]
    have hf:=DL (MM:=MM) (JZ (un l (rlN 2 ss b))) (by omega) (by omega)
    have hk:gz (MM+400) l (rlN 2 ss b) (some (ju (List.replicate 256 true))) (un l (rlN 2 ss b))=some (l,true):=by
     unfold gz jK
     rw[hf]
     rfl
    show((gz (MM+400) l (rlN 2 ss b) (some (ju (List.replicate 256 true))) (un l (rlN 2 ss b))).bind _)=_
    rw[hk,Option.bind_some]
    dsimp only
    rw[Bool.not_true,cond_false,decide_eq_false (by omega),cond_false]
    show cB (MM+400) (MM+399) l [some (ju (List.replicate 256 true))] [rlN 2 ss b] 1 (w64 1)=_
    rw[cB,decide_eq_false (by decide),cond_false]
  ·have hb2:(lO ss b != 0)=true:=by simp[he]
   rw[if_neg he,if_neg he]
   dsimp only
   rw[hb2,cond_true]
 ·have hb2:(lT l != 0)=true:=by simp[h]
  rw[if_neg h,hb2,cond_true]
set_option maxHeartbeats 1000000 in
theorem Qv(hc:cK (MM+400) l=some (lT l))(hw:zI l)(hs:ss.length < 140737488355328)(hs2:∀s∈ss,s.length < 140737488355328)(hb:b.length < 140737488355328)(hM:3000≤MM):
  cg (MM+400) l [rlN 3 ss b] =some (if lT l=0 then(if lO ss b=0 then(if 2000 < (un l (rlN 3 ss b)).length then([],false,2) else([],false,0)) else([],false,lO ss b)) else([],false,lT l)):=by
 show io (MM+400) l [rlN 3 ss b] =_
 unfold io
 rw[decide_eq_false (by simp),cond_false,hc,Option.bind_some]
 by_cases h:lT l=0
 ·obtain⟨r1,r2,r3⟩:=rh h
  rw[h,if_pos rfl,show((0:Int) != 0)=false from rfl,cond_false,dw,decide_eq_true (by simp),cond_true]
  show((cm (MM+400) (rlN 3 ss b)).bind _)=_
  rw[xL (.inr rfl) ss b hs hs2 hb,Option.bind_some]
  by_cases he:lO ss b=0
  ·rw[he,if_pos rfl,if_pos rfl]
   dsimp only
   rw[show((0:Int) != 0)=false from rfl,cond_false,rl _ _ _ (by simp) (by omega),Option.bind_some]
   show dw (MM+400) (MM+399) l [rlN 3 ss b] [some (ju (List.replicate 256 true))] [rlN 3 ss b] 1 (w64 1)=_
   rw[dw,decide_eq_false (by decide),cond_false]
   unfold aA
   rw[rl _ _ _ (by simp;omega) (by omega),Option.bind_some,Option.bind_some,List.nil_append]
   have hss:ss.length≤20∧b.length≤100:=by
    unfold lO at he
    split at he
    ·cases he
    ·split at he
     ·cases he
     ·omega
   rw[er,decide_eq_true (by simp),cond_true]
   show((cF (MM+400) l (rlN 3 ss b)).bind _)=_
   rw[AG hw r3 r2 (rlN 3 ss b) hss.1 hss.2 (by omega),Option.bind_some]
   by_cases hj:2000 < (un l (rlN 3 ss b)).length
   ·rw[if_pos hj,decide_eq_true (by omega),cond_true]
   ·rw[if_neg hj,decide_eq_false (by omega),cond_false]
    have hf:=DL (MM:=MM) (JZ (un l (rlN 3 ss b))) (by omega) (by omega)
    have hk:gw (MM+400) l (rlN 3 ss b) (some (ju (List.replicate 256 true))) (un l (rlN 3 ss b))=some (l,false):=by
     unfold gw jJ
     rw[hf]
     rfl
    show((gw (MM+400) l (rlN 3 ss b) (some (ju (List.replicate 256 true))) (un l (rlN 3 ss b))).bind _)=_
    rw[hk,Option.bind_some]
    dsimp only
    rw[Bool.not_false,cond_true]
  ·have hb2:(lO ss b != 0)=true:=by simp[he]
   rw[if_neg he,if_neg he]
   dsimp only
   rw[hb2,cond_true]
 ·have hb2:(lT l != 0)=true:=by simp[h]
  rw[if_neg h,hb2,cond_true]
theorem yT(hw:zI l)(hs:ss.length < 140737488355328)(hs2:∀s∈ss,s.length < 140737488355328)(hb:b.length < 140737488355328):∃N,jE N l ss b=some true:=by
 obtain⟨N0,hc⟩:=KP l hw
 refine⟨N0+3000+400,?_⟩
 have hc:=hc (N0+3000+400) (by omega)
 have k0:=FQ hc (by omega)
 have k1:=PH (MM:=N0+3000) (ss:=ss) (b:=b) hc hw hs hs2 hb (by omega)
 have k2:=Qv (MM:=N0+3000) (ss:=ss) (b:=b) hc hw hs hs2 hb (by omega)
 unfold jE
 rw[OM,Option.bind_some,Bool.not_true,cond_false,k0,Option.bind_some]
 by_cases h:lT l=0
 ·obtain⟨r1,r2,r3⟩:=rh h
  rw[if_pos h]
  dsimp only
  rw[show((0:Int) != 0)=false from rfl,cond_false]
  show((cg (N0+3000+400) l [rlN 2 ss b]).bind _)=_
  rw[k1,if_pos h,Option.bind_some]
  show((cg (N0+3000+400) l [rlN 3 ss b]).bind _)=_
  rw[k2,if_pos h,Option.bind_some,Bool.not_true,cond_false,Ll (by omega) (by omega),Option.bind_some,Bool.not_true,cond_false]
  by_cases he:lO ss b=0
  ·rw[if_pos he,if_pos he]
   by_cases hj:2000 < (un l (rlN 2 ss b)).length
   ·have hj3:2000 < (un l (rlN 3 ss b)).length:=hj
    rw[if_pos hj,if_pos hj3]
    rfl
   ·have hj3:¬2000 < (un l (rlN 3 ss b)).length:=hj
    rw[if_neg hj,if_neg hj3]
    dsimp only
    rw[show((0:Int) != 0)=false from rfl,cond_false,cond_false,cond_true,Ll (by omega) (by omega),Option.bind_some,cond_true]
    rfl
  ·rw[if_neg he,if_neg he]
   have hb2:(lO ss b != 0)=true:=by simp[he]
   have hb3:(lO ss b != lO ss b)=false:=by simp
   dsimp only
   rw[hb3,cond_false,hb2,cond_true]
 ·rw[if_neg h]
  have hb2:(lT l != 0)=true:=by simp[h]
  dsimp only
  rw[hb2,cond_true]
end
end Go.Proofs.YtobacplonkjigaaDoor
namespace Go.Proofs.YtobacplonkjigaaDoor
open Go.RowKit Go.Deep Go.ChangeShapes Go.WideShapes Go.ChangeAt P
def EV(w:World)(us:List AV)(cs:List Value):Prop:=us.length=cs.length∧∀ (i:Nat) u v,us[i]? =some u→cs[i]? =some v→Rel (uV w) u v
def oE(w:World)(us:List AV)(off:Nat)(cs:List Value):Prop:=∀ (i:Nat) u v,us[i]? =some u→cs[off+i]? =some v→Rel (uV w) u v
theorem oE.of_piece{w:World}{us:List AV}{off k:Nat}{cs:List Value}(h:EV w us ((cs.drop off).take k)):oE w us off cs:=fun i u v hu hv=>by
 refine h.2 i u v hu ?_
 have hi:i < ((cs.drop off).take k).length:=by rw[← h.1];exact(List.getElem?_eq_some_iff.1 hu).1
 have hk:i < k:=by rw[List.length_take] at hi;omega
 rw[List.getElem?_take,if_pos hk,List.getElem?_drop];exact hv
theorem oE.nil{w:World}{off:Nat}{cs:List Value}:oE w [] off cs:=fun i u v hu=>by simp at hu
theorem oE.cat{w:World}{us us':List AV}{off off':Nat}{cs:List Value}(h:oE w us off cs)(h':oE w us' off' cs)(e:off'=off+us.length):oE w (us++us') off cs:=fun i u v hu hv=>by
 by_cases hi:i < us.length
 ·rw[List.getElem?_append_left hi] at hu;exact h i u v hu hv
 ·rw[List.getElem?_append_right (by omega)] at hu
  exact h' (i - us.length) u v hu (by rw[e,show off+us.length+ (i - us.length)=off+i by omega];exact hv)
theorem oE.whole{w:World}{us:List AV}{cs:List Value}(h:oE w us 0 cs)(e:us.length=cs.length):EV w us cs:=⟨e,fun i u v hu hv=>h i u v hu (by simpa using hv)⟩
section
variable {R:Nat} {H:Type} {enc:TypeId × Value→H} {Pr:Program} {w:World} {base:Nat} {spare:Nat→Bool} {held:Bool}
def vc(R:Nat){H:Type}(enc:TypeId × Value→H)(Pr:Program)(w:World)(base:Nat)(spare:Nat→Bool)(held:Bool)(t:TypeId){α:Type}(ec:α→List AV)(Wf:α→Prop):Prop:=
 ∀ (fuel:Nat) (cs:List Value) (x:DataW H × List MemPlace),DataW.trod enc Pr w base spare held fuel t cs=some x→(∀n∈x.1.weights Pr t,n≤R)→∃z,Wf z∧EV w (ec z) cs
abbrev LL{H:Type}(enc:TypeId × Value→H)(Pr:Program)(w:World)(base:Nat)(spare:Nat→Bool)(held:Bool)(t:TypeId){α:Type}(ec:α→List AV)(Wf:α→Prop):Prop:=vc reachBytes enc Pr w base spare held t ec Wf
theorem uP{t:TypeId}(ht:Pr.underlying t=some .string):vc R enc Pr w base spare held t (fun s:List UInt8=>[.v (.string (mkB s))]) (fun s=>s.length≤R):=by
 intro fuel cs x h hw
 obtain⟨s,rfl,rfl,hs⟩:=DataW.trod_string ht h
 refine⟨s.data.toList,hw _ (by simp[DataW.weights]),rfl,fun i u v hu hv=> ?_⟩
 match i,hu,hv with
 |0,hu,hv=>simp at hu hv;subst hu hv;exact .v _
 |i+1,hu,hv=>simp at hu
theorem pQ{e:TypeId}:∀ {l:List (DataW H)} {d:DataW H},d∈l→∀n∈d.weights Pr e,n∈DataW.weightsAll Pr e l
 | [],_,h,_,_=>by cases h
 |x::l,d,h,n,hn=>by
  simp only[DataW.weightsAll,List.mem_append]
  rcases List.mem_cons.1 h with rfl|h
  ·exact .inl hn
  ·exact .inr (pQ h n hn)
theorem oJ{t:TypeId}:∀ {ts:List TypeId} {l:List (DataW H)} {j:Nat} {d:DataW H},ts[j]? =some t→l[j]? =some d→∀n∈d.weights Pr t,n∈DataW.weightsEach Pr ts l
 | [],_,_,_,h,_,_,_=>by simp at h
 |_::_,[],_,_,_,h,_,_=>by simp at h
 |t0::ts,d0::l,0,d,h1,h2,n,hn=>by
  simp at h1 h2;subst h1 h2
  simp only[DataW.weightsEach,List.mem_append];exact .inl hn
 |t0::ts,d0::l,j+1,d,h1,h2,n,hn=>by
  simp only[DataW.weightsEach,List.mem_append]
  exact .inr (oJ (j:=j) (by simpa using h1) (by simpa using h2) n hn)
theorem ID{a:Addr}{n:Nat}{cs:List Value}(h:w.cells? base a n=some cs):cs.length=n∧∀j,j < n→w.cell? (a.add j)=cs[j]? :=by
 unfold World.cells? at h
 split at h
 ·refine⟨by simpa using mapM_some_length h,fun j hj=> ?_⟩
  exact mapM_some_get h j j (by simp[hj])
 ·cases h
theorem wc{t e:TypeId}{α:Type}{ec:α→List AV}{Wf:α→Prop}{sz:Nat}(ht:Pr.underlying t=some (.slice e))(hc:Pr.cellsOf e=sz)(h1:1≤sz)(hb:1≤Pr.bytesOf e)(hlen:∀z,(ec z).length=sz)(ho:vc R enc Pr w base spare held e ec Wf):
  vc R enc Pr w base spare held t (fun l:List α=>[.sl false sz (l.map ec)]) (fun l=>l.length≤R∧∀z∈l,Wf z):=by
 intro fuel cs x h hw
 have one:∀ (l:List α) (v:Value),Rel (uV w) (.sl false sz (l.map ec)) v→EV w [.sl false sz (l.map ec)] [v] :=fun l v hr=>⟨rfl,fun i u v' hu hv=>by
  match i,hu,hv with
  |0,hu,hv=>simp at hu hv;subst hu hv;exact hr
  |i+1,hu,hv=>simp at hu⟩
 rcases open_slice ht h with ⟨rfl,rfl⟩| ⟨a,len,cap,m,n,D,Pl,rfl,hba,hl,hm,hmm,rfl,hel⟩
 ·exact⟨[],⟨Nat.zero_le _,fun z hz=>by cases hz⟩,one [] _ (.nl _ _ _ _)⟩
 ·have hlm:len≤m:=by rw[hmm];split<;> omega
  have hlr:len≤R:=by
   have:=hw ((((List.range len).map D).length+ ((List.range (m - len)).map fun j=>D (len+j)).length) * Pr.bytesOf e) (by simp only[DataW.weights,ht];exact List.mem_cons_self ..)
   simp only[List.length_map,List.length_range] at this
   have h2:(len+ (m - len)) * 1≤(len+ (m - len)) * Pr.bytesOf e:=Nat.mul_le_mul_left _ hb
   omega
  have hwt:∀i,i < len→∀k∈(D i).weights Pr e,k≤R:=fun i hi k hk=>by
   refine hw k ?_
   simp only[DataW.weights,ht]
   refine List.mem_cons_of_mem _ (List.mem_append.2 (.inl ?_))
   exact pQ (List.mem_map.2 ⟨i,List.mem_range.2 hi,rfl⟩) k hk
  rcases Nat.eq_zero_or_pos len with h0|hpos
  ·subst h0
   exact⟨[],⟨Nat.zero_le _,fun z hz=>by cases hz⟩,one [] _ (.nl _ _ _ _)⟩
  have each:∀i,i < len→∃y:α × List Value,Wf y.1∧EV w (ec y.1) y.2∧y.2.length=sz∧∀j,j < sz→w.cell? ((a.add (i * sz)).add j)=y.2[j]? :=fun i hi=>by
   obtain⟨cs',h2,h3⟩:=hel i (by omega)
   rw[hc] at h2
   obtain⟨z,hz,hr⟩:=ho _ _ _ h3 (hwt i hi)
   obtain⟨k1,k2⟩:=ID h2
   exact⟨(z,cs'),hz,hr,k1,k2⟩
  obtain⟨y0,_⟩:=each 0 hpos
  haveI:Inhabited (α × List Value):=⟨y0⟩
  obtain⟨f,hf⟩:=choose_lt each
  have hspot:a.spot=none:=by
   obtain⟨_,_,k1,k2⟩:=hf 0 hpos
   have:=k2 0 (by omega)
   rw[List.getElem?_eq_getElem (by omega)] at this
   obtain⟨b,off,spot⟩:=a
   simpa[Addr.add] using World.cell?_spot this
  obtain⟨b,off,spot⟩:=a
  simp only at hspot
  subst hspot
  have hcell:∀i,i < len→∀j,j < sz→w.cell? ⟨b,off+i * sz+j,none⟩=(f i).2[j]? :=fun i hi j hj=>by
   have:=(hf i hi).2.2.2 j hj
   rw[en,en] at this
   exact this
  have hblk:∃cs e' fr,w.heap[b]? =some (.cells cs e' fr)∧off+ (len - 1) * sz+ (sz - 1) < cs.size:=by
   have c2:=hcell (len - 1) (by omega) (sz - 1) (by omega)
   rw[List.getElem?_eq_getElem (by have:=(hf (len - 1) (by omega)).2.2.1;omega)] at c2
   unfold World.cell? at c2
   split at c2
   ·rename_i cs e' fr hb'
    exact⟨cs,e',fr,hb',(Array.getElem?_eq_some_iff.1 c2).1⟩
   all_goals cases c2
  obtain⟨cs,e',fr,hb',hsz⟩:=hblk
  have hg:(uV w).g b=some cs.size:=by simp only[uV,hb']
  have hsum:(len - 1) * sz+sz=len * sz:=by rw[← Nat.succ_mul];congr 1;omega
  refine⟨(List.range len).map fun i=>(f i).1,⟨by simpa using hlr,fun z hz=> ?_⟩,one _ _ ?_⟩
  ·obtain⟨i,hi,rfl⟩:=List.mem_map.1 hz
   exact(hf i (List.mem_range.1 hi)).1
  ·have hL:(((List.range len).map fun i=>(f i).1).map ec).length=len:=by simp
   have hrow:∀ (i:Nat) r,(((List.range len).map fun i=>(f i).1).map ec)[i]? =some r→i < len∧r=ec (f i).1:=fun i r hr=>by
    have hi:i < len:=by have:=(List.getElem?_eq_some_iff.1 hr).1;simpa using this
    refine⟨hi,?_⟩
    simp[hi] at hr
    exact hr.symm
   have:=Rel.sl (X:=uV w) false sz (((List.range len).map fun i=>(f i).1).map ec) b off cap cs.size (fun i j=>((f i).2[j]?).getD undef) hg (by rw[hL];omega) (by rw[hL];exact hl) (fun i r hr=>by rw[(hrow i r hr).2];exact hlen _) (fun i j r u hr hu=>by
    obtain⟨hi,rfl⟩:=hrow i r hr
    have hj:j < sz:=by have:=(List.getElem?_eq_some_iff.1 hu).1;rw[hlen] at this;exact this
    have hjl:j < (f i).2.length:=by rw[(hf i hi).2.2.1];exact hj
    show w.cell? _=_
    rw[hcell i hi j hj,List.getElem?_eq_getElem hjl];rfl) (fun i j r u hr hu=>by
    obtain⟨hi,rfl⟩:=hrow i r hr
    have hj:j < sz:=by have:=(List.getElem?_eq_some_iff.1 hu).1;rw[hlen] at this;exact this
    have hjl:j < (f i).2.length:=by rw[(hf i hi).2.2.1];exact hj
    refine(hf i hi).2.1.2 j u _ hu ?_
    rw[List.getElem?_eq_getElem hjl];rfl)
   rw[hL] at this
   exact this
theorem Q2{t:TypeId}{fs:Array Field}{xs:List (DataW H × List MemPlace)}{n:Nat}{cs:List Value}{α:Type}{ec:α→List AV}{Wf:α→Prop}(ht:Pr.underlying t=some (.struct fs))(hlen:xs.length=fs.size)
  (hf:∀ (i:Nat) (f:Field),fs[i]? =some f→DataW.trod enc Pr w base spare held n f.type ((cs.drop f.offset).take (Pr.cellsOf f.type))=xs[i]?) (hw:∀n∈(DataW.agg (xs.map (·.1))).weights Pr t,n≤R)
  (i:Nat) (f:Field) (hi:fs[i]? =some f) (ho:vc R enc Pr w base spare held f.type ec Wf):∃z,Wf z∧oE w (ec z) f.offset cs:=by
 have h1:=hf i f hi
 have hil:i < xs.length:=by rw[hlen];exact(Array.getElem?_eq_some_iff.1 hi).1
 rw[List.getElem?_eq_getElem hil] at h1
 obtain⟨z,hz,hr⟩:=ho _ _ _ h1 fun k hk=>hw k (by
  simp only[DataW.weights,ht]
  exact oJ (j:=i) (t:=f.type) (by
   have hi':fs.toList[i]? =some f:=by simpa using hi
   simp[hi']) (by simp[List.getElem?_eq_getElem hil]) k hk)
 exact⟨z,hz,.of_piece hr⟩
theorem NW{r:Reach}{b0:Nat}{t e:TypeId}{v:Value}{d:DataW H}{ps:List MemPlace}{α:Type}{u:α→AV}{Wf:α→Prop}(ho:vc R enc Pr w base spare held t (fun z=>[u z]) Wf)(ht:Pr.underlying t=some (.slice e))(hval:Value.okWide Pr w r b0 t v)(hd:DataW.Trod enc Pr w base spare held t v d ps)(hw:∀n∈d.weights Pr t,n≤R):
  ∃z,Wf z∧Rel (uV w) (u z) v:=by
 obtain⟨oa,ln,cp,rfl⟩:=okWide_slice ht hval
 obtain⟨fuel,hf⟩:=hd
 obtain⟨z,hz,hr⟩:=ho _ _ _ hf hw
 exact⟨z,hz,hr.2 0 _ _ rfl (by simp[Value.cells])⟩
end
theorem Tryd.own:ownKnob Tryd.prog.godebug=none:=by kernel_rfl
theorem Tryd.laidOut:laidOutB Tryd.prog=true:=by kernel_rfl
def o9(z:VLabel):Prop:=(z.Name.length≤reachBytes)∧(z.Value.length≤reachBytes)
theorem FI{H:Type}{enc:TypeId × Value→H}{w:World}{base:Nat}{spare:Nat→Bool}{held:Bool}:LL enc Tryd.prog w base spare held 34 dJ o9:=by
 intro fuel cs x h hw
 obtain⟨xs,n,_,rfl,hl,hlen,hf⟩:=DataW.trod_struct Tryd.underlying34 h
 obtain⟨z0,w0,r0⟩:=Q2 Tryd.underlying34 hlen hf hw 0 _ rfl (uP Tryd.underlying9)
 obtain⟨z1,w1,r1⟩:=Q2 Tryd.underlying34 hlen hf hw 1 _ rfl (uP Tryd.underlying9)
 have hcs:Tryd.prog.cellsOf 34=2:=by kernel_rfl
 exact⟨⟨z0,z1⟩,⟨w0,w1⟩,oE.whole (oE.cat r0 r1 (by rfl)) (by rw[hl,hcs];rfl)⟩
theorem tJ{H:Type}{enc:TypeId × Value→H}{w:World}{base:Nat}{spare:Nat→Bool}{held:Bool}:LL enc Tryd.prog w base spare held 22 (fun l:List VLabel=>[AV.sl false 2 (l.map dJ)]) (fun l=>l.length≤reachBytes∧∀y∈l,o9 y):=
 wc Tryd.underlying22 (by kernel_rfl) (by decide) (of_decide_eq_true (by kernel_rfl)) (fun z=>by rfl) FI
theorem xm{H:Type}{enc:TypeId × Value→H}{w:World}{base:Nat}{spare:Nat→Bool}{held:Bool}:LL enc Tryd.prog w base spare held 23 (fun l:List (List UInt8)=>[AV.sl false 1 (l.map (fun s:List UInt8=>[AV.v (.string (mkB s))]))]) (fun l=>l.length≤reachBytes∧∀y∈l,y.length≤reachBytes):=
 wc Tryd.underlying23 (by kernel_rfl) (by decide) (of_decide_eq_true (by kernel_rfl)) (fun z=>by rfl) (uP Tryd.underlying9)
end Go.Proofs.YtobacplonkjigaaDoor
