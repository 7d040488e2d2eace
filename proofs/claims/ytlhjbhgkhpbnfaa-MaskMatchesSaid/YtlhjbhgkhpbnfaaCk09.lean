import Derived.Test.YtlhjbhgkhpbnfaaCk08
import Derived.ProofKit
import Derived.OpenShut
import Derived.Deep.Slices
import Derived.Test.YtlhjbhgkhpbnfaaRows
import Derived.WalkKit
import Derived.WalkSpells
import Derived.WalkLawsBesides
import Derived.Lib.VarintBits
import Derived.Lib.BufferRead
import Derived.Lib.Hide
set_option linter.unusedSimpArgs false
set_option linter.unusedVariables false
set_option linter.defProp false
namespace Go.Proofs.Ytlhjbhgkhpbnfaa
open Go.RowKit P
set_option maxRecDepth 1000000
variable {MM:Nat}
def Jf(m:List UInt8)(j:Nat):([42,43,63] :List UInt8).any (fun x=>bQ m x j)= !(d9 m j==0):=by show(bQ m 42 j || (bQ m 43 j || (bQ m 63 j || false)))=_;unfold d9;cases bQ m 42 j<;> cases bQ m 43 j<;> cases bQ m 63 j<;> rfl
def D9{m:List UInt8}{j:Nat}(h:(d9 m j==0)=false):m[j]? =some (d9 m j):=by
 have key:∀c:UInt8,bQ m c j=true->m[j]? =some c:=fun c hc=>by
  have hj:=ee hc;obtain⟨b,hb⟩:∃b,m[j]? =some b:=⟨_,ZE hj⟩
  rw[eM hb,ze,aaR] at hc;rw[hb,hc]
 unfold d9 at *;cases h1:bQ m 42 j with
 |true=>exact key _ h1
 |false=>
  cases h2:bQ m 43 j with
  |true=>exact key _ h2
  |false=>
   cases h3:bQ m 63 j with
   |true=>exact key _ h3
   |false=>rw[h1,h2,h3] at h;cases h
def Xj{m:List UInt8}{j:Nat}(h:(d9 m j==0)=false):bQ m 63 j=(d9 m j==63):=by rw[eM (D9 h),ze]
abbrev wB:=(List (List VPiece))->(List VPiece)->VReader->Option (PR ah)
abbrev sn:=(List (List VPiece))->VReader->Option (PR ah)
def afK(N:RecC3)(K:wB)(k2:sn)(n:Nat)(x3:List (List VPiece))(x4:List VPiece)(z4:VPiece × VReader):Option (PR ah):=
 bif z4.2.F.Err==0 then
  (a8 N.n ([42,43,63] :List UInt8) z4.2).bind fun z5=>
  bif z5.1 then
   bif z4.1.Group then
    (aX N.n 63 z5.2).bind fun z6=>
    bif !z6.1 then
     (kA N.n z4.1.Rows).bind fun z7=>
     match z7 with
     |.pan vz7=>some (.pan vz7)
     |.ok z8=>
      bif z8 then
       (ai N.n 4 z6.2.At z6.2).bind fun z9=>
       aO N K k2 n x3 x4 (VPiece.mk z4.1.Group z4.1.Set z4.1.Number z4.1.Rows z4.1.Sign) z9
      else
       aO N K k2 n x3 x4 (VPiece.mk z4.1.Group z4.1.Set z4.1.Number z4.1.Rows z4.1.Sign) z6.2
    else
     aO N K k2 n x3 x4 (VPiece.mk z4.1.Group z4.1.Set z4.1.Number z4.1.Rows z4.1.Sign) z6.2
   else
    aO N K k2 n x3 x4 (VPiece.mk z4.1.Group z4.1.Set z4.1.Number z4.1.Rows z4.1.Sign) z5.2
  else
   bb N K k2 n x3 x4 (VPiece.mk z4.1.Group z4.1.Set z4.1.Number z4.1.Rows z4.1.Sign) z5.2
 else
  bb N K k2 n x3 x4 (VPiece.mk z4.1.Group z4.1.Set z4.1.Number z4.1.Rows z4.1.Sign) z4.2
def pcK(N:RecC3)(K:wB)(k2:sn)(n:Nat)(x3:List (List VPiece))(x4:List VPiece)(b:VReader):Option (PR ah):=
 (bO N b).bind fun z3=>
 match z3 with
 |.pan vz3=>some (.pan vz3)
 |.ok z4=>afK N K k2 n x3 x4 z4
def Ae(m:List UInt8)(N:RecC3)(K:wB)(k2:sn)(n:Nat)(out:List (List VPiece))(row:List VPiece)(r:Option (PR ah)):Except (Int × Int) (Nd × Nat × Nat)->Prop
 |.error q=>∃ (p:VPiece) (j:Nat) (g:Int),j<=m.length/\r=bb N K k2 n out row p (rdr m j g ⟨q.1,q.2⟩)
 |.ok (x,j,g)=>r=bb N K k2 n out row x.vv.1 (rdr m j g f0)
def Uo(m:List UInt8)(N:RecC3)(K:wB)(k2:sn)(n:Nat)(out:List (List VPiece))(row:List VPiece){q:Int × Int}(hq:q.1≠0)(p:VPiece){j:Nat}(hj:j<=m.length)(g:Int):Ae m N K k2 n out row (afK N K k2 n out row (p,rdr m j g ⟨q.1,q.2⟩)) (.error q):=by refine⟨VPiece.mk p.Group p.Set p.Number p.Rows p.Sign,j,g,hj,?_⟩;unfold afK;show(bif q.1==0 then _ else _)=_;rw[Z9.2 hq,ZF]
def Kk{m:List UInt8}(hm:m.length<=60)(N:RecC3)(K:wB)(k2:sn)(n:Nat)(out:List (List VPiece))(row:List VPiece)(p:VPiece){j:Nat}(h:(d9 m j==0)=false)(g:Int)(F:VFault):aO N K k2 n out row p (rdr m j g F)=bb N K k2 n out row (VPiece.mk p.Group p.Set p.Number p.Rows (d9 m j)) (rdr m (j+1) g F):=by have hj:=(ZD.1 (D9 h)).1;unfold aO;show((ci m (j:Int)).bind fun z10=>bb N K k2 n out row (VPiece.mk p.Group p.Set p.Number p.Rows z10) (⟨m,w64 ((j:Int)+1),g,F⟩:VReader))=_;rw[ixn,D9 h,ZC,f9 (by omega)];rfl
def YT{m:List UInt8}(hm:m.length<=60)(k)(K:wB)(k2:sn)(n:Nat)(out:List (List VPiece))(row:List VPiece)(S:List Bool)(j g:Nat):Ae m ⟨(MM+3000),k⟩ K k2 n out row (afK ⟨(MM+3000),k⟩ K k2 n out row (KS S,rdr m j g f0)) (bif d9 m j==0 then .ok (.set S 0,j,g) else .ok (.set S (d9 m j),j+1,g)):=by
 unfold afK;show Ae m ⟨(MM+3000),k⟩ K k2 n out row ((a8 (MM+3000) ([42,43,63] :List UInt8) (rdr m j g f0)).bind _) _;rw[ya _ _ _ _ _ (by decide),ZC,Jf];dsimp only;cases hs:(d9 m j==0) with
 |true=>rfl
 |false=>rw[aaG,ZG,ZF];show aO ⟨(MM+3000),k⟩ K k2 n out row (KS S) (rdr m j g f0)=_;rw[Kk hm _ _ _ _ _ _ _ hs];rfl
def Xt{m:List UInt8}(hm:m.length<=60)(k)(K:wB)(k2:sn)(n:Nat)(out:List (List VPiece))(row:List VPiece)(M:Nd)(gn:Nat)(hM:M.fm.2.2)(hl:M.len<=500)(j g:Nat):Ae m ⟨(MM+3000),k⟩ K k2 n out row (afK ⟨(MM+3000),k⟩ K k2 n out row ((Nd.grp gn M 0).vv.1,rdr m j g f0)) (bif d9 m j==0 then .ok (.grp gn M 0,j,g) else bif M.null && !(d9 m j==63) then .error (4,(j:Int)) else .ok (.grp gn M (d9 m j),j+1,g)):=by
 unfold afK;show Ae m ⟨(MM+3000),k⟩ K k2 n out row ((a8 (MM+3000) ([42,43,63] :List UInt8) (rdr m j g f0)).bind _) _;rw[ya _ _ _ _ _ (by decide),ZC,Jf];dsimp only;cases hs:(d9 m j==0) with
 |true=>rfl
 |false=>
  have hj:=(ZD.1 (D9 hs)).1;rw[aaG,ZG,ZF];show Ae m ⟨(MM+3000),k⟩ K k2 n out row ((aX (MM+3000) 63 (rdr m j g f0)).bind _) _;rw[ris,ZC,Xj hs];dsimp only;cases h63:(d9 m j==63) with
  |true=>rw[aaE,ZF,abz,ZF];show aO ⟨(MM+3000),k⟩ K k2 n out row (Nd.grp gn M 0).vv.1 (rdr m j g f0)=_;rw[Kk hm _ _ _ _ _ _ _ hs];rfl
  |false=>
   rw[aaG,ZG,Bool.and_true];show Ae m ⟨(MM+3000),k⟩ K k2 n out row ((bG (MM+3000) (MM+3000) M.vv.2).bind _) _;rw[sw (MM+3000) M hM (by omega) hl,ZC];dsimp only;cases M.null with
   |true=>rw[ZG,ZG];show Ae m ⟨(MM+3000),k⟩ K k2 n out row ((ai (MM+3000) 4 (j:Int) (rdr m j g f0)).bind fun z9=>aO ⟨(MM+3000),k⟩ K k2 n out row (Nd.grp gn M 0).vv.1 z9) _;rw[li,ZC];exact⟨_,j+1,g,by omega,Kk hm _ _ _ _ _ _ _ hs _ _⟩
   |false=>rw[ZF,ZF];show aO ⟨(MM+3000),k⟩ K k2 n out row (Nd.grp gn M 0).vv.1 (rdr m j g f0)=_;rw[Kk hm _ _ _ _ _ _ _ hs];rfl
def ST(x:Nd):VPiece.mk x.vv.1.Group x.vv.1.Set x.vv.1.Number x.vv.1.Rows x.vv.1.Sign=x.vv.1:=by cases x<;> rfl
def Bt(m:List UInt8)(N:RecC3)(k2:sn)(out:List (List VPiece))(row:List VPiece)(r:Option (PR ah)):Except (Int × Int) (Nd × Nat × Nat)->Prop
 |.error q=>∃ (row':List VPiece) (j:Nat) (g:Int),j<=m.length/\r=ba N k2 0 out row' (rdr m j g ⟨q.1,q.2⟩)
 |.ok (x,j,g)=>r=ba N k2 0 out (row++x.vv.2.headD []) (rdr m j g f0)
def Vh{row:List VPiece}(h:row.length<=1000)(p:VPiece):ie 72 row [p] =some (row++ [p]):=by unfold ie;rw[ZI (by simp;omega)]
def U5{out:List (List VPiece)}(h:out.length<=1000)(r:List VPiece):ie 24 out [r] =some (out++ [r]):=by unfold ie;rw[ZI (by simp;omega)]
def E3{m:List UInt8}(hm:m.length<=60):∀ (f:Nat),
  (∀ (d i g n:Nat) (out:List (List VPiece)),i<=m.length->3 * (m.length - i)+3<=f->m.length<=d+i->g<=9->out.length<=i->m.length+2<=n+i->n<=(MM+3000)->R2 m out (bw ⟨(MM+3000),aC (MM+3000) d⟩ n out (rdr m i g f0)) (prs m f 0 i g))/\
  (∀ (d i g n:Nat) (out:List (List VPiece)) (row:List VPiece) (k2:sn),i<=m.length->3 * (m.length - i)+2<=f->m.length<=d+i->g<=9->row.length<=i->m.length+1<=n+i->Bt m ⟨(MM+3000),aC (MM+3000) d⟩ k2 out row (aH ⟨(MM+3000),aC (MM+3000) d⟩ k2 n out row (rdr m i g f0)) (prs m f 1 i g))/\
  (∀ (d i g n:Nat) (out:List (List VPiece)) (row:List VPiece) (k2:sn) (K:wB),i < m.length->3 * (m.length - i)+1<=f->m.length<=d+i->g<=9->Ae m ⟨(MM+3000),aC (MM+3000) d⟩ K k2 n out row (pcK ⟨(MM+3000),aC (MM+3000) d⟩ K k2 n out row (rdr m i g f0)) (prs m f 2 i g))
 |0=>⟨fun d i g n out h1 h2=>by omega,fun d i g n out row k2 h1 h2=>by omega,fun d i g n out row k2 K h1 h2=>by omega⟩
 |f+1=>by
  obtain⟨ihM,ihR,ihP⟩:=E3 hm f;refine⟨fun d i g n out h1 h2 h3 h4 h5 h6 h7=> ?_,fun d i g n out row k2 h1 h2 h3 h4 h5 h6=> ?_,fun d i g n out row k2 K h1 h2 h3 h4=> ?_⟩
  ·obtain⟨n,rfl⟩:∃k,n=k+1:=⟨n - 1,by omega⟩
   rw[bw];show R2 m out (aH ⟨(MM+3000),aC (MM+3000) d⟩ (bw ⟨(MM+3000),aC (MM+3000) d⟩ n) n out [] (rdr m i g f0)) _;have h8:=ihR d i g n out [] (bw ⟨(MM+3000),aC (MM+3000) d⟩ n) h1 (by omega) h3 h4 (aad _) (by omega);rw[QJ];cases hr:prs m f 1 i g with
   |error q=>
    have hq:=jG f 1 i g hr h1 h4 (by omega) (by omega) (by omega);rw[hr] at h8;obtain⟨row',j,g',hj,h9⟩:=h8;rw[h9];unfold ba;rw[U5 (by omega),ZC,sM _ _ _ (by omega),ZC];dsimp only;cases hb:bQ m 124 j with
    |false=>exact⟨_,j,g',hj,rfl⟩
    |true=>
     have hj2:=ee hb;obtain⟨n,rfl⟩:∃k,n=k+1:=⟨n - 1,by omega⟩
     show rU m q (bw ⟨(MM+3000),aC (MM+3000) d⟩ (n+1) (out++ [row']) (rdr m (j+1) g' ⟨q.1,q.2⟩));rw[bw];show rU m q (bif q.1==0 then _ else _);rw[Z9.2 hq,ZF];exact⟨_,j+1,g',by omega,rfl⟩
   |ok p=>
    obtain⟨x,j,g1⟩:=p;have ho:=fV f 1 i g hr h1 h4;have hv:=Nd.row_vv ((kV f 1 i g hr).2.1 rfl);rw[hr] at h8;have h9:_=_:=h8;rw[h9];unfold ba;rw[U5 (by omega),ZC,sM _ _ _ (by omega),ZC];dsimp only;cases hb:bQ m 124 j with
    |false=>show some (PR.ok (out++ [x.vv.2.headD []],rdr m j g1 f0))=some (.ok (out++x.vv.2,rdr m j g1 f0));rw[<- hv]
    |true=>
     have hj2:=ee hb;rw[ZG];show R2 m out (bw ⟨(MM+3000),aC (MM+3000) d⟩ n (out++ [x.vv.2.headD []]) (rdr m (j+1) g1 f0)) _;have h10:=ihM d (j+1) g1 n (out++ [x.vv.2.headD []]) (by omega) (by omega) (by omega) ho.2.2.2.2.1 (by simp;omega) (by omega) (by omega);cases hM:prs m f 0 (j+1) g1 with
     |error q=>rw[hM] at h10;exact h10
     |ok p=>obtain⟨M,k,g2⟩:=p;rw[hM] at h10;refine abj h10 ?_;show some (PR.ok (out++ [x.vv.2.headD []] ++M.vv.2,_))=some (PR.ok (out++ (x.vv.2.headD [] ::M.vv.2),_));rw[aac];rfl
  ·obtain⟨n,rfl⟩:∃k,n=k+1:=⟨n - 1,by omega⟩
   rw[aH,M6];show Bt m _ k2 out row (bif decide ((i:Int) < (m.length:Int)) then((aX (MM+3000) 124 (rdr m i g f0)).bind _) else _) _
   have stop:Bt m ⟨(MM+3000),aC (MM+3000) d⟩ k2 out row (ba ⟨(MM+3000),aC (MM+3000) d⟩ k2 n out row (rdr m i g f0)) (.ok (.nil,i,g)):=by show _=ba ⟨(MM+3000),aC (MM+3000) d⟩ k2 0 out (row++ []) (rdr m i g f0);rw[aax];rfl
   cases hc:m[i]? with
   |none=>have hl:=aak.1 hc;rw[Z1 (by omega),ZF];exact stop
   |some c=>
    have hl:=(ZD.1 hc).1;rw[Z0 (by omega),ZG,ris,ZC,eM hc];dsimp only;cases h124:(b2i c==b2i 124) with
    |true=>exact stop
    |false=>
     rw[aaG,ZG,ZF];show Bt m _ k2 out row ((aX (MM+3000) 41 (rdr m i g f0)).bind _) _;rw[ris,ZC,eM hc];dsimp only;cases h41:(b2i c==b2i 41) with
     |true=>exact stop
     |false=>
      rw[aaG,ZG,ZF];show Bt m _ k2 out row (pcK ⟨(MM+3000),aC (MM+3000) d⟩ (aH ⟨(MM+3000),aC (MM+3000) d⟩ k2 n) k2 n out row (rdr m i g f0)) _;have h7:=ihP d i g n out row k2 (aH ⟨(MM+3000),aC (MM+3000) d⟩ k2 n) hl (by omega) h3 h4;cases hp:prs m f 2 i g with
      |error q=>
       have hq:=jG f 2 i g hp h1 h4 (by omega) (by omega) (fun _=>hl);rw[hp] at h7;obtain⟨p,j,g',hj,h8⟩:=h7;rw[h8];unfold bb;rw[Vh (by omega),ZC];obtain⟨n,rfl⟩:∃k,n=k+1:=⟨n - 1,by omega⟩
       rw[aH];show Bt m _ k2 out row (bif q.1==0 then _ else _) _;rw[Z9.2 hq,ZF];exact⟨_,j,g',hj,rfl⟩
      |ok p=>
       obtain⟨x,j,g1⟩:=p;have ho:=fV f 2 i g hp h1 h4;have hij:=ho.2.2.2.2.2 (by omega);rw[hp] at h7;have h8:_=_:=h7;rw[h8];unfold bb;rw[Vh (by omega),ZC,ST];have h9:=ihR d j g1 n out (row++ [x.vv.1]) k2 ho.2.1 (by omega) (by omega) ho.2.2.2.2.1 (by simp;omega) (by omega);dsimp only;cases hr:prs m f 1 j g1 with
       |error q=>rw[hr] at h9;exact h9
       |ok p=>obtain⟨r,k,g2⟩:=p;rw[hr] at h9;refine abj h9 ?_;rw[aac];rfl
  ·unfold pcK;rw[V9];have fin:∀ {q:Int × Int},q.1≠0->rU m q (bO ⟨(MM+3000),aC (MM+3000) d⟩ (rdr m i g f0))->Ae m ⟨(MM+3000),aC (MM+3000) d⟩ K k2 n out row ((bO ⟨(MM+3000),aC (MM+3000) d⟩ (rdr m i g f0)).bind fun z3=>
     match z3 with
     |.pan vz3=>some (.pan vz3)
     |.ok z4=>afK ⟨(MM+3000),aC (MM+3000) d⟩ K k2 n out row z4) (.error q):=fun hq he=>by
    obtain⟨p,j,g',hj,h5⟩:=he;rw[h5];exact Uo m _ K k2 n out row hq p hj g'
   cases hb:bQ m 40 i with
   |true=>
    rw[ZG];cases h9:g==9 with
    |true=>rw[ZG];have:=aaR.1 h9;subst this;exact fin (by simp) (Wg hm hb)
    |false=>
     have hg9:g≠9:=Z9.1 h9;rw[ZF];obtain⟨d,rfl⟩:∃k,d=k+1:=⟨d - 1,by omega⟩
     have hk:=ihM d (i+1) (g+1) (MM+3000) [] (by omega) (by omega) (by omega) (by omega) (aad _) (by omega) (by omega)
     have ha:=WN (MM:=MM) (k:=aC (MM+3000) (d+1)) (g:=g) hm hb (by omega) hk (fun q h=>jG f 0 (i+1) (g+1) h (by omega) (by omega) (by omega) (by omega) (by omega)) (fun x j g1 h=>(fV f 0 (i+1) (g+1) h (by omega) (by omega)).2.1);cases hM:prs m f 0 (i+1) (g+1) with
     |error q=>rw[hM] at ha;exact fin (jG f 0 (i+1) (g+1) hM (by omega) (by omega) (by omega) (by omega) (by omega)) ha
     |ok p=>
      obtain⟨M,j,g1⟩:=p;have ho:=fV f 0 (i+1) (g+1) hM (by omega) (by omega);have hf:=(kV f 0 (i+1) (g+1) hM).1 rfl;rw[hM] at ha;dsimp only;cases h41:bQ m 41 j with
      |false=>rw[ZF];have ha':ul m _ (bif bQ m 41 j then _ else _):=ha;rw[h41,ZF] at ha';exact fin (by simp) ha'
      |true=>rw[ZG];have ha':ul m _ (bif bQ m 41 j then _ else _):=ha;rw[h41,ZG] at ha';have ha2:_=_:=ha';rw[ha2,ZC];exact Xt hm _ K k2 n out row M (g+1) hf (by omega) (j+1) g1
   |false=>
    rw[ZF];obtain⟨c,hc⟩:∃c,m[i]? =some c:=⟨_,ZE h1⟩
    have ha:=Xf (MM:=MM) hm (aC (MM+3000) d) g hc hb;cases hS:pr m i with
    |error q=>rw[hS] at ha;exact fin (BA h1 hS) ha
    |ok p=>obtain⟨S,j⟩:=p;rw[hS] at ha;have ha2:_=_:=ha;rw[ha2,ZC];exact YT hm _ K k2 n out row S j g
def KF(m:List UInt8):ji (MM+3000) m=some (.ok (match rdM m with
  |.error q=>([],0,⟨q.1,q.2⟩)
  |.ok (x,g)=>(x.vv.2,(g:Int),⟨0,0⟩))):=by
 unfold ji rdM;by_cases h:60 < m.length
 ·rw[ZI h,Z0 (by omega),ZG]
 ·rw[ZH h,Z1 (by omega),ZF];have h1:=(E3 (MM:=MM) (m:=m) (by omega) 400).1 (MM+2999) 0 0 (MM+3000) [] (aad _) (by omega) (by omega) (by omega) (aad _) (by omega) (by omega);show(bw ⟨(MM+3000),aC (MM+3000) (MM+2999)⟩ (MM+3000) [] (rdr m 0 (0:Nat) f0)).bind _=_;cases hp:prs m 400 0 0 0 with
  |error q=>have hq:=jG 400 0 0 0 hp (aad _) (by omega) (by omega) (by omega) (by omega);rw[hp] at h1;obtain⟨p,j,g,hj,h2⟩:=h1;rw[h2,ZC];show(bif q.1==0 then _ else dR (MM+3000) (MM+3000) p ⟨0,0⟩ (rdr m j g ⟨q.1,q.2⟩))=_;rw[Z9.2 hq,ZF];unfold dR;show(bif q.1 != 0 then _ else _)=_;rw[bne,Z9.2 hq];rfl
  |ok p=>
   obtain⟨x,j,g⟩:=p;rw[hp] at h1;have h2:_=_:=h1;rw[h2,ZC];show(bif decide ((j:Int) < (m.length:Int)) then((ai (MM+3000) 1 (j:Int) (rdr m j g f0)).bind fun z3=>dR (MM+3000) (MM+3000) x.vv.2 ⟨0,0⟩ z3) else dR (MM+3000) (MM+3000) x.vv.2 ⟨0,0⟩ (rdr m j g f0))=_;dsimp only;by_cases hj:j < m.length
   ·rw[ZI hj,Z0 (by omega),ZG,li,ZC];rfl
   ·rw[ZH hj,Z1 (by omega),ZF];rfl
set_option maxRecDepth 100000
def qg(r:bz):TV EE.T:=.tu [.a (.d .bool r.1),.a (.d (.sl .str) r.2)]
def LW(r:bz):List (Nat × TB EE.T):=[]
def tp(r:PR bz):RL EE.T:=match r with
 |.ok z=>.ret (qg z) (LW z)
 |.pan v=>.pan v
def Yn:Lvs:=⟨[(3,⟨[(1,false),(2,false),(8,false),(9,false)],[],[(16,(none,[])),(600256,(none,[]))],[]⟩),(4,⟨[(1,false),(2,false),(9,false),(10,false)],[],[(16,(none,[])),(42,(none,[])),(500034,(none,[])),(500037,(none,[])),(500040,(none,[])),(600256,(none,[]))],[(34,500034),(40,500040),(37,500037)]⟩),(7,⟨[(1,false),(2,false),(9,false),(10,false),(11,false)],[],[(16,(none,[])),(42,(none,[])),(500034,(none,[])),(500037,(none,[])),(500040,(none,[])),(600256,(none,[]))],[]⟩),(15,⟨[(1,false),(2,false),(10,false),(12,false),(13,false),(14,false)],[],[(16,(none,[])),(42,(none,[])),(500034,(none,[])),(500037,(none,[])),(500040,(none,[])),(600256,(none,[]))],[]⟩),(16,⟨[(1,false),(2,false),(10,false),(12,false),(13,false)],[],[(16,(none,[])),(42,(none,[])),(500034,(none,[])),(500037,(none,[])),(500040,(none,[])),(600256,(none,[]))],[]⟩),(17,⟨[(1,false),(2,false),(10,false),(12,false),(13,false),(14,false)],[],[(16,(none,[])),(42,(none,[])),(500034,(none,[])),(500037,(none,[])),(500040,(none,[])),(600256,(none,[]))],[]⟩)],[(5,⟨[(1,false),(2,false),(9,false),(10,false),(11,false)],[],[(16,(none,[])),(42,(none,[])),(500034,(none,[])),(500037,(none,[])),(500040,(none,[])),(600256,(none,[]))],[]⟩),(12,⟨[(1,false),(2,false),(10,false),(12,false),(13,false)],[],[(16,(none,[])),(42,(none,[])),(500034,(none,[])),(500037,(none,[])),(500040,(none,[])),(600256,(none,[]))],[]⟩)],[4,17],[],false,[],[],[(2,[.nl (.c 16 0) 600256 (.nam 4)])],[]⟩
def Yh:List ResultVar:=[.tmp 6,.tmp 7]
def XX(N:Nat):Gam EE:=⟨[],EQT,[⟨25,ly N⟩,⟨27,lr N⟩,⟨26,fj N⟩],[34,37,40,1000034,1000037,1000040]⟩
def VZ(N:Nat):GOk Try.prog TT EE (XX N):=GOk.consx (pE N) (GOk.consx (pC N) (GOk.consx (fQ N) (GOk.nil cQ)))
def I7(c:Code):List It2:=atR 17 c
def Jj(x1:Int)(x2:List UInt8)(x12:List (List UInt8))(x13:Int)(x14:List UInt8)(b16_0_n:Nat)(b42_1:List UInt8)(b42_2_n:Nat)(b42_3_n:Nat)(b42_4_n:Nat)(Zo:List Bool)(Zm:List Int)(Zn:List Int)(Zp:List VSpot):TS EE.T:=⟨115,[(1,.a (.d (.int .i64) x1)),(2,.a (.d .str x2)),(10,.a (.box 42 0)),(12,.a (.own .str x12)),(13,.a (.d (.int .i64) x13)),(14,.a (.d .str x14))],[(16,.cs [.vec (.nam 4) 600256 b16_0_n]),(42,.cs [.box 16 0,.d .str b42_1,.vec .bool 500034 b42_2_n,.vec (.int .i64) 500037 b42_3_n,.vec (.int .i64) 500040 b42_4_n]),(500034,.vec 500034 .bool Zo),(500037,.vec 500037 (.int .i64) Zm),(500040,.vec 500040 (.int .i64) Zn),(600256,.vec 600256 (.nam 4) Zp)],[]⟩
def DU(c:Code):List It2:=atL 12 c
def C7(x1:Int)(x2:List UInt8)(x12:List (List UInt8))(x13:Int)(b16_0_n:Nat)(b42_1:List UInt8)(b42_2_n:Nat)(b42_3_n:Nat)(b42_4_n:Nat)(Zo:List Bool)(Zm:List Int)(Zn:List Int)(Zp:List VSpot):TS EE.T:=⟨115,[(1,.a (.d (.int .i64) x1)),(2,.a (.d .str x2)),(10,.a (.box 42 0)),(12,.a (.own .str x12)),(13,.a (.d (.int .i64) x13))],[(16,.cs [.vec (.nam 4) 600256 b16_0_n]),(42,.cs [.box 16 0,.d .str b42_1,.vec .bool 500034 b42_2_n,.vec (.int .i64) 500037 b42_3_n,.vec (.int .i64) 500040 b42_4_n]),(500034,.vec 500034 .bool Zo),(500037,.vec 500037 (.int .i64) Zm),(500040,.vec 500040 (.int .i64) Zn),(600256,.vec 600256 (.nam 4) Zp)],[]⟩
def NU(c:Code):List It2:=atL 5 c
def LY(x1:Int)(x2:List UInt8)(x9:Int)(x11:Int)(b16_0_n:Nat)(b42_1:List UInt8)(b42_2_n:Nat)(b42_3_n:Nat)(b42_4_n:Nat)(Zo:List Bool)(Zm:List Int)(Zn:List Int)(Zp:List VSpot):TS EE.T:=⟨115,[(1,.a (.d (.int .i64) x1)),(2,.a (.d .str x2)),(9,.a (.d (.int .i64) x9)),(10,.a (.box 42 0)),(11,.a (.d (.int .i64) x11))],[(16,.cs [.vec (.nam 4) 600256 b16_0_n]),(42,.cs [.box 16 0,.d .str b42_1,.vec .bool 500034 b42_2_n,.vec (.int .i64) 500037 b42_3_n,.vec (.int .i64) 500040 b42_4_n]),(500034,.vec 500034 .bool Zo),(500037,.vec 500037 (.int .i64) Zm),(500040,.vec 500040 (.int .i64) Zn),(600256,.vec 600256 (.nam 4) Zp)],[]⟩
def Ms(c:Code):List It2:=atR 4 c
def Ow(x1:Int)(x2:List UInt8)(x9:Int)(b16_0_n:Nat)(b42_1:List UInt8)(b42_2_n:Nat)(b42_3_n:Nat)(b42_4_n:Nat)(Zo:List Bool)(Zm:List Int)(Zn:List Int)(Zp:List VSpot):TS EE.T:=⟨115,[(1,.a (.d (.int .i64) x1)),(2,.a (.d .str x2)),(9,.a (.d (.int .i64) x9)),(10,.a (.box 42 0))],[(16,.cs [.vec (.nam 4) 600256 b16_0_n]),(42,.cs [.box 16 0,.d .str b42_1,.vec .bool 500034 b42_2_n,.vec (.int .i64) 500037 b42_3_n,.vec (.int .i64) 500040 b42_4_n]),(500034,.vec 500034 .bool Zo),(500037,.vec 500037 (.int .i64) Zm),(500040,.vec 500040 (.int .i64) Zn),(600256,.vec 600256 (.nam 4) Zp)],[]⟩
def Wm(c:Code):List It2:=[.c c]
def Wq(x0:List (List VPiece))(x1:Int)(x2:List UInt8):TS EE.T:=⟨115,[(0,.a (.d (.sl (.sl (.nam 11))) x0)),(1,.a (.d (.int .i64) x1)),(2,.a (.d .str x2))],[],[]⟩
def Dj(c:Code)(f:Int->(List UInt8)->(List (List UInt8))->Int->(List UInt8)->Nat->(List UInt8)->Nat->Nat->Nat->(List Bool)->(List Int)->(List Int)->(List VSpot)->Option (PR bz))(x1:Int)(x2:List UInt8)(x12:List (List UInt8))(x13:Int)(x14:List UInt8)(b16_0_n:Nat)(b42_1:List UInt8)(b42_2_n:Nat)(b42_3_n:Nat)(b42_4_n:Nat)(Zo:List Bool)(Zm:List Int)(Zn:List Int)(Zp:List VSpot):Tree (Lf EE.T × Option (PR bz)):=.leaf (.go (I7 c) (Jj x1 x2 x12 x13 x14 b16_0_n b42_1 b42_2_n b42_3_n b42_4_n Zo Zm Zn Zp),f x1 x2 x12 x13 x14 b16_0_n b42_1 b42_2_n b42_3_n b42_4_n Zo Zm Zn Zp)
def Ja(c:Code)(f:Int->(List UInt8)->(List (List UInt8))->Int->Nat->(List UInt8)->Nat->Nat->Nat->(List Bool)->(List Int)->(List Int)->(List VSpot)->Option (PR bz))(x1:Int)(x2:List UInt8)(x12:List (List UInt8))(x13:Int)(b16_0_n:Nat)(b42_1:List UInt8)(b42_2_n:Nat)(b42_3_n:Nat)(b42_4_n:Nat)(Zo:List Bool)(Zm:List Int)(Zn:List Int)(Zp:List VSpot):Tree (Lf EE.T × Option (PR bz)):=.leaf (.go (DU c) (C7 x1 x2 x12 x13 b16_0_n b42_1 b42_2_n b42_3_n b42_4_n Zo Zm Zn Zp),f x1 x2 x12 x13 b16_0_n b42_1 b42_2_n b42_3_n b42_4_n Zo Zm Zn Zp)
def Oe(c:Code)(f:Int->(List UInt8)->Int->Int->Nat->(List UInt8)->Nat->Nat->Nat->(List Bool)->(List Int)->(List Int)->(List VSpot)->Option (PR bz))(x1:Int)(x2:List UInt8)(x9:Int)(x11:Int)(b16_0_n:Nat)(b42_1:List UInt8)(b42_2_n:Nat)(b42_3_n:Nat)(b42_4_n:Nat)(Zo:List Bool)(Zm:List Int)(Zn:List Int)(Zp:List VSpot):Tree (Lf EE.T × Option (PR bz)):=.leaf (.go (NU c) (LY x1 x2 x9 x11 b16_0_n b42_1 b42_2_n b42_3_n b42_4_n Zo Zm Zn Zp),f x1 x2 x9 x11 b16_0_n b42_1 b42_2_n b42_3_n b42_4_n Zo Zm Zn Zp)
def Xl(c:Code)(f:Int->(List UInt8)->Int->Nat->(List UInt8)->Nat->Nat->Nat->(List Bool)->(List Int)->(List Int)->(List VSpot)->Option (PR bz))(x1:Int)(x2:List UInt8)(x9:Int)(b16_0_n:Nat)(b42_1:List UInt8)(b42_2_n:Nat)(b42_3_n:Nat)(b42_4_n:Nat)(Zo:List Bool)(Zm:List Int)(Zn:List Int)(Zp:List VSpot):Tree (Lf EE.T × Option (PR bz)):=.leaf (.go (Ms c) (Ow x1 x2 x9 b16_0_n b42_1 b42_2_n b42_3_n b42_4_n Zo Zm Zn Zp),f x1 x2 x9 b16_0_n b42_1 b42_2_n b42_3_n b42_4_n Zo Zm Zn Zp)
abbrev Cm(N:Nat)(r:PR bz)(k:List It2)(s:TS EE.T):Prop:=fL (Y:=TT) EE (XX N) Yn Yh (fun u=>u=tp r) k s
def Gx(x:PR bz):Tree (Lf EE.T × Option (PR bz)):=.leaf (.done (tp x),some x)
def CS{N:Nat}{r:PR bz}{k12:Int->(List UInt8)->(List (List UInt8))->Int->Nat->(List UInt8)->Nat->Nat->Nat->(List Bool)->(List Int)->(List Int)->(List VSpot)->Option (PR bz)}(hk12:∀x1 x2 x12 x13 b16_0_n b42_1 b42_2_n b42_3_n b42_4_n Zo Zm Zn Zp,k12 x1 x2 x12 x13 b16_0_n b42_1 b42_2_n b42_3_n b42_4_n Zo Zm Zn Zp=some r->Cm N r (DU (aa 0 Try.f12)) (C7 x1 x2 x12 x13 b16_0_n b42_1 b42_2_n b42_3_n b42_4_n Zo Zm Zn Zp))(n:Nat)(x1:Int)(x2:List UInt8)(x12:List (List UInt8))(x13:Int)(x14:List UInt8)(b16_0_n:Nat)(b42_1:List UInt8)(b42_2_n:Nat)(b42_3_n:Nat)(b42_4_n:Nat)(Zo:List Bool)(Zm:List Int)(Zn:List Int)(Zp:List VSpot)(h:eS N k12 n x1 x2 x12 x13 x14 b16_0_n b42_1 b42_2_n b42_3_n b42_4_n Zo Zm Zn Zp=some r):Cm N r (I7 (aa 0 Try.f12)) (Jj x1 x2 x12 x13 x14 b16_0_n b42_1 b42_2_n b42_3_n b42_4_n Zo Zm Zn Zp):=
 au (m:=4000) (t:=
 .bnd (ie 16 x12 ([x14] :List (List UInt8))) fun z25=>
 Ja (aa 0 Try.f12) k12 x1 x2 z25 (w64 (x13+1)) b16_0_n b42_1 b42_2_n b42_3_n b42_4_n Zo Zm Zn Zp) (by kernel_rfl) (by kernel_rfl) h (fun _=>fun h=>hk12 _ _ _ _ _ _ _ _ _ _ _ _ _ h)
def wZ{N:Nat}{r:PR bz}:∀ (n:Nat) (x1:Int) (x2:List UInt8) (x12:List (List UInt8)) (x13:Int) (b16_0_n:Nat) (b42_1:List UInt8) (b42_2_n:Nat) (b42_3_n:Nat) (b42_4_n:Nat) (Zo:List Bool) (Zm:List Int) (Zn:List Int) (Zp:List VSpot),cZ N n x1 x2 x12 x13 b16_0_n b42_1 b42_2_n b42_3_n b42_4_n Zo Zm Zn Zp=some r->Cm N r (DU (aa 0 Try.f12)) (C7 x1 x2 x12 x13 b16_0_n b42_1 b42_2_n b42_3_n b42_4_n Zo Zm Zn Zp)
 |0,_,_,_,_,_,_,_,_,_,_,_,_,_,h=>by cases h
 |n+1,x1,x2,x12,x13,b16_0_n,b42_1,b42_2_n,b42_3_n,b42_4_n,Zo,Zm,Zn,Zp,h=>au (m:=4000) (t:=
  .cond (decide (x13<=x1))
  (
   .bnd (cf b42_3_n x13) fun z14=>
   .bnd (Zm[z14]?) fun z15=>
   .cond (decide (z15>=0))
   (
    .bnd (cf b42_4_n x13) fun z16=>
    .bnd (Zn[z16]?) fun z17=>
    .bnd (cf b42_3_n x13) fun z18=>
    .bnd (Zm[z18]?) fun z19=>
    .cond (decide (z17>=z19))
    (
     .bnd (cf b42_3_n x13) fun z20=>
     .bnd (Zm[z20]?) fun z21=>
     .bnd (cf b42_4_n x13) fun z22=>
     .bnd (Zn[z22]?) fun z23=>
     .bnd (mI x2 z21 z23) fun z24=>
     Dj (aa 0 Try.f12) (eS N (cZ N n) n) x1 x2 x12 x13 z24 b16_0_n b42_1 b42_2_n b42_3_n b42_4_n Zo Zm Zn Zp)
    (
     Dj (aa 0 Try.f12) (eS N (cZ N n) n) x1 x2 x12 x13 ([] :List UInt8) b16_0_n b42_1 b42_2_n b42_3_n b42_4_n Zo Zm Zn Zp))
   (
    Dj (aa 0 Try.f12) (eS N (cZ N n) n) x1 x2 x12 x13 ([] :List UInt8) b16_0_n b42_1 b42_2_n b42_3_n b42_4_n Zo Zm Zn Zp))
  (
   Gx (.ok (true,x12)))) (by kernel_rfl) (by kernel_rfl) h (⟨fun _=>fun _=>⟨fun _=>fun _=>fun _=>fun _=>⟨fun _=>fun _=>fun _=>fun _=>fun _=>fun h=>CS (wZ n) n _ _ _ _ _ _ _ _ _ _ _ _ _ _ h,fun h=>CS (wZ n) n _ _ _ _ _ _ _ _ _ _ _ _ _ _ h⟩,fun h=>CS (wZ n) n _ _ _ _ _ _ _ _ _ _ _ _ _ _ h⟩,aE (enc:=tp) rfl⟩)
def Ru{N:Nat}{r:PR bz}:∀ (n:Nat) (x1:Int) (x2:List UInt8) (x9:Int) (x11:Int) (b16_0_n:Nat) (b42_1:List UInt8) (b42_2_n:Nat) (b42_3_n:Nat) (b42_4_n:Nat) (Zo:List Bool) (Zm:List Int) (Zn:List Int) (Zp:List VSpot),fY N n x1 x2 x9 x11 b16_0_n b42_1 b42_2_n b42_3_n b42_4_n Zo Zm Zn Zp=some r->Cm N r (NU (aa 0 Try.f12)) (LY x1 x2 x9 x11 b16_0_n b42_1 b42_2_n b42_3_n b42_4_n Zo Zm Zn Zp)
 |0,_,_,_,_,_,_,_,_,_,_,_,_,_,h=>by cases h
 |n+1,x1,x2,x9,x11,b16_0_n,b42_1,b42_2_n,b42_3_n,b42_4_n,Zo,Zm,Zn,Zp,h=>au (m:=4000) (t:=
  .cond (decide (x11<=x1))
  (
   .bnd (cf b42_3_n x11) fun z8=>
   .bnd (Zm[z8]?) fun z9=>
   .bnd (cf b42_4_n x11) fun z10=>
   .bnd (Zn[z10]?) fun z11=>
   Oe (aa 0 Try.f12) (fY N n) x1 x2 x9 (w64 (x11+1)) b16_0_n b42_1 b42_2_n b42_3_n b42_4_n Zo (List.set Zm z8 (-1)) (List.set Zn z10 (-1)) Zp)
  (
   .bnd (hY N x9 0 b42_1 b42_2_n b42_3_n b42_4_n b16_0_n Zo Zm Zn Zp) fun z12=>
   .sm z12 (fun z13=>
    .cond (!z13.1)
    (
     Gx (.ok (false,([] :List (List UInt8)))))
    (
     Ja (aa 0 Try.f12) (cZ N n) x1 x2 ([] :List (List UInt8)) 1 z13.2.2.2.2.2.1 z13.2.1 z13.2.2.1 z13.2.2.2.1 z13.2.2.2.2.1 z13.2.2.2.2.2.2.1 z13.2.2.2.2.2.2.2.1 z13.2.2.2.2.2.2.2.2.1 z13.2.2.2.2.2.2.2.2.2)) (fun vz12=>
    Gx (.pan vz12)))) (by kernel_rfl) (by kernel_rfl) h (⟨fun _=>fun _=>fun _=>fun _=>fun h=>(Ru n) _ _ _ _ _ _ _ _ _ _ _ _ _ h,fun _=>⟨fun _=>⟨aE (enc:=tp) rfl,fun h=>wZ n _ _ _ _ _ _ _ _ _ _ _ _ _ h⟩,fun _=>aE (enc:=tp) rfl⟩⟩)
def Ws{N:Nat}{r:PR bz}(n:Nat)(x1:Int)(x2:List UInt8)(x9:Int)(b16_0_n:Nat)(b42_1:List UInt8)(b42_2_n:Nat)(b42_3_n:Nat)(b42_4_n:Nat)(Zo:List Bool)(Zm:List Int)(Zn:List Int)(Zp:List VSpot)(h:lD N n x1 x2 x9 b16_0_n b42_1 b42_2_n b42_3_n b42_4_n Zo Zm Zn Zp=some r):Cm N r (Ms (aa 0 Try.f12)) (Ow x1 x2 x9 b16_0_n b42_1 b42_2_n b42_3_n b42_4_n Zo Zm Zn Zp):=
 au (m:=4000) (t:=
 Oe (aa 0 Try.f12) (fY N n) x1 x2 x9 0 b16_0_n b42_1 b42_2_n b42_3_n b42_4_n Zo Zm Zn Zp) (by kernel_rfl) (by kernel_rfl) h (fun h=>Ru n _ _ _ _ _ _ _ _ _ _ _ _ _ h)
def H8(x2:List UInt8)(z:Int × Nat × List VSpot):Option (Nat × Nat):=o9 1 (w64 ((z.2.1:Int) * (w64 ((x2.length:Int)+1)))) (w64 ((z.2.1:Int) * (w64 ((x2.length:Int)+1))))
def vj(x1:Int):Option (Nat × Nat):=o9 8 (w64 (x1+1)) (w64 (x1+1))
abbrev Yv:=Tree (Lf EE.T × Option (PR bz))
def KP(c:Code)(N:Nat)(x1:Int)(x2:List UInt8)(z:Int × Nat × List VSpot)(a b d:Nat × Nat):Yv:=
 Xl c (lD N N) x1 x2 z.1 z.2.1 x2 ((List.replicate a.1 false).length) ((List.replicate b.1 (0:Int)).length) ((List.replicate d.1 (0:Int)).length) (List.replicate a.1 false) (List.replicate b.1 (0:Int)) (List.replicate d.1 (0:Int)) z.2.2
def Ta(c:Code)(N:Nat)(x1:Int)(x2:List UInt8)(z:Int × Nat × List VSpot):Nat->Yv
 |0=>.bnd (H8 x2 z) fun a=>.bnd (vj x1) fun b=>.bnd (vj x1) fun d=>KP c N x1 x2 z a b d
 |1=>.bnd (H8 x2 z) fun a=>.bnd (vj x1) fun b=>.bnd (vj x1) fun d=>KP c N x1 x2 z a d b
 |2=>.bnd (vj x1) fun a=>.bnd (H8 x2 z) fun b=>.bnd (vj x1) fun d=>KP c N x1 x2 z b a d
 |3=>.bnd (vj x1) fun a=>.bnd (H8 x2 z) fun b=>.bnd (vj x1) fun d=>KP c N x1 x2 z b d a
 |4=>.bnd (vj x1) fun a=>.bnd (vj x1) fun b=>.bnd (H8 x2 z) fun d=>KP c N x1 x2 z d a b
 |_=>.bnd (vj x1) fun a=>.bnd (vj x1) fun b=>.bnd (H8 x2 z) fun d=>KP c N x1 x2 z d b a
def nlF{L:Type}(f:Nat->Tree L)(z:Nat):List Nat->Tree L
 | [] =>f z
 |a::l=>.nl ([] :List Nat) (f a) (nlF f z l)
def IF{L R:Type}{f:Nat->Tree (L × Option R)}{z:Nat}:∀l,(nlF f z l).run=(f z).run
 | [] =>rfl
 |a::l=>IF l
def Kf{L R:Type}{K:L × Option R->Prop}{f:Nat->Tree (L × Option R)}{z:Nat}(h:∀a,(f a).all K)(hr:∀a,(f a).run=(f z).run):∀l,(nlF f z l).all K
 | [] =>h z
 |a::l=>⟨fun _ r e=>by rw[IF] at e;rw[hr a];exact e,h a,Kf h hr l⟩
def YN(c:Code)(N:Nat)(x1:Int)(x2:List UInt8)(z:Int × Nat × List VSpot)(a:Nat):(Ta c N x1 x2 z a).run=(Ta c N x1 x2 z 5).run:=by
 match a with
 |0|1|2|3|4|_+5=>unfold Ta Tree.run;cases H8 x2 z<;> cases vj x1<;> rfl
def WH{N:Nat}{r:PR bz}(x0:List (List VPiece))(x1:Int)(x2:List UInt8)(h:kj N x0 x1 x2=some r):Cm N r (Wm (aa 0 Try.f12)) (Wq x0 x1 x2):=
 au (m:=4000) (t:=
 .bnd (aA N ({ Kind:=0,A:=0,B:=0,Number:=0,Set:=([] :List Bool) }:VSpot) 0 ([] :List VSpot)) fun z1=>
 .sm z1 (fun z2=>
  .bnd (jF N x0 z2.1 z2.2.1 z2.2.2) fun z3=>
  .sm z3 (fun z4=>
   nlF (Ta (aa 0 Try.f12) N x1 x2 z4) 5 [0,1,2,4,3,5,2,4,4,3,5,5,2,4,4,4,3,5,5,5,2,4,4,4,4,3,5,5,5]) (fun vz3=>
   Gx (.pan vz3))) (fun vz1=>
  Gx (.pan vz1))) (by kernel_rfl) (by kernel_rfl) h (fun _=>⟨fun _=>fun _=>⟨fun _=>Kf (fun a=>by
   match a with
   |0|1|2|3|4|_+5=>exact fun _ _ _ h=>Ws N _ _ _ _ _ _ _ _ _ _ _ _ h) (YN _ _ _ _ _) _,fun _=>aE (enc:=tp) rfl⟩,fun _=>aE (enc:=tp) rfl⟩)
def Vp(x0:List (List VPiece))(x1:Int)(x2:List UInt8):List (TV EE.T):=[.a (.d (.sl (.sl (.nam 11))) x0),.a (.d (.int .i64) x1),.a (.d .str x2)]
def Qq(x0:List (List VPiece))(x1:Int)(x2:List UInt8):List (Nat × TB EE.T):=[]
def CU{N:Nat}(x0:List (List VPiece))(x1:Int)(x2:List UInt8){r:PR bz}(h:kj N x0 x1 x2=some r)(I:Rn)(hi:Inj I (Qq x0 x1 x2)):aI Try.prog 12 ((Vp x0 x1 x2).map (TV.to EE.toEnc I)) (hTo EE.toEnc I (Qq x0 x1 x2)) (fun out H=>match r with|.ok z=>out=.ret ((qg z).to EE.toEnc I)/\H=hTo EE.toEnc I (LW z)|.pan v=>out=.pan v):=
 (dI (aa 0 Try.f12) 115 mixed (VZ N) Try.func12 (by kernel_rfl) rfl rfl rfl rfl (WH x0 x1 x2 h) I hi).mono fun out H h=>by cases r with|ok z=>exact cH.retH rfl rfl h|pan v=>exact cH.pan h
def wA(N:Nat)(us:List (TV EE.T))(hs:List (Nat × TB EE.T)):XR EE.T:=
 gdX (d7 us 3) <|
 bnX (aD (.sl (.sl (.nam 11))) us 0) fun x0=>
 bnX (aD (.int .i64) us 1) fun x1=>
 bnX (aD .str us 2) fun x2=>
 gdX (bx hs []) <|
 .may (kj N x0 x1 x2) [] qg (LW)
def Ay(N:Nat):XOk Try.prog EE 12 (wA N):=fun us hs=>
 ay fun h1=>ab fun x0 h2=>ab fun x1 h3=>ab fun x2 h4=>ay fun h5=>fun p hz=>⟨fun z e=>rfl,fun I hi=>nk (us':=Vp x0 x1 x2) (h0:=Qq x0 x1 x2) (ρ':=jh I []) hi h5 (by kernel_rfl) ⟨gB h2,gB h3,gB h4,bA h1⟩ trivial (fun hj=>CU x0 x1 x2 hz _ hj) (fun out H h=>by cases p with|ok z=>exact⟨h.1.trans (by kernel_rfl),h.2.trans (by kernel_rfl)⟩|pan v=>exact h)⟩
set_option maxRecDepth 100000
def dl(N:Nat)(n:Nat)(x5:Bool)(x6:List (List UInt8))(x7:Int)(x11:Int):Option (PR Bool):=
 (fJ N).bind fun z8=>
 bif z8 then
  bif x7==x11 then
   bif !x5 then
    some (.ok ((x6.length:Int)==0))
   else
    some (.ok false)
  else
   some (.ok false)
 else
  some (.ok false)
def cR(N:Nat)(n:Nat)(x1:List UInt8)(x5:Bool)(x6:List (List UInt8))(x7:Int)(x8:List (List VPiece))(x9:Int)(x11:Int):Option (PR Bool):=
 (fJ N).bind fun z4=>
 bif !z4 then
  dl N n x5 x6 x7 x11
 else
  bif x7 != x11 then
   dl N n x5 x6 x7 x11
  else
   bif x11 != 0 then
    dl N n x5 x6 x7 x11
   else
    (kj N x8 x9 x1).bind fun z5=>
    match z5 with
    |.pan vz5=>some (.pan vz5)
    |.ok z6=>
     bif x5==z6.1 then
      (eP N x6 z6.2).bind fun z7=>
      some (.ok z7)
     else
      some (.ok false)
def jc(N:Nat)(x0:List UInt8)(x1:List UInt8):Option (PR Bool):=
 (fO N x0 x1).bind fun z1=>
 (ji N x0).bind fun z2=>
 match z2 with
 |.pan vz2=>some (.pan vz2)
 |.ok z3=>
  bif z3.2.2.Err==0 then
   bif decide ((x1.length:Int) > 2000) then
    cR N N x1 z1.1 z1.2.1 z1.2.2 z3.1 z3.2.1 2
   else
    cR N N x1 z1.1 z1.2.1 z1.2.2 z3.1 z3.2.1 z3.2.2.Err
  else
   cR N N x1 z1.1 z1.2.1 z1.2.2 z3.1 z3.2.1 z3.2.2.Err
set_option maxRecDepth 100000
def mW(r:Bool):TV EE.T:=.a (.d .bool r)
def XW(r:Bool):List (Nat × TB EE.T):=[]
def sJ(r:PR Bool):RL EE.T:=match r with
 |.ok z=>.ret (mW z) (XW z)
 |.pan v=>.pan v
def Y5:Lvs:=⟨[(6,⟨[(1,false),(5,false),(6,false),(7,false),(8,false),(9,false),(11,false)],[],[],[]⟩),(7,⟨[(5,false),(6,false),(7,false),(11,false)],[],[],[]⟩)],[],[6,7],[],false,[],[],[],[]⟩
def Y7:List ResultVar:=[.tmp 4]
def w3G(N:Nat):Gam EE:=⟨[⟨11,lc N⟩,⟨13,jf N⟩,⟨9,lC N⟩],EQT,[⟨10,tZ N⟩,⟨12,wA N⟩],[]⟩
def YU(N:Nat):GOk Try.prog TT EE (w3G N):=GOk.cons (uH N) (GOk.cons (mX N) (GOk.cons (pN N) (GOk.consx (xS N) (GOk.consx (Ay N) (GOk.nil cQ)))))
def UR(c:Code):List It2:=atR 7 c
def U9(x5:Bool)(x6:List (List UInt8))(x7:Int)(x11:Int):TS EE.T:=⟨77,[(5,.a (.d .bool x5)),(6,.a (.d (.sl .str) x6)),(7,.a (.d (.int .i64) x7)),(11,.a (.d (.int .i64) x11))],[],[]⟩
def U6(c:Code):List It2:=atR 6 c
def UV(x1:List UInt8)(x5:Bool)(x6:List (List UInt8))(x7:Int)(x8:List (List VPiece))(x9:Int)(x11:Int):TS EE.T:=⟨77,[(1,.a (.d .str x1)),(5,.a (.d .bool x5)),(6,.a (.d (.sl .str) x6)),(7,.a (.d (.int .i64) x7)),(8,.a (.d (.sl (.sl (.nam 11))) x8)),(9,.a (.d (.int .i64) x9)),(11,.a (.d (.int .i64) x11))],[],[]⟩
def XY(c:Code):List It2:=[.c c]
def Yz(x0:List UInt8)(x1:List UInt8):TS EE.T:=⟨77,[(0,.a (.d .str x0)),(1,.a (.d .str x1))],[],[]⟩
def RB(c:Code)(f:Bool->(List (List UInt8))->Int->Int->Option (PR Bool))(x5:Bool)(x6:List (List UInt8))(x7:Int)(x11:Int):Tree (Lf EE.T × Option (PR Bool)):=.leaf (.go (UR c) (U9 x5 x6 x7 x11),f x5 x6 x7 x11)
def PU(c:Code)(f:(List UInt8)->Bool->(List (List UInt8))->Int->(List (List VPiece))->Int->Int->Option (PR Bool))(x1:List UInt8)(x5:Bool)(x6:List (List UInt8))(x7:Int)(x8:List (List VPiece))(x9:Int)(x11:Int):Tree (Lf EE.T × Option (PR Bool)):=.leaf (.go (U6 c) (UV x1 x5 x6 x7 x8 x9 x11),f x1 x5 x6 x7 x8 x9 x11)
abbrev Xc(N:Nat)(r:PR Bool)(k:List It2)(s:TS EE.T):Prop:=fL (Y:=TT) EE (w3G N) Y5 Y7 (fun u=>u=sJ r) k s
def Gg(x:PR Bool):Tree (Lf EE.T × Option (PR Bool)):=.leaf (.done (sJ x),some x)
def Oj{N:Nat}{r:PR Bool}(n:Nat)(x5:Bool)(x6:List (List UInt8))(x7:Int)(x11:Int)(h:dl N n x5 x6 x7 x11=some r):Xc N r (UR (aa 0 Try.f3)) (U9 x5 x6 x7 x11):=
 au (m:=4000) (t:=
 .bnd (fJ N) fun z8=>
 .cond (z8)
 (
  .cond (x7==x11)
  (
   .cond (!x5)
   (
    Gg (.ok ((x6.length:Int)==0)))
   (
    Gg (.ok false)))
  (
   Gg (.ok false)))
 (
  Gg (.ok false))) (by kernel_rfl) (by kernel_rfl) h (fun _=>⟨⟨⟨aE (enc:=sJ) rfl,aE (enc:=sJ) rfl⟩,aE (enc:=sJ) rfl⟩,aE (enc:=sJ) rfl⟩)
def w3oR6{N:Nat}{r:PR Bool}(n:Nat)(x1:List UInt8)(x5:Bool)(x6:List (List UInt8))(x7:Int)(x8:List (List VPiece))(x9:Int)(x11:Int)(h:cR N n x1 x5 x6 x7 x8 x9 x11=some r):Xc N r (U6 (aa 0 Try.f3)) (UV x1 x5 x6 x7 x8 x9 x11):=
 au (m:=4000) (t:=
 .bnd (fJ N) fun z4=>
 .cond (!z4)
 (
  RB (aa 0 Try.f3) (dl N n) x5 x6 x7 x11)
 (
  .cond (x7 != x11)
  (
   RB (aa 0 Try.f3) (dl N n) x5 x6 x7 x11)
  (
   .cond (x11 != 0)
   (
    RB (aa 0 Try.f3) (dl N n) x5 x6 x7 x11)
   (
    .bnd (kj N x8 x9 x1) fun z5=>
    .sm z5 (fun z6=>
     .cond (x5==z6.1)
     (
      .bnd (eP N x6 z6.2) fun z7=>
      Gg (.ok z7))
     (
      Gg (.ok false))) (fun vz5=>
     Gg (.pan vz5)))))) (by kernel_rfl) (by kernel_rfl) h (fun _=>⟨fun h=>Oj n _ _ _ _ h,⟨fun h=>Oj n _ _ _ _ h,⟨fun h=>Oj n _ _ _ _ h,fun _=>⟨fun _=>⟨fun _=>aE (enc:=sJ) rfl,aE (enc:=sJ) rfl⟩,fun _=>aE (enc:=sJ) rfl⟩⟩⟩⟩)
def XI{N:Nat}{r:PR Bool}(x0:List UInt8)(x1:List UInt8)(h:jc N x0 x1=some r):Xc N r (XY (aa 0 Try.f3)) (Yz x0 x1):=
 au (m:=4000) (t:=
 .bnd (fO N x0 x1) fun z1=>
 .bnd (ji N x0) fun z2=>
 .sm z2 (fun z3=>
  .cond (z3.2.2.Err==0)
  (
   .cond (decide ((x1.length:Int) > 2000))
   (
    PU (aa 0 Try.f3) (cR N N) x1 z1.1 z1.2.1 z1.2.2 z3.1 z3.2.1 2)
   (
    PU (aa 0 Try.f3) (cR N N) x1 z1.1 z1.2.1 z1.2.2 z3.1 z3.2.1 z3.2.2.Err))
  (
   PU (aa 0 Try.f3) (cR N N) x1 z1.1 z1.2.1 z1.2.2 z3.1 z3.2.1 z3.2.2.Err)) (fun vz2=>
  Gg (.pan vz2))) (by kernel_rfl) (by kernel_rfl) h (fun _=>fun _=>⟨fun _=>⟨⟨fun h=>w3oR6 N _ _ _ _ _ _ _ h,fun h=>w3oR6 N _ _ _ _ _ _ _ h⟩,fun h=>w3oR6 N _ _ _ _ _ _ _ h⟩,fun _=>aE (enc:=sJ) rfl⟩)
def Y3(x0:List UInt8)(x1:List UInt8):List (TV EE.T):=[.a (.d .str x0),.a (.d .str x1)]
def XD(x0:List UInt8)(x1:List UInt8):List (Nat × TB EE.T):=[]
def te{N:Nat}(x0:List UInt8)(x1:List UInt8){r:PR Bool}(h:jc N x0 x1=some r)(I:Rn)(hi:Inj I (XD x0 x1)):aI Try.prog 3 ((Y3 x0 x1).map (TV.to EE.toEnc I)) (hTo EE.toEnc I (XD x0 x1)) (fun out H=>match r with|.ok z=>out=.ret ((mW z).to EE.toEnc I)/\H=hTo EE.toEnc I (XW z)|.pan v=>out=.pan v):=
 (dI (aa 0 Try.f3) 77 mixed (YU N) Try.func3 (by kernel_rfl) rfl rfl rfl rfl (XI x0 x1 h) I hi).mono fun out H h=>by cases r with|ok z=>exact cH.retH rfl rfl h|pan v=>exact cH.pan h
end Go.Proofs.Ytlhjbhgkhpbnfaa
namespace Go.Proofs.Ytlhjbhgkhpbnfaa
open Go.RowKit Go.Deep Go.ChangeShapes Go.WideShapes Go.ChangeAt P
section
variable {R:Nat} {H:Type} {enc:TypeId × Value->H} {Pr:Program} {w:World} {base:Nat} {spare:Nat->Bool} {held:Bool}
end
theorem Try.own:ownKnob Try.prog.godebug=none:=by kernel_rfl
def Try.laidOut:laidOutB Try.prog=true:=by kernel_rfl
end Go.Proofs.Ytlhjbhgkhpbnfaa
namespace Go.Proofs.Ytlhjbhgkhpbnfaa
open Go.RowKit P
section
variable {Pr:Program}
end
def OS(n:Nat):Prop:=n<=140737488351232
end Go.Proofs.Ytlhjbhgkhpbnfaa
