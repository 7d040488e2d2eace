import Derived.Test.YtlhjbhgkhpbnfaaCk06
import Derived.Shelf.Bits.Mul64
import Derived.Deep.OwnRows
import Derived.RegionTactic
import Derived.BigRegion
import Derived.Laws.CopyRow
set_option linter.unusedSimpArgs false
set_option linter.unusedVariables false
set_option linter.defProp false
namespace Go.Proofs.Ytlhjbhgkhpbnfaa
open Go.RowKit P
def CM{xs:Array Value}(h:xs.size=2):∃a b,xs= #[a,b] :=by
 obtain⟨l⟩:=xs
 match l,h with
 | [a,b],_=>exact⟨a,b,rfl⟩
def exS(whole:List UInt8)(groups:List (List UInt8))(p:Vpiece):List UInt8:=
 if p.group=0 then whole else if 0 < p.group/\p.group<=(groups.length:Int) then groups.getD (p.group - 1).toNat [] else p.text
def GV(whole:List UInt8)(groups:List (List UInt8)):List Vpiece->List UInt8->List UInt8 × Int
 | [],acc=>(acc,0)
 |p::ps,acc=>if 20000 < acc.length+ (exS whole groups p).length then([],2) else GV whole groups ps (acc++exS whole groups p)
def E9(p:Vpiece):List AV:=[.v (.string (mkB p.text)),.v (.int .i64 p.group)]
def zz(s:List UInt8):List AV:=[.v (.string (mkB s))]
def Ye(w:World)(ps:List Vpiece)(v:Value):Prop:=∃ao cap,v=.slice ao ps.length cap/\∀i p,ps[i]? =some p->∃b off,ao=some ⟨b,off,none⟩/\w.cell? ⟨b,off+i * 2,none⟩=some (.string (mkB p.text))/\w.cell? ⟨b,off+i * 2+1,none⟩=some (.int .i64 p.group)
def Py(w:World)(l:List (List UInt8))(v:Value):Prop:=∃ao cap,v=.slice ao l.length cap/\∀i s,l[i]? =some s->∃b off,ao=some ⟨b,off,none⟩/\w.cell? ⟨b,off+i,none⟩=some (.string (mkB s))
def VG{X:GW}{o:Bool}{v:Value}{ps:List Vpiece}(h:Rel X (.sl o 2 (ps.map E9)) v):Ye X.w ps v:=by
 generalize hL:ps.map E9=L at h;cases h with
 |nl _ _ a0 c0=>have:ps=[] :=abv.1 hL;subst this;exact⟨a0,c0,rfl,fun i x hx=>by simp at hx⟩
 |sl _ _ _ b off cap n c hg hn hc hs hm hr=>
  subst hL;refine⟨some ⟨b,off,none⟩,cap,by simp,fun i p hp=>⟨b,off,rfl,?_,?_⟩⟩
  ·have hi:(ps.map E9)[i]? =some [.v (.string (mkB p.text)),.v (.int .i64 p.group)] :=by simp[hp,E9]
   have h0:=cE (hr i 0 _ _ hi rfl);have h1:=hm i 0 _ _ hi rfl;rw[h0] at h1;exact h1
  ·have hi:(ps.map E9)[i]? =some [.v (.string (mkB p.text)),.v (.int .i64 p.group)] :=by simp[hp,E9]
   have h0:=cE (hr i 1 _ _ hi rfl);have h1:=hm i 1 _ _ hi rfl;rw[h0] at h1;exact h1
def WP{X:GW}{o:Bool}{v:Value}{l:List (List UInt8)}(h:Rel X (.sl o 1 (l.map zz)) v):Py X.w l v:=by
 generalize hL:l.map zz=L at h;cases h with
 |nl _ _ a0 c0=>have:l=[] :=abv.1 hL;subst this;exact⟨a0,c0,rfl,fun i x hx=>by simp at hx⟩
 |sl _ _ _ b off cap n c hg hn hc hs hm hr=>
  subst hL;refine⟨some ⟨b,off,none⟩,cap,by simp,fun i p hp=>⟨b,off,rfl,?_⟩⟩;have hi:(l.map zz)[i]? =some [.v (.string (mkB p))] :=by simp[hp,zz]
  have h0:=cE (hr i 0 _ _ hi rfl);have h1:=hm i 0 _ _ hi rfl;rw[h0,abB] at h1;exact h1
def Py.below{w w':World}{l:List (List UInt8)}{v:Value}{B:Nat}(h:Py w l v)(hb:Below B w w')(hB:w.heap.size<=B):Py w' l v:=by obtain⟨ao,cap,e,hp⟩:=h;refine⟨ao,cap,e,fun i p hi=> ?_⟩;obtain⟨b,off,e1,h1⟩:=hp i p hi;exact⟨b,off,e1,mc hb (aaj (mP h1) hB) h1⟩
def Wl(whole:List UInt8)(groups:List (List UInt8))(ps:List Vpiece):Bool:=decide (whole.length<=10000000000000) && groups.all (fun g=>decide (g.length<=10000000000000)) && ps.all (fun p=>decide (p.text.length<=10000000000000)) && decide (ps.length<=10000000000000) && decide (groups.length<=10000000000000)
set_option maxRecDepth 100000 in
set_option maxHeartbeats 4000000 in
def M5{N:Nat}(t whole:List UInt8)(groups:List (List UInt8))(ps:List Vpiece)(hp:kR N t=some (ps,true))(hsm:Wl whole groups ps=true)(X:GW)(gv:Value)(hX:∀b n,X.g b=some n->b < X.w.heap.size)(hgv:Py X.w groups gv):
  Calls Try.prog 14 #[.string (mkB t),.string (mkB whole),gv] X.w fun e w'=>e=.returned (.tuple #[.string (mkB (GV whole groups ps []).1),.int .i64 (GV whole groups ps []).2])/\Below X.w.heap.size X.w w':=by
 have hpc:Calls Try.prog 28 #[.string (mkB t)] X.w fun e w'=>∃v,e=.returned (.tuple #[v,.bool true])/\Ye w' ps v/\Below X.w.heap.size X.w w':=by
  refine(nW (X:=X) (vs:=[.string (mkB t)]) (qF t hp Rn.zero) rfl hX ?_).mono ?_
  ·intro i u x hu hx
   match i,hu,hx with
   |0,hu,hx=>simp at hu hx;subst hu hx;exact⟨.v _,rfl⟩
  ·rintro e w' ⟨X',y,rfl,rfl,hr,hb,_⟩;have hr':Rel X' (.tu [.sl false 2 (ps.map E9),.v (.bool true)]) y:=hr;cases hr' with
   |tu _ xs hl hi=>obtain⟨v0,v1,rfl⟩:=CM (by simpa using hl.symm:xs.size=2);have h1:=cE (hi 1 _ _ rfl rfl);subst h1;exact⟨v0,rfl,VG (hi 0 _ _ rfl rfl),hb⟩
 have hsize:= @lU;obtain⟨⟨⟨⟨hw1,hw2⟩,hw3⟩,hw4⟩,hw5⟩:(((whole.length<=10000000000000/\(∀g∈groups,g.length<=10000000000000))/\∀p∈ps,p.text.length<=10000000000000)/\ps.length<=10000000000000)/\groups.length<=10000000000000:=by simpa[Wl] using hsm
 generalize hR:GV whole groups ps [] =R;have HR:=Lib.hid hR;clear hR hsm
 go_enter Try.func14,Try.ntmps14
 go_wp2_with (go_at_call 28;refine hpc.mono ?_)
 rintro e W1 ⟨v,rfl,hps,b1⟩;obtain⟨ao,cap,rfl,hcell⟩:=id hps;obtain⟨ao2,cap2,rfl,hgc⟩:=id (hgv.below b1 (ZN _))
 go_wp2
 have h0:KK W1.heap.size W1.heap.size [] (W1.alloc (.cells #[.pointer none,.slice none 0 0] 81)):=Lib.fresh_isBuilder 81 5 W1;have b0:Below W1.heap.size W1 (W1.alloc (.cells #[.pointer none,.slice none 0 0] 81)):=(Below.refl _ W1).alloc (ZN _) _
 go_loopw [23] (fun i wr=>∃ (k:Nat) (acc:List UInt8),i=.int .i64 k/\k<=ps.length/\acc.length<=20000/\Hid (GV whole groups (ps.drop k) acc=R)/\KK W1.heap.size W1.heap.size acc wr/\Below W1.heap.size W1 wr) (fun i _=>ps.length - (intOf i).toNat)
 case atStart=>exact⟨0,[],rfl,aad _,by simp,HR,h0,b0⟩
 case round=>
  obtain⟨k,acc,rfl,hk,hacc,HJ,hI,hb⟩:=hrel;by_cases hlt:k < ps.length
  ·obtain⟨b,off,rfl,c0,c1⟩:=hcell k ps[k] (ZE hlt);have d0:=mc hb (mP c0) c0;have d1:=mc hb (mP c1) c1;have hmem:ps[k] ∈ps:=aaD hlt;have hJ:=HJ.out;rw[aaw hlt] at hJ;have hpt:=hw3 _ hmem;generalize ps[k] =p at c0 c1 d0 d1 hmem hJ hpt
   have hcase:((p.group==0)=true/\p.group=0/\exS whole groups p=whole)\/(∃j:Nat,j < groups.length/\p.group=(j:Int)+1/\(p.group==0)=false/\exS whole groups p=groups.getD j [])\/((p.group==0)=false/\p.group < 0/\exS whole groups p=p.text)\/((p.group==0)=false/\(groups.length:Int) < p.group/\exS whole groups p=p.text):=by
    by_cases h0:p.group=0
    ·exact .inl ⟨by simp[h0],h0,by simp[exS,h0]⟩
    ·have hb0:(p.group==0)=false:=by simpa using h0
     by_cases h1:0 < p.group/\p.group<=(groups.length:Int)
     ·refine .inr (.inl ⟨(p.group - 1).toNat,by omega,by omega,hb0,by simp[exS,h0,h1]⟩)
     ·by_cases h2:p.group < 0
      ·exact .inr (.inr (.inl ⟨hb0,h2,by simp[exS,h0,h1]⟩))
      ·exact .inr (.inr (.inr ⟨hb0,by omega,by simp[exS,h0,h1]⟩))
   simp only[GV] at hJ;have HJ2:=Lib.hid hJ;clear hJ HJ;rcases hcase with ⟨hz,hg,hs⟩| ⟨j,hj,hg,hz,hs⟩| ⟨hz,hg,hs⟩| ⟨hz,hg,hs⟩
   ·have HJ3:=HJ2.out
    rw[hs] at HJ3;have hsl:(whole).length<=10000000000000:=hw1;rw[hg] at d1;have al:=(Below.refl W1.heap.size wr).alloc hb.size (.cells #[.string (mkB p.text),.int .i64 0] 83);have hI2:=rb hI ((Below.refl _ wr).alloc (ZN _) (.cells #[.string (mkB p.text),.int .i64 0] 83));by_cases hm:20000 < acc.length+ (whole).length
    ·rw[ZI hm] at HJ3;subst HJ3
     go_wp2_with (go_at_call 29;refine(wv W1.heap.size W1.heap.size acc _ hI2).mono ?_;rintro e VL ⟨rfl,rfl⟩)
     go_ret2
     exact⟨rfl,b1.trans (qq (hb.trans al) b1.size)⟩
    ·rw[ZH hm] at HJ3;have HJ4:=Lib.hid HJ3;clear HJ3 HJ2
     go_wp2_with (go_at_call 29;refine(wv W1.heap.size W1.heap.size acc _ hI2).mono ?_;rintro e VL ⟨rfl,rfl⟩)
     refine(w6 W1.heap.size W1.heap.size acc (whole) _ hI2 (by omega) (hb.trans al).size).mono ?_;rintro e V3 ⟨rfl,hI3,c3⟩
     go_wp2
     refine⟨⟨k+1,acc++whole,by simp,by omega,by simp;omega,HJ4,hI3,(hb.trans al).trans c3⟩,by simp[intOf];omega⟩
   ·have HJ3:=HJ2.out;rw[hs] at HJ3;have hsl:(groups.getD j []).length<=10000000000000:=by rw[Z5,ZE hj];exact hw2 _ (aaD hj)
    obtain⟨b2,off2,rfl,e0⟩:=hgc j (groups.getD j []) (by rw[Z5,ZE hj];rfl);generalize groups.getD j [] =S at hsl e0 hs HJ3;rw[hg] at d1;have al:=(Below.refl W1.heap.size wr).alloc hb.size (.cells #[.string (mkB p.text),.int .i64 ((j:Int)+1)] 83);have e1:=mc (hb.trans al) (mP e0) e0
    have hI2:=rb hI ((Below.refl _ wr).alloc (ZN _) (.cells #[.string (mkB p.text),.int .i64 ((j:Int)+1)] 83));by_cases hm:20000 < acc.length+ (S).length
    ·rw[ZI hm] at HJ3;subst HJ3
     go_wp2_with (go_at_call 29;refine(wv W1.heap.size W1.heap.size acc _ hI2).mono ?_;rintro e VL ⟨rfl,rfl⟩)
     go_ret2
     exact⟨rfl,b1.trans (qq (hb.trans al) b1.size)⟩
    ·rw[ZH hm] at HJ3;have HJ4:=Lib.hid HJ3;clear HJ3 HJ2
     go_wp2_with (go_at_call 29;refine(wv W1.heap.size W1.heap.size acc _ hI2).mono ?_;rintro e VL ⟨rfl,rfl⟩)
     refine(w6 W1.heap.size W1.heap.size acc (S) _ hI2 (by omega) (hb.trans al).size).mono ?_;rintro e V3 ⟨rfl,hI3,c3⟩
     go_wp2
     refine⟨⟨k+1,acc++S,by simp,by omega,by simp;omega,HJ4,hI3,(hb.trans al).trans c3⟩,by simp[intOf];omega⟩
   ·have HJ3:=HJ2.out
    rw[hs] at HJ3;have hsl:(p.text).length<=10000000000000:=hpt;have al:=(Below.refl W1.heap.size wr).alloc hb.size (.cells #[.string (mkB p.text),.int .i64 p.group] 83);have hI2:=rb hI ((Below.refl _ wr).alloc (ZN _) (.cells #[.string (mkB p.text),.int .i64 p.group] 83));by_cases hm:20000 < acc.length+ (p.text).length
    ·rw[ZI hm] at HJ3;subst HJ3
     go_wp2_with (go_at_call 29;refine(wv W1.heap.size W1.heap.size acc _ hI2).mono ?_;rintro e VL ⟨rfl,rfl⟩)
     go_ret2
     exact⟨rfl,b1.trans (qq (hb.trans al) b1.size)⟩
    ·rw[ZH hm] at HJ3;have HJ4:=Lib.hid HJ3;clear HJ3 HJ2
     go_wp2_with (go_at_call 29;refine(wv W1.heap.size W1.heap.size acc _ hI2).mono ?_;rintro e VL ⟨rfl,rfl⟩)
     refine(w6 W1.heap.size W1.heap.size acc (p.text) _ hI2 (by omega) (hb.trans al).size).mono ?_;rintro e V3 ⟨rfl,hI3,c3⟩
     go_wp2
     refine⟨⟨k+1,acc++p.text,by simp,by omega,by simp;omega,HJ4,hI3,(hb.trans al).trans c3⟩,by simp[intOf];omega⟩
   ·have HJ3:=HJ2.out
    rw[hs] at HJ3;have hsl:(p.text).length<=10000000000000:=hpt;have al:=(Below.refl W1.heap.size wr).alloc hb.size (.cells #[.string (mkB p.text),.int .i64 p.group] 83);have hI2:=rb hI ((Below.refl _ wr).alloc (ZN _) (.cells #[.string (mkB p.text),.int .i64 p.group] 83));by_cases hm:20000 < acc.length+ (p.text).length
    ·rw[ZI hm] at HJ3;subst HJ3
     go_wp2_with (go_at_call 29;refine(wv W1.heap.size W1.heap.size acc _ hI2).mono ?_;rintro e VL ⟨rfl,rfl⟩)
     go_ret2
     exact⟨rfl,b1.trans (qq (hb.trans al) b1.size)⟩
    ·rw[ZH hm] at HJ3;have HJ4:=Lib.hid HJ3;clear HJ3 HJ2
     go_wp2_with (go_at_call 29;refine(wv W1.heap.size W1.heap.size acc _ hI2).mono ?_;rintro e VL ⟨rfl,rfl⟩)
     refine(w6 W1.heap.size W1.heap.size acc (p.text) _ hI2 (by omega) (hb.trans al).size).mono ?_;rintro e V3 ⟨rfl,hI3,c3⟩
     go_wp2
     refine⟨⟨k+1,acc++p.text,by simp,by omega,by simp;omega,HJ4,hI3,(hb.trans al).trans c3⟩,by simp[intOf];omega⟩
  ·have hke:k=ps.length:=by omega
   subst hke;have hJ:=HJ.out;rw[abR] at hJ;simp only[GV] at hJ;subst hJ
   go_wp2_with (go_at_call 31;refine(Yu W1.heap.size W1.heap.size acc _ hI hb.size).mono ?_)
   rintro e V2 ⟨rfl,c2⟩
   go_wp2
   go_ret2
   exact⟨rfl,b1.trans (qq (hb.trans c2) b1.size)⟩
set_option maxRecDepth 100000 in
def Ix{N:Nat}(t whole:List UInt8)(ps:List Vpiece)(hp:kR N t=some (ps,false))(X:GW)(gv:Value)(hX:∀b n,X.g b=some n->b < X.w.heap.size):
  Calls Try.prog 14 #[.string (mkB t),.string (mkB whole),gv] X.w fun e w'=>e=.returned (.tuple #[.string (mkB []),.int .i64 1])/\Below X.w.heap.size X.w w':=by
 have hpc:Calls Try.prog 28 #[.string (mkB t)] X.w fun e w'=>∃v,e=.returned (.tuple #[v,.bool false])/\Below X.w.heap.size X.w w':=by
  refine(nW (X:=X) (vs:=[.string (mkB t)]) (qF t hp Rn.zero) rfl hX ?_).mono ?_
  ·intro i u x hu hx
   match i,hu,hx with
   |0,hu,hx=>simp at hu hx;subst hu hx;exact⟨.v _,rfl⟩
  ·rintro e w' ⟨X',y,rfl,rfl,hr,hb,_⟩;have hr':Rel X' (.tu [.sl false 2 (ps.map E9),.v (.bool false)]) y:=hr;cases hr' with
   |tu _ xs hl hi=>obtain⟨v0,v1,rfl⟩:=CM (by simpa using hl.symm:xs.size=2);have h1:=cE (hi 1 _ _ rfl rfl);subst h1;exact⟨v0,rfl,hb⟩
 go_enter Try.func14,Try.ntmps14
 go_wp2_with (go_at_call 28;refine hpc.mono ?_)
 rintro e W1 ⟨v,rfl,b1⟩
 go_wp2
 go_ret2
 exact⟨rfl,b1⟩
def Iw{f:FuncId}{us:List AV}{r:Value}{ur:AV}{P:Program}(hf:Rb P f)(hr:∀X,Rel X ur r)(hp:de (some ur)=none)
  (h:∀ (X:GW) (vs:Array Value),(∀b n,X.g b=some n->b < X.w.heap.size)->vs.size=us.length->(∀ (i:Nat) u,us[i]? =some u->Rel X u (vs.getD i undef))->Calls P f vs X.w fun e w'=>e=.returned r/\Below X.w.heap.size X.w w'):aI P f us [] (fun out H=>out=.ret ur/\H=[]):=by
 refine⟨hf,fun F X xs hs=> ?_⟩;refine(h X xs hs.gb (by simpa using hs.size) (fun i u hi=>hs.slot i u ?_)).mono fun e w' ⟨he,hb⟩=> ?_
 ·have:∀ (us:List AV) (k i:Nat) u,us[i]? =some u->look (slotsOf k us) (k+i)=some u:=by
   intro us
   induction us with
   |nil=>intro k i u h;simp at h
   |cons u0 us ih=>
    intro k i u h;simp only[slotsOf,ae];cases i with
    |zero=>simp at h;subst h;simp
    |succ i=>rw[ZH (by omega),show k+ (i+1)=(k+1)+i by omega];exact ih (k+1) i u (by simpa using h)
  have:=this us 0 i u hi;simpa using this
 have hn:New X ⟨w',X.g⟩:=⟨hb.os,hb.tape,hb.output,hb.size,fun b hlt=>⟨hb.block b hlt,rfl⟩⟩
 have hgb:∀b n,X.g b=some n->b < w'.heap.size:=fun b n hg=>aaj (hs.gb b n hg) hb.size;refine⟨⟨w',X.g⟩,.ret ur,[],rfl,⟨rfl,rfl⟩,⟨r,he,?_⟩,hn.ext hs.gb hs.fb⟩
 refine⟨⟨rfl,hgb,fun b hF=>aaj (hs.fb b hF) hb.size,fun t u hu=> ?_,fun k cs hk=>by simp[aP] at hk,fun x r hx=>by simp[aP] at hx,fun r sz l ho=> ?_,fun r r' sz l sz' l' a n c a' n' c' _ ho=> ?_⟩,fun p hp=>by cases hp⟩
 ·simp only[ae,aP] at hu;split at hu
  ·rename_i e1;subst e1;cases hu;exact hr _
  ·cases hu
 ·cases r with
  |s t=>obtain⟨_,h2⟩:=jV ho;rw[hp] at h2;cases h2
  |c k o=>simp[AS.own,aP] at ho
 ·cases r with
  |s t=>obtain⟨_,h2⟩:=jV ho;rw[hp] at h2;cases h2
  |c k o=>simp[AS.own,aP] at ho
def Lp{xs:Array Value}(h:xs.size=3):xs= #[xs.getD 0 undef,xs.getD 1 undef,xs.getD 2 undef] :=by
 obtain⟨l⟩:=xs
 match l,h with
 | [a,b,c],_=>rfl
def kN(N:Nat)(t whole:List UInt8)(groups:List (List UInt8)):Option (List UInt8 × Int):=
 match kR N t with
 |none=>none
 |some (ps,true)=>if Wl whole groups ps=true then some (GV whole groups ps []) else none
 |some (_,false)=>some ([],1)
def Af(r:List UInt8 × Int):TV EE.T:=.tu [.a (.d .str r.1),.a (.d (.int .i64) r.2)]
def R3(X:GW)(a b:Value):Rel X (.tu [.v a,.v b]) (.tuple #[a,b]):=by
 refine .tu _ _ rfl ?_;intro i u x hu hx
 match i,hu,hx with
 |0,hu,hx=>simp at hu hx;subst hu hx;exact .v _
 |1,hu,hx=>simp at hu hx;subst hu hx;exact .v _
def P0{N:Nat}(t whole:List UInt8)(groups:List (List UInt8)){r:List UInt8 × Int}(h:kN N t whole groups=some r):aI Try.prog 14 [.v (.string (mkB t)),.v (.string (mkB whole)),.sl false 1 (groups.map zz)] [] (fun out H=>out=.ret (.tu [.v (.string (mkB r.1)),.v (.int .i64 r.2)])/\H=[]):=by
 refine Iw ⟨_,Try.func14,by kernel_rfl,rfl⟩ (fun X=>R3 X _ _) rfl fun X vs hX hv hr=> ?_;have e0:=cE (hr 0 _ rfl);have e1:=cE (hr 1 _ rfl);have e2:=WP (hr 2 _ rfl);rw[Lp hv,e0,e1];unfold kN at h;split at h
 ·cases h
 ·rename_i ps hp;split at h
  ·rename_i hsm;cases h;exact M5 t whole groups ps hp hsm X _ hX e2
  ·cases h
 ·rename_i ps hp;cases h;exact Ix t whole ps hp X _ hX
def np(N:Nat):List (TV EE.T)->PV EE.T
 | [u0,u1,u2] =>match nr .str u0,nr .str u1,nr (.sl .str) u2 with
   |some x0,some x1,some x2=>.opt (kN N x0 x1 x2) Af
   |_,_,_=>.bad
 |_=>.bad
def wI(N:Nat)(us:List (TV EE.T)):(np N us).ok fun u=>∀I,aI Try.prog 14 (us.map (TV.to EE.toEnc I)) [] (fun out H=>out=.ret (u.to EE.toEnc I)/\H=[]):=by
 unfold np;split
 ·split
  ·rename_i u0 u1 u2 x0 x1 x2 h0 h1 h2;intro z hz I;refine gz (us':=([.a (.d .str x0),.a (.d .str x1),.a (.d (.sl .str) x2)] :List (TV EE.T))) ⟨fB h0 I,fB h1 I,fB h2 I,trivial⟩ ?_;exact P0 x0 x1 x2 hz
  ·trivial
 ·trivial
end Go.Proofs.Ytlhjbhgkhpbnfaa
namespace Go.Proofs.Ytlhjbhgkhpbnfaa
open Go.Shelf Go.RowKit P
def Try.laysR_212:Go.Shelf.Ren:=⟨fun|212=>54|263=>64|264=>65|n=>n,fun|46=>119|51=>129|53=>132|146=>130|148=>133|n=>n,fun|n=>n⟩
set_option maxRecDepth 100000 in
def Try.laysn212:Go.Proofs.Lays.n212 Try.prog Try.laysR_212:={ mixed:=by kernel_rfl,f212:=Try.func54.trans (aas some (by kernel_rfl)),f263:=Try.func64.trans (aas some (by kernel_rfl)),f264:=Try.func65.trans (aas some (by kernel_rfl)),t46:=Try.underlying119,a46:=Try.isAgg119,z46:=Try.sizeOf119,v46:=Try.zeroValue119,t51:=Try.underlying129,a51:=Try.isAgg129,z51:=Try.sizeOf129,v51:=Try.zeroValue129,t53:=Try.underlying132,a53:=Try.isAgg132,z53:=Try.sizeOf132,v53:=Try.zeroValue132,t146:=Try.underlying130,a146:=Try.isAgg130,z146:=Try.sizeOf130,v146:=Try.zeroValue130,t148:=Try.underlying133,a148:=Try.isAgg133,z148:=Try.sizeOf133,v148:=Try.zeroValue133 }
def PE(x y:Nat)(hx:x < 18446744073709551616)(hy:y < 18446744073709551616)(w:World):Calls Try.prog 54 #[.int .u64 x,.int .u64 y] w fun e w'=>e=.returned (.tuple #[.int .u64 ((x * y / 18446744073709551616:Nat):Int),.int .u64 ((x * y % 18446744073709551616:Nat):Int)])/\w'=w:=Any.bits_Mul Try.laysn212 x y hx hy w
def S5(c:Nat)(hc:c<=1000000)(w:World):Calls Try.prog 54 #[.int .u64 1,.int .u64 c] w fun e w'=>e=.returned (.tuple #[.int .u64 0,.int .u64 c])/\w'=w:=
 (PE 1 c (by omega) (by omega) w).mono fun e w' h=>by rw[abT,abr (by omega),abD (by omega)] at h;exact h
def XF:(Try.prog.info? 3).map (fun i=>(i.zero,i.size,i.bytes))=some (some (.int .i64 0),1,8):=by kernel_rfl
def ma(c k:Nat)(x:Int):List Value:=List.replicate k (.int .i64 x)++List.replicate (c - k) (.int .i64 0)
def Of(c:Nat)(x:Int):madeCells #[Value.int .i64 0] c=(ma c 0 x).toArray:=by
 apply abK
 ·simp[madeCells,ma]
 ·intro i h1 h2;simp[madeCells,ma,Nat.mod_one]
theorem Qk{c k:Nat}(h:k<=c)(x:Int):(ma c k x).length=c:=by unfold ma;simp;omega
def L7{c k m:Nat}(x:Int)(h:k+m<=c):(ma c k x).take k++List.replicate m (.int .i64 x)++ (ma c k x).drop (k+m)=ma c (k+m) x:=by unfold ma;rw[List.take_left' (by simp),List.drop_append];rw[<- aac,List.drop_of_length_le (by simp),aax,List.drop_replicate,aa4,List.replicate_append_replicate,aba,Nat.sub_sub]
def Wn:(Try.prog.info? 3).map (·.size)=some 1:=by kernel_rfl
def GZ{w:World}{g c k m:Nat}{x:Int}{sLen:Nat}{a:Addr}{sCap dCap:Nat}(hk:k<=c)(hg:w.heap[g]? =some (.cells (ma c k x).toArray 3 (0,0)))(hm:m=Nat.min sLen (c - k))(hsrc:∀j,j < m->w.cell? (a.add j)=some (.int .i64 x)):
  (Builtin.copy_ #[38,38] 3 #[.slice (some ⟨g,k,none⟩) (c - k) dCap,.slice (some a) sLen sCap]).run Try.prog w=.ok (goInt m) (w.setRow g (ma c (k+m) x).toArray):=by
 have hm2:m<=c - k:=by rw[hm];exact Nat.min_le_right _ _
 have h:=run_copy_row (P:=Try.prog) w 38 38 3 3 g k (c - k) dCap a sLen sCap (ma c k x).toArray 3 (List.replicate m (.int .i64 x)) Try.underlying38 Wn hg (by simpa using hm) (fun j v hj=>by
  rw[aaU] at hj;split at hj
  ·rename_i h1;cases hj;exact hsrc j h1
  ·cases hj) (by simp[Qk hk];omega) (fun v hv=>by rw[(aby.1 hv).2];rfl)
 rw[aa4,List.toList_toArray,L7 x (by omega)] at h;exact h
def NH{w:World}{g c k j:Nat}{x:Int}(hk:k<=c)(hg:w.heap[g]? =some (.cells (ma c k x).toArray 3 (0,0)))(hj:j < k):w.cell? ((⟨g,0,none⟩:Addr).add j)=some (.int .i64 x):=by
 have hadd:(⟨g,0,none⟩:Addr).add j=⟨g,0+j,none⟩:=by unfold Addr.add;split<;> simp_all
 rw[hadd];simp[World.cell?,hg,ma,List.getElem?_append,hj]
def Below.setRow_new{B:Nat}{w w':World}(h:Below B w w')(hB:B<=w.heap.size)(cs:Array Value):Below B w (w'.setRow B cs):=by refine⟨h.os,h.tape,h.output,by simpa[World.setRow] using h.size,fun b hb=> ?_⟩;rw[<- h.block b hb];simp[World.setRow,Array.getElem?_modify,Nat.ne_of_gt hb]
set_option maxRecDepth 100000 in
set_option maxHeartbeats 4000000 in
def Nm(c:Nat)(hc:0 < c)(hc2:c<=1000000)(x:Int)(w:World)(b off cap:Nat)(hx:w.cell? ⟨b,off,none⟩=some (.int .i64 x)):
  Calls Try.prog 37 #[.slice (some ⟨b,off,none⟩) 1 cap,.int .i64 c] w fun e w'=>∃g,w.heap.size<=g/\e=.returned (.slice (some ⟨g,0,none⟩) c c)/\w'.heap[g]? =some (.cells (List.replicate c (.int .i64 x)).toArray 3 (0,0))/\Below w.heap.size w w':=by
 have hmk:=run_make_row' (P:=Try.prog) 38 3 (.int .i64 0) 8 Try.underlying38 XF rfl .i64 .i64 c (by omega) (by omega);rw[Of c x] at hmk;have hg0:(w.alloc (.cells (ma c 0 x).toArray 3)).heap[w.heap.size]? =some (.cells (ma c 0 x).toArray 3 (0,0)):=heap_alloc_new w _
 have b0:Below w.heap.size w (w.alloc (.cells (ma c 0 x).toArray 3)):=(Below.refl _ w).alloc (ZN _) _;have hcp:=GZ (c:=c) (k:=0) (m:=1) (x:=x) (sLen:=1) (a:=⟨b,off,none⟩) (sCap:=cap) (dCap:=c) (aad _) hg0 (Nat.min_eq_left (by omega)).symm (fun j hj=>by
  have:j=0:=by omega
  subst this;exact mc b0 (mP hx) hx)
 rw[aaX,Z6] at hcp;have hg1:=setRow_heap _ w.heap.size _ (ma c 1 x).toArray 3 (0,0) hg0
 go_enter Try.func37,Try.ntmps37
 go_wp2_with (go_at_call 54;refine(S5 c hc2 _).mono ?_;rintro e V ⟨rfl,rfl⟩)
 have bS:=Below.setRow_new b0 (ZN _) (ma c 1 x).toArray
 go_loopw [8] (fun n wr=>∃k:Nat,n=.int .i64 k/\0 < k/\k<=c/\wr.heap[V.heap.size]? =some (.cells (ma c k x).toArray 3 (0,0))/\Below V.heap.size V wr) (fun n _=>c - (intOf n).toNat)
 case atStart=>exact⟨1,rfl,by omega,by omega,hg1,bS⟩
 case round=>
  obtain⟨k,rfl,hk0,hk,hg,hb⟩:=hrel;by_cases hlt:k < c
  ·have hgd:wr.drew.heap[V.heap.size]? =some (.cells (ma c k x).toArray 3 (0,0)):=hg;have hck:¬c=k:=by omega
   have hcp2:=GZ (w:=wr.drew) (c:=c) (k:=k) (m:=Nat.min k (c - k)) (x:=x) (sLen:=k) (a:=⟨V.heap.size,0,none⟩) (sCap:=c) (dCap:=c - k) hk hgd rfl (fun j hj=>NH hk hgd (aaj hj (Nat.min_le_left _ _)));have hg2:=setRow_heap _ V.heap.size _ (ma c (k+Nat.min k (c - k)) x).toArray 3 (0,0) hgd
   go_wp2
   go_region
   have hwr:wrap64 ((k:Int)+ ((k.min (c - k):Nat):Int))=((k+k.min (c - k):Nat):Int):=by have:=Nat.min_le_right k (c - k);have h2:k.min (c - k)<=c - k:=this;unfold wrap64;omega
   have hm0:0 < k.min (c - k):=Nat.lt_min.2 ⟨hk0,by omega⟩;have hmk:k.min (c - k)<=c - k:=Nat.min_le_right k (c - k);rw[hwr]
   go_wp2
   refine⟨⟨k+k.min (c - k),rfl,by omega,by omega,hg2,Below.setRow_new hb.drew (ZN _) _⟩,?_⟩;simp[intOf];omega
  ·have hke:k=c:=by omega
   subst hke
   go_wp2
   go_ret
   refine⟨V.heap.size,ZN _,rfl,?_,hb⟩;rw[hg];simp[ma]
def yS{f:FuncId}{us:List AV}{ur:AV}{P:Program}(hf:Rb P f)(hp:de (some ur)=none)
  (h:∀ (X:GW) (vs:Array Value),(∀b n,X.g b=some n->b < X.w.heap.size)->vs.size=us.length->(∀ (i:Nat) u,us[i]? =some u->Rel X u (vs.getD i undef))->Calls P f vs X.w fun e w'=>∃X' r,X'.w=w'/\e=.returned r/\Rel X' ur r/\Below X.w.heap.size X.w w'/\(∀b n,X'.g b=some n->b < w'.heap.size)/\∀b,b < X.w.heap.size->X'.g b=X.g b):aI P f us [] (fun out H=>out=.ret ur/\H=[]):=by
 refine⟨hf,fun F X xs hs=> ?_⟩;refine(h X xs hs.gb (by simpa using hs.size) (fun i u hi=>hs.slot i u ?_)).mono fun e w' ⟨X',r,hw,he,hr,hb,hgb,hgo⟩=> ?_
 ·have:∀ (us:List AV) (k i:Nat) u,us[i]? =some u->look (slotsOf k us) (k+i)=some u:=by
   intro us
   induction us with
   |nil=>intro k i u h;simp at h
   |cons u0 us ih=>
    intro k i u h;simp only[slotsOf,ae];cases i with
    |zero=>simp at h;subst h;simp
    |succ i=>rw[ZH (by omega),show k+ (i+1)=(k+1)+i by omega];exact ih (k+1) i u (by simpa using h)
  have:=this us 0 i u hi;simpa using this
 subst hw;have hn:New X X':=⟨hb.os,hb.tape,hb.output,hb.size,fun b hlt=>⟨hb.block b hlt,hgo b hlt⟩⟩
 refine⟨X',.ret ur,[],rfl,⟨rfl,rfl⟩,⟨r,he,?_⟩,hn.ext hs.gb hs.fb⟩;refine⟨⟨rfl,hgb,fun b hF=>aaj (hs.fb b hF) hb.size,fun t u hu=> ?_,fun k cs hk=>by simp[aP] at hk,fun x r hx=>by simp[aP] at hx,fun r sz l ho=> ?_,fun r r' sz l sz' l' a n c a' n' c' _ ho=> ?_⟩,fun p hp=>by cases hp⟩
 ·simp only[ae,aP] at hu;split at hu
  ·rename_i e1;subst e1;cases hu;exact hr
  ·cases hu
 ·cases r with
  |s t=>obtain⟨_,h2⟩:=jV ho;rw[hp] at h2;cases h2
  |c k o=>simp[AS.own,aP] at ho
 ·cases r with
  |s t=>obtain⟨_,h2⟩:=jV ho;rw[hp] at h2;cases h2
  |c k o=>simp[AS.own,aP] at ho
def Hg{xs:Array Value}(h:xs.size=2):xs= #[xs.getD 0 undef,xs.getD 1 undef] :=by
 obtain⟨l⟩:=xs
 match l,h with
 | [a,b],_=>rfl
def PJ(c:Nat)(hc:0 < c)(hc2:c<=1000000)(x:Int):aI Try.prog 37 [.sl false 1 [[.v (.int .i64 x)]],.v (.int .i64 c)] [] (fun out H=>out=.ret (.sl false 1 ((List.replicate c x).map fun z=>[.v (.int .i64 z)]))/\H=[]):=by
 refine yS ⟨_,Try.func37,by kernel_rfl,rfl⟩ rfl fun X vs hX hv hr=> ?_;have e1:=cE (hr 1 _ rfl);have e0:=hr 0 _ rfl;rw[Hg hv,e1];generalize vs.getD 0 undef=v0 at e0;cases e0 with
 |sl _ _ _ b off cap n cc hg hn hcap hs hm hri=>
  have h0:=cE (hri 0 0 _ _ rfl rfl);have h1:=hm 0 0 _ _ rfl rfl;rw[h0] at h1;refine(Nm c hc hc2 x X.w b off cap (by simpa using h1)).mono ?_;rintro e w' ⟨g,hle,rfl,hgc,hb⟩;have hlt:g < w'.heap.size:=(ZU.1 hgc).1;refine⟨⟨w',fun q=>if q=g then some c else X.g q⟩,_,rfl,rfl,?_,hb,fun q n hq=> ?_,fun q hq=>ZH (by omega)⟩
  ·have hl:((List.replicate c x).map fun z=>[AV.v (.int .i64 z)]).length=c:=by simp
   have:=Rel.sl (X:=⟨w',fun q=>if q=g then some c else X.g q⟩) false 1 ((List.replicate c x).map fun z=>[AV.v (.int .i64 z)]) g 0 c c (fun _ _=>.int .i64 x) (ZI rfl) (by rw[hl];omega) (by rw[hl];exact ZN _) (fun i r hi=>by
    simp only[List.getElem?_map,Option.map_eq_some_iff] at hi;obtain⟨z,_,rfl⟩:=hi;rfl) (fun i j r u hi hj=>by
    simp only[List.getElem?_map,Option.map_eq_some_iff,List.getElem?_replicate] at hi;obtain⟨z,hz,rfl⟩:=hi;split at hz
    ·rename_i hic
     match j,hj with
     |0,_=>simp[World.cell?,hgc,List.getElem?_replicate,hic]
    ·cases hz) (fun i j r u hi hj=>by
    simp only[List.getElem?_map,Option.map_eq_some_iff,List.getElem?_replicate] at hi;obtain⟨z,hz,rfl⟩:=hi;split at hz
    ·cases hz
     match j,hj with
     |0,hj=>simp at hj;subst hj;exact .v _
    ·cases hz)
   rw[hl] at this;exact this
  ·dsimp only at hq;split at hq
   ·rename_i e;subst e;exact hlt
   ·exact aaj (hX q n hq) hb.size
def jl(N:Nat)(l:List Int)(c:Int):Option (List Int):=match l with
 | [x] =>if 0 < c/\c<=1000000 then some (List.replicate c.toNat x) else none
 |_=>none
def xU{N:Nat}{l:List Int}{c:Int}{r:List Int}(h:jl N l c=some r):∃x,l=[x] /\0 < c/\c<=1000000/\r=List.replicate c.toNat x:=by
 match l,h with
 | [x],h=>
   simp only[jl] at h;split at h
   ·rename_i hc;exact⟨x,rfl,hc.1,hc.2,(ZZ h).symm⟩
   ·cases h
def Hv(r:List Int):TV EE.T:=.a (.d (.sl (.int .i64)) r)
def qt(N:Nat):List (TV EE.T)->PV EE.T
 | [u0,u1] =>match nr (.sl (.int .i64)) u0,nr (.int .i64) u1 with
   |some x0,some x1=>.opt (jl N x0 x1) Hv
   |_,_=>.bad
 |_=>.bad
def Av(N:Nat)(us:List (TV EE.T)):(qt N us).ok fun u=>∀I,aI Try.prog 37 (us.map (TV.to EE.toEnc I)) [] (fun out H=>out=.ret (u.to EE.toEnc I)/\H=[]):=by
 unfold qt;split
 ·split
  ·rename_i u0 u1 x0 x1 h0 h1;intro z hz I;obtain⟨x,rfl,hc1,hc2,rfl⟩:=xU hz;refine gz (us':=([.a (.d (.sl (.int .i64)) [x]),.a (.d (.int .i64) x1)] :List (TV EE.T))) ⟨fB h0 I,fB h1 I,trivial⟩ ?_;have h:=PJ x1.toNat (by omega) (by omega) x;rw[show((x1.toNat:Nat):Int)=x1 by omega] at h;exact h
  ·trivial
 ·trivial
end Go.Proofs.Ytlhjbhgkhpbnfaa
namespace Go.Proofs.Ytlhjbhgkhpbnfaa
open Go.RowKit P
set_option maxRecDepth 100000
abbrev bW:=Nat × VMask × (List (Int × Bool)) × (List Vthread)
def gj(N:Nat)(n:Nat)(x1_n:Nat)(x4:Int)(b8:Vthread)(b11:Vstep)(Zf:VMask)(Zv:List (Int × Bool))(Zw:List Vthread):Option (PR bW):=
 bif b11.kind==2 then
  (bY N x1_n ({ at_:=b11.a,slots:=b8.slots }:Vthread) x4 Zf Zw Zv).bind fun z2=>
  match z2 with
  |.pan vz2=>some (.pan vz2)
  |.ok z3=>some (.ok (z3.1,z3.2.1,z3.2.2.2,z3.2.2.1))
 else
  bif b11.kind==1 then
   (bY N x1_n ({ at_:=b11.a,slots:=b8.slots }:Vthread) x4 Zf Zw Zv).bind fun z4=>
   match z4 with
   |.pan vz4=>some (.pan vz4)
   |.ok z5=>
    (bY N z5.1 ({ at_:=b11.b,slots:=b8.slots }:Vthread) x4 z5.2.1 z5.2.2.1 z5.2.2.2).bind fun z6=>
    match z6 with
    |.pan vz6=>some (.pan vz6)
    |.ok z7=>some (.ok (z7.1,z7.2.1,z7.2.2.2,z7.2.2.1))
  else
   bif b11.kind==3 then
    (iH N b8.slots).bind fun z8=>
    match z8 with
    |.pan vz8=>some (.pan vz8)
    |.ok z9=>
     (cf z9.1 b11.a).bind fun z10=>
     (z9.2[z10]?).bind fun z11=>
     (m9 z9.1 (List.set z9.2 z10 x4)).bind fun z12=>
     (bY N x1_n ({ at_:=w64 (b8.at_+1),slots:=z12 }:Vthread) x4 Zf Zw Zv).bind fun z13=>
     match z13 with
     |.pan vz13=>some (.pan vz13)
     |.ok z14=>some (.ok (z14.1,z14.2.1,z14.2.2.2,z14.2.2.1))
   else
    (lg 32 x1_n Zw ([b8] :List Vthread)).bind fun z15=>
    some (.ok (z15.length,Zf,Zv,z15))
def eJ(N:Nat)(x3:Vthread)(x4:Int)(y0:VMask)(y1:List (Int × Bool)):Option (PR bW):=
 bif (mL y1 x3.at_).getD false then
  some (.ok (0,y0,y1,([] :List Vthread)))
 else
  (ci y0.steps x3.at_).bind fun z1=>
  gj N N 0 x4 x3 z1 y0 (mJ y1 x3.at_ true) ([] :List Vthread)
abbrev ap:=Bool × (List (List UInt8)) × VMask
def cy(N:Nat)(k9:(List UInt8)->Int->Nat->Int->Int->Nat->Int->Int->(List (Int × Bool))->VMask->(List Vthread)->(List Vthread)->Option (PR ap))(k4:(List UInt8)->Nat->Int->Int->VMask->(List Vthread)->Option (PR ap))(n:Nat)(x1:List UInt8)(x8:Int)(x9_n:Nat)(x30:Int)(x31:Int)(x35_n:Nat)(x36:Int)(x37:Int)(b34:List (Int × Bool))(Zf:VMask)(Zl:List Vthread)(Zq:List Vthread):Option (PR ap):=
 k9 x1 x8 x9_n x30 x31 x35_n x36 (w64 (x37+1)) b34 Zf Zl Zq
def eV(N:Nat)(k9:(List UInt8)->Int->Nat->Int->Int->Nat->Int->Int->(List (Int × Bool))->VMask->(List Vthread)->(List Vthread)->Option (PR ap))(k4:(List UInt8)->Nat->Int->Int->VMask->(List Vthread)->Option (PR ap))(n:Nat)(x1:List UInt8)(x8:Int)(x9_n:Nat)(x30:Int)(x31:Int)(x35_n:Nat)(x36:Int)(x37:Int)(b12:Vthread)(b13:Vstep)(b34:List (Int × Bool))(Zf:VMask)(Zl:List Vthread)(Zq:List Vthread):Option (PR ap):=
 bif b13.kind==0 then
  (ci x1 x8).bind fun z11=>
  (b13.set_).bind fun z12=>
  (AE 256 (some z12) (b2i z11)).bind fun z13=>
  bif z13 then
   (bY N x9_n ({ at_:=w64 (b12.at_+1),slots:=b12.slots }:Vthread) (w64 (x8+1)) Zf Zq b34).bind fun z14=>
   match z14 with
   |.pan vz14=>some (.pan vz14)
   |.ok z15=>cy N k9 k4 n x1 x8 z15.1 x30 x31 x35_n x36 x37 z15.2.2.2 z15.2.1 Zl z15.2.2.1
  else
   cy N k9 k4 n x1 x8 x9_n x30 x31 x35_n x36 x37 b34 Zf Zl Zq
 else
  cy N k9 k4 n x1 x8 x9_n x30 x31 x35_n x36 x37 b34 Zf Zl Zq
def cT(N:Nat)(k4:(List UInt8)->Nat->Int->Int->VMask->(List Vthread)->Option (PR ap)):Nat->(List UInt8)->Int->Nat->Int->Int->Nat->Int->Int->(List (Int × Bool))->VMask->(List Vthread)->(List Vthread)->Option (PR ap)
 |0,_,_,_,_,_,_,_,_,_,_,_,_=>none
 |n+1,x1,x8,x9_n,x30,x31,x35_n,x36,x37,b34,Zf,Zl,Zq=>
  bif decide (x37 < x36) then
   (cf x35_n x37).bind fun z4=>
   (Zl[z4]?).bind fun z5=>
   (ci Zf.steps z5.at_).bind fun z6=>
   eV N (cT N k4 n) k4 n x1 x8 x9_n x30 x31 x35_n x36 x37 z5 z6 b34 Zf Zl Zq
  else
   k4 x1 x9_n x30 (w64 (x31+1)) Zf Zq
def dc(N:Nat):Nat->(List UInt8)->Nat->Int->Int->VMask->(List Vthread)->Option (PR ap)
 |0,_,_,_,_,_,_=>none
 |n+1,x1,x77_n,x78,x79,Zf,Zl=>
  bif decide (x79 < x78) then
   (cf x77_n x79).bind fun z7=>
   (Zl[z7]?).bind fun z8=>
   (ci Zf.steps z8.at_).bind fun z9=>
   bif z9.kind==4 then
    (ey N x1 z8.slots Zf).bind fun z10=>
    some (.ok (true,z10.1,z10.2))
   else
    dc N n x1 x77_n x78 (w64 (x79+1)) Zf Zl
  else
   some (.ok (false,([] :List (List UInt8)),Zf))
def cW(N:Nat):Nat->(List UInt8)->Nat->Int->Int->VMask->(List Vthread)->Option (PR ap)
 |0,_,_,_,_,_,_=>none
 |n+1,x1,x7_n,x30,x31,Zf,Zl=>
  bif decide (x31 < x30) then
   cT N (cW N n) n x1 x31 0 x30 x31 x7_n (x7_n:Int) 0 ([] :List (Int × Bool)) Zf Zl ([] :List Vthread)
  else
   dc N n x1 x7_n (x7_n:Int) 0 Zf Zl
def eI(N:Nat)(x1:List UInt8)(y0:VMask):Option (PR ap):=
 (jl N ([(-1)] :List Int) (w64 ((w64 (2 * y0.Groups))+2))).bind fun z1=>
 (eJ N ({ at_:=0,slots:=z1 }:Vthread) 0 y0 ([] :List (Int × Bool))).bind fun z2=>
 match z2 with
 |.pan vz2=>some (.pan vz2)
 |.ok z3=>cW N N x1 z3.1 (x1.length:Int) 0 z3.2.1 z3.2.2.2
set_option maxRecDepth 100000
def gQ(i0:Nat)(i1:Nat)(r:bW):TV EE.T:=.a (.vec (.nam 10) 300000 r.1)
def xl(i0:Nat)(i1:Nat)(r:bW):List (Nat × TB EE.T):=[(i0,.cs (cL EE (.nam 8) r.2.1)),(i1,.imap .bool r.2.2.1),(300000,.vec 300000 (.nam 10) r.2.2.2)]
def gC(r:PR bW):RL EE.T:=mM (gQ 100000 100001) (xl 100000 100001) r
def TE:Lvs:=⟨[(4,⟨[(0,false),(1,false),(2,false),(4,false),(8,false)],[],[(8,(some 10,[])),(100000,(some 8,[])),(100001,(none,[])),(700001,(none,[]))],[]⟩),(5,⟨[(0,false),(1,false),(2,false),(4,false),(8,false),(11,false)],[],[(8,(some 10,[])),(11,(some 7,[])),(100000,(some 8,[])),(100001,(none,[])),(700001,(none,[]))],[]⟩)],[],[5],[],false,[(100000,(some 8,[]))],[100000,100001,300000],[(0,[.nl (.s 1) 700001 (.nam 10)]),(14,[.cl 401104 (.v (.int .i64)) (.s 12)])],[(88,300000),(700001,300000)]⟩
def R6:List ResultVar:=[.tmp 10]
def MX(N:Nat):Gam EE:=⟨[],EQT,[⟨38,jR N⟩,⟨55,qW N⟩],[]⟩
def P8(N:Nat):GOk Try.prog TT EE (MX N):=GOk.consx (lp N) (GOk.consx (su N) (GOk.nil cQ))
def FU(c:Code):List It2:=atR 5 c
def Fu(x1_n:Nat)(x4:Int)(b8:Vthread)(b11:Vstep)(Zf:VMask)(Zv:List (Int × Bool))(Zw:List Vthread):TS EE.T:=⟨89,[(0,.a (.box 100000 0)),(1,.a (.vec (.nam 10) 700001 x1_n)),(2,.a (.mpr 100001)),(4,.a (.d (.int .i64) x4)),(8,.a (.box 8 0)),(11,.a (.box 11 0))],[(8,.cs (cL EE (.nam 10) b8)),(11,.cs (cL EE (.nam 7) b11)),(100000,.cs (cL EE (.nam 8) Zf)),(100001,.imap .bool Zv),(700001,.vec 700001 (.nam 10) Zw)],[]⟩
def Qz(c:Code):List It2:=[.c c]
def PI(x3:Vthread)(x4:Int)(y0:VMask)(y1:List (Int × Bool)):TS EE.T:=⟨89,[(0,.a (.box 100000 0)),(1,.a (.raw (.slice none 0 0))),(2,.a (.mpr 100001)),(3,.ag (cL EE (.nam 10) x3)),(4,.a (.d (.int .i64) x4))],[(100000,.cs (cL EE (.nam 8) y0)),(100001,.imap .bool y1)],[]⟩
def Nh(c:Code)(f:Nat->Int->Vthread->Vstep->VMask->(List (Int × Bool))->(List Vthread)->Option (PR bW))(x1_n:Nat)(x4:Int)(b8:Vthread)(b11:Vstep)(Zf:VMask)(Zv:List (Int × Bool))(Zw:List Vthread):Tree (Lf EE.T × Option (PR bW)):=.leaf (.go (FU c) (Fu x1_n x4 b8 b11 Zf Zv Zw),f x1_n x4 b8 b11 Zf Zv Zw)
abbrev J1(N:Nat)(r:PR bW)(k:List It2)(s:TS EE.T):Prop:=fL (Y:=TT) EE (MX N) TE R6 (fun u=>u=gC r) k s
def kC(x:PR bW):Tree (Lf EE.T × Option (PR bW)):=.leaf (.done (gC x),some x)
def NA{N:Nat}{r:PR bW}(n:Nat)(x1_n:Nat)(x4:Int)(b8:Vthread)(b11:Vstep)(Zf:VMask)(Zv:List (Int × Bool))(Zw:List Vthread)(h:gj N n x1_n x4 b8 b11 Zf Zv Zw=some r):J1 N r (FU (aa 0 Try.f38)) (Fu x1_n x4 b8 b11 Zf Zv Zw):=
 au (m:=4000) (t:=
 .cond (b11.kind==2)
 (
  .bnd (bY N x1_n ({ at_:=b11.a,slots:=b8.slots }:Vthread) x4 Zf Zw Zv) fun z2=>
  .sm z2 (fun z3=>
   kC (.ok (z3.1,z3.2.1,z3.2.2.2,z3.2.2.1))) (fun vz2=>
   kC (.pan vz2)))
 (
  .cond (b11.kind==1)
  (
   .bnd (bY N x1_n ({ at_:=b11.a,slots:=b8.slots }:Vthread) x4 Zf Zw Zv) fun z4=>
   .sm z4 (fun z5=>
    .bnd (bY N z5.1 ({ at_:=b11.b,slots:=b8.slots }:Vthread) x4 z5.2.1 z5.2.2.1 z5.2.2.2) fun z6=>
    .sm z6 (fun z7=>
     kC (.ok (z7.1,z7.2.1,z7.2.2.2,z7.2.2.1))) (fun vz6=>
     kC (.pan vz6))) (fun vz4=>
    kC (.pan vz4)))
  (
   .cond (b11.kind==3)
   (
    .bnd (iH N b8.slots) fun z8=>
    .sm z8 (fun z9=>
     .bnd (cf z9.1 b11.a) fun z10=>
     .bnd (z9.2[z10]?) fun z11=>
     .bnd (m9 z9.1 (List.set z9.2 z10 x4)) fun z12=>
     .bnd (bY N x1_n ({ at_:=w64 (b8.at_+1),slots:=z12 }:Vthread) x4 Zf Zw Zv) fun z13=>
     .sm z13 (fun z14=>
      kC (.ok (z14.1,z14.2.1,z14.2.2.2,z14.2.2.1))) (fun vz13=>
      kC (.pan vz13))) (fun vz8=>
     kC (.pan vz8)))
   (
    .bnd (lg 32 x1_n Zw ([b8] :List Vthread)) fun z15=>
    kC (.ok (z15.length,Zf,Zv,z15)))))) (by kernel_rfl) (by kernel_rfl) h (⟨fun _=>⟨fun _=>aE (enc:=gC) rfl,fun _=>aE (enc:=gC) rfl⟩,⟨fun _=>⟨fun _=>fun _=>⟨fun _=>aE (enc:=gC) rfl,fun _=>aE (enc:=gC) rfl⟩,fun _=>aE (enc:=gC) rfl⟩,⟨fun _=>⟨fun _=>fun _=>fun _=>fun _=>fun _=>⟨fun _=>aE (enc:=gC) rfl,fun _=>aE (enc:=gC) rfl⟩,fun _=>aE (enc:=gC) rfl⟩,fun _=>aE (enc:=gC) rfl⟩⟩⟩)
def Pk{N:Nat}{r:PR bW}(x3:Vthread)(x4:Int)(y0:VMask)(y1:List (Int × Bool))(h:eJ N x3 x4 y0 y1=some r):J1 N r (Qz (aa 0 Try.f38)) (PI x3 x4 y0 y1):=
 au (m:=4000) (t:=
 .cond ((mL y1 x3.at_).getD false)
 (
  kC (.ok (0,y0,y1,([] :List Vthread))))
 (
  nlR 134 (
   .bnd (ci y0.steps x3.at_) fun z1=>
   Nh (aa 0 Try.f38) (gj N N) 0 x4 x3 z1 y0 (mJ y1 x3.at_ true) ([] :List Vthread)))) (by kernel_rfl) (by kernel_rfl) h (⟨aE (enc:=gC) rfl,xc (fun _=>fun h=>NA N _ _ _ _ _ _ _ h)⟩)
def J0(x3:Vthread)(x4:Int)(y0:VMask)(y1:List (Int × Bool)):List (TV EE.T):=[.a (.box 100000 0),.a (.raw (.slice none 0 0)),.a (.mpr 100001),.ag (cL EE (.nam 10) x3),.a (.d (.int .i64) x4)]
def Ef(x3:Vthread)(x4:Int)(y0:VMask)(y1:List (Int × Bool)):List (Nat × TB EE.T):=[(100000,.cs (cL EE (.nam 8) y0)),(100001,.imap .bool y1)]
def rT{N:Nat}(x3:Vthread)(x4:Int)(y0:VMask)(y1:List (Int × Bool)){r:PR bW}(h:eJ N x3 x4 y0 y1=some r)(I:Rn)(hi:Inj I (Ef x3 x4 y0 y1)):aI Try.prog 38 ((J0 x3 x4 y0 y1).map (TV.to EE.toEnc I)) (hTo EE.toEnc I (Ef x3 x4 y0 y1)) (cH EE I fun u=>u=gC r):=
 dI (aa 0 Try.f38) 89 mixed (P8 N) Try.func38 (by kernel_rfl) rfl rfl rfl rfl (Pk x3 x4 y0 y1 h) I hi
def mf(N:Nat)(us:List (TV EE.T))(hs:List (Nat × TB EE.T)):XR EE.T:=
 gdX (d7 us 5) <|
 bnX (aB us 0) fun i0=>
 gdX (aN us 1) <|
 bnX (aM us 2) fun i1=>
 bnX (aS EE 10 us 3) fun x3=>
 bnX (aD (.int .i64) us 4) fun x4=>
 bnX (bS EE 8 hs i0) fun y0=>
 bnX (bI .bool hs i1) fun y1=>
 gdX (bx hs [i0,i1]) <|
 gdX (ip [i0,i1,300000]) <|
 .mv (eJ N x3 x4 y0 y1) [i0,i1] (mvL [i0,i1] [100000,100001]) 1 (gQ i0 i1) (xl i0 i1)
def qH(N:Nat):XOk Try.prog EE 38 (mf N):=fun us hs=>
 ay fun h1=>ab fun i0 h2=>ay fun h3=>ab fun i1 h4=>ab fun x3 h5=>ab fun x4 h6=>ab fun y0 h7=>ab fun y1 h8=>ay fun h9=>ay fun h10=>fun p hz I hi=>gh (ex:=[(300000,300000)]) (ks:=[100000,100001]) (us':=J0 x3 x4 y0 y1) (h0:=Ef x3 x4 y0 y1) (ρ':=jh I [i0,i1]) (uc:=gQ 100000 100001) (u:=gQ i0 i1) (hc:=xl 100000 100001) (h:=xl i0 i1) hi h9 (by kernel_rfl) ⟨gG h2 (by kernel_rfl),Ym h3,Vd h4 (by kernel_rfl),Bq h5,gB h6,bA h1⟩ ⟨(by kernel_rfl),tW h7,(by kernel_rfl),UW h8,trivial⟩ ⟨.inr rfl,.inr rfl,trivial⟩ h10 (fun hj=>rT x3 x4 y0 y1 hz _ hj) (fun z=>⟨by kernel_rfl,by kernel_rfl,by kernel_rfl,by kernel_rfl⟩)
def mg(r:ap):TV EE.T:=.tu [.a (.d .bool r.1),.a (.d (.sl .str) r.2.1)]
def Ji(i0:Nat)(r:ap):List (Nat × TB EE.T):=[(i0,.cs (cL EE (.nam 8) r.2.2))]
def nJ(r:PR ap):RL EE.T:=match r with
 |.ok z=>.ret (mg z) (Ji 100000 z)
 |.pan v=>.pan v
def Tq:Lvs:=⟨[(11,⟨[(0,false),(1,false),(8,false),(9,false),(10,false),(12,false),(30,false),(31,false),(35,false),(36,false),(37,false)],[],[(12,(some 10,[])),(34,(none,[])),(100000,(some 8,[])),(400448,(none,[])),(700009,(none,[]))],[]⟩),(12,⟨[(0,false),(1,false),(8,false),(9,false),(10,false),(12,false),(13,false),(30,false),(31,false),(35,false),(36,false),(37,false)],[],[(12,(some 10,[])),(13,(some 7,[])),(34,(none,[])),(100000,(some 8,[])),(400448,(none,[])),(700009,(none,[]))],[]⟩),(14,⟨[(0,false),(1,false),(8,false),(9,false),(10,false),(30,false),(31,false),(35,false),(36,false),(37,false)],[],[(34,(none,[])),(100000,(some 8,[])),(400448,(none,[])),(700009,(none,[]))],[]⟩),(20,⟨[(0,false),(1,false),(15,false),(77,false),(78,false),(79,false)],[],[(15,(some 10,[])),(100000,(some 8,[])),(400448,(none,[]))],[]⟩)],[(4,⟨[(0,false),(1,false),(7,false),(30,false),(31,false)],[],[(100000,(some 8,[])),(400448,(none,[]))],[(700009,400448)]⟩),(9,⟨[(0,false),(1,false),(8,false),(9,false),(10,false),(30,false),(31,false),(35,false),(36,false),(37,false)],[],[(34,(none,[])),(100000,(some 8,[])),(400448,(none,[])),(700009,(none,[]))],[]⟩),(18,⟨[(0,false),(1,false),(77,false),(78,false),(79,false)],[],[(100000,(some 8,[])),(400448,(none,[]))],[]⟩)],[12,14],[],false,[(100000,(some 8,[]))],[100000],[(7,[.nl (.s 9) 700009 (.nam 10)])],[]⟩
def Ua:List ResultVar:=[.tmp 4,.tmp 5]
def RG(N:Nat):Gam EE:=⟨[⟨37,qt N⟩],EQT,[⟨39,kd N⟩,⟨38,jR N⟩,⟨38,mf N⟩],[]⟩
def QA(N:Nat):GOk Try.prog TT EE (RG N):=GOk.cons (Av N) (GOk.consx (nG N) (GOk.consx (lp N) (GOk.consx (qH N) (GOk.nil cQ))))
def B0(c:Code):List It2:=atR 14 c
def Cf(x1:List UInt8)(x8:Int)(x9_n:Nat)(x30:Int)(x31:Int)(x35_n:Nat)(x36:Int)(x37:Int)(b34:List (Int × Bool))(Zf:VMask)(Zl:List Vthread)(Zq:List Vthread):TS EE.T:=⟨99,[(0,.a (.box 100000 0)),(1,.a (.d .str x1)),(8,.a (.d (.int .i64) x8)),(9,.a (.vec (.nam 10) 700009 x9_n)),(10,.a (.mpr 34)),(30,.a (.d (.int .i64) x30)),(31,.a (.d (.int .i64) x31)),(35,.a (.vec (.nam 10) 400448 x35_n)),(36,.a (.d (.int .i64) x36)),(37,.a (.d (.int .i64) x37))],[(34,.imap .bool b34),(100000,.cs (cL EE (.nam 8) Zf)),(400448,.vec 400448 (.nam 10) Zl),(700009,.vec 700009 (.nam 10) Zq)],[]⟩
def Ba(c:Code):List It2:=atR 12 c
def AT(x1:List UInt8)(x8:Int)(x9_n:Nat)(x30:Int)(x31:Int)(x35_n:Nat)(x36:Int)(x37:Int)(b12:Vthread)(b13:Vstep)(b34:List (Int × Bool))(Zf:VMask)(Zl:List Vthread)(Zq:List Vthread):TS EE.T:=⟨99,[(0,.a (.box 100000 0)),(1,.a (.d .str x1)),(8,.a (.d (.int .i64) x8)),(9,.a (.vec (.nam 10) 700009 x9_n)),(10,.a (.mpr 34)),(12,.a (.box 12 0)),(13,.a (.box 13 0)),(30,.a (.d (.int .i64) x30)),(31,.a (.d (.int .i64) x31)),(35,.a (.vec (.nam 10) 400448 x35_n)),(36,.a (.d (.int .i64) x36)),(37,.a (.d (.int .i64) x37))],[(12,.cs (cL EE (.nam 10) b12)),(13,.cs (cL EE (.nam 7) b13)),(34,.imap .bool b34),(100000,.cs (cL EE (.nam 8) Zf)),(400448,.vec 400448 (.nam 10) Zl),(700009,.vec 700009 (.nam 10) Zq)],[]⟩
def uZ(c:Code):List It2:=atL 9 c
def tN(x1:List UInt8)(x8:Int)(x9_n:Nat)(x30:Int)(x31:Int)(x35_n:Nat)(x36:Int)(x37:Int)(b34:List (Int × Bool))(Zf:VMask)(Zl:List Vthread)(Zq:List Vthread):TS EE.T:=⟨99,[(0,.a (.box 100000 0)),(1,.a (.d .str x1)),(8,.a (.d (.int .i64) x8)),(9,.a (.vec (.nam 10) 700009 x9_n)),(10,.a (.mpr 34)),(30,.a (.d (.int .i64) x30)),(31,.a (.d (.int .i64) x31)),(35,.a (.vec (.nam 10) 400448 x35_n)),(36,.a (.d (.int .i64) x36)),(37,.a (.d (.int .i64) x37))],[(34,.imap .bool b34),(100000,.cs (cL EE (.nam 8) Zf)),(400448,.vec 400448 (.nam 10) Zl),(700009,.vec 700009 (.nam 10) Zq)],[]⟩
def A1(c:Code):List It2:=atL 18 c
def Cd(x1:List UInt8)(x77_n:Nat)(x78:Int)(x79:Int)(Zf:VMask)(Zl:List Vthread):TS EE.T:=⟨99,[(0,.a (.box 100000 0)),(1,.a (.d .str x1)),(77,.a (.vec (.nam 10) 400448 x77_n)),(78,.a (.d (.int .i64) x78)),(79,.a (.d (.int .i64) x79))],[(100000,.cs (cL EE (.nam 8) Zf)),(400448,.vec 400448 (.nam 10) Zl)],[]⟩
def qc(c:Code):List It2:=atL 4 c
def pI(x1:List UInt8)(x7_n:Nat)(x30:Int)(x31:Int)(Zf:VMask)(Zl:List Vthread):TS EE.T:=⟨99,[(0,.a (.box 100000 0)),(1,.a (.d .str x1)),(7,.a (.vec (.nam 10) 400448 x7_n)),(30,.a (.d (.int .i64) x30)),(31,.a (.d (.int .i64) x31))],[(100000,.cs (cL EE (.nam 8) Zf)),(400448,.vec 400448 (.nam 10) Zl)],[]⟩
def Ob(c:Code):List It2:=[.c c]
def OV(x1:List UInt8)(y0:VMask):TS EE.T:=⟨99,[(0,.a (.box 100000 0)),(1,.a (.d .str x1))],[(100000,.cs (cL EE (.nam 8) y0))],[]⟩
def vG(c:Code)(f:(List UInt8)->Int->Nat->Int->Int->Nat->Int->Int->(List (Int × Bool))->VMask->(List Vthread)->(List Vthread)->Option (PR ap))(x1:List UInt8)(x8:Int)(x9_n:Nat)(x30:Int)(x31:Int)(x35_n:Nat)(x36:Int)(x37:Int)(b34:List (Int × Bool))(Zf:VMask)(Zl:List Vthread)(Zq:List Vthread):Tree (Lf EE.T × Option (PR ap)):=.leaf (.go (B0 c) (Cf x1 x8 x9_n x30 x31 x35_n x36 x37 b34 Zf Zl Zq),f x1 x8 x9_n x30 x31 x35_n x36 x37 b34 Zf Zl Zq)
def KA(c:Code)(f:(List UInt8)->Int->Nat->Int->Int->Nat->Int->Int->Vthread->Vstep->(List (Int × Bool))->VMask->(List Vthread)->(List Vthread)->Option (PR ap))(x1:List UInt8)(x8:Int)(x9_n:Nat)(x30:Int)(x31:Int)(x35_n:Nat)(x36:Int)(x37:Int)(b12:Vthread)(b13:Vstep)(b34:List (Int × Bool))(Zf:VMask)(Zl:List Vthread)(Zq:List Vthread):Tree (Lf EE.T × Option (PR ap)):=.leaf (.go (Ba c) (AT x1 x8 x9_n x30 x31 x35_n x36 x37 b12 b13 b34 Zf Zl Zq),f x1 x8 x9_n x30 x31 x35_n x36 x37 b12 b13 b34 Zf Zl Zq)
def ED(c:Code)(f:(List UInt8)->Int->Nat->Int->Int->Nat->Int->Int->(List (Int × Bool))->VMask->(List Vthread)->(List Vthread)->Option (PR ap))(x1:List UInt8)(x8:Int)(x9_n:Nat)(x30:Int)(x31:Int)(x35_n:Nat)(x36:Int)(x37:Int)(b34:List (Int × Bool))(Zf:VMask)(Zl:List Vthread)(Zq:List Vthread):Tree (Lf EE.T × Option (PR ap)):=.leaf (.go (uZ c) (tN x1 x8 x9_n x30 x31 x35_n x36 x37 b34 Zf Zl Zq),f x1 x8 x9_n x30 x31 x35_n x36 x37 b34 Zf Zl Zq)
def Bn(c:Code)(f:(List UInt8)->Nat->Int->Int->VMask->(List Vthread)->Option (PR ap))(x1:List UInt8)(x77_n:Nat)(x78:Int)(x79:Int)(Zf:VMask)(Zl:List Vthread):Tree (Lf EE.T × Option (PR ap)):=.leaf (.go (A1 c) (Cd x1 x77_n x78 x79 Zf Zl),f x1 x77_n x78 x79 Zf Zl)
def GH(c:Code)(f:(List UInt8)->Nat->Int->Int->VMask->(List Vthread)->Option (PR ap))(x1:List UInt8)(x7_n:Nat)(x30:Int)(x31:Int)(Zf:VMask)(Zl:List Vthread):Tree (Lf EE.T × Option (PR ap)):=.leaf (.go (qc c) (pI x1 x7_n x30 x31 Zf Zl),f x1 x7_n x30 x31 Zf Zl)
abbrev jT(N:Nat)(r:PR ap)(k:List It2)(s:TS EE.T):Prop:=fL (Y:=TT) EE (RG N) Tq Ua (fun u=>u=nJ r) k s
def w9(x:PR ap):Tree (Lf EE.T × Option (PR ap)):=.leaf (.done (nJ x),some x)
def vp{N:Nat}{r:PR ap}{k9:(List UInt8)->Int->Nat->Int->Int->Nat->Int->Int->(List (Int × Bool))->VMask->(List Vthread)->(List Vthread)->Option (PR ap)}{k4:(List UInt8)->Nat->Int->Int->VMask->(List Vthread)->Option (PR ap)}(hk9:∀x1 x8 x9_n x30 x31 x35_n x36 x37 b34 Zf Zl Zq,k9 x1 x8 x9_n x30 x31 x35_n x36 x37 b34 Zf Zl Zq=some r->jT N r (uZ (aa 0 Try.f22)) (tN x1 x8 x9_n x30 x31 x35_n x36 x37 b34 Zf Zl Zq))(hk4:∀x1 x7_n x30 x31 Zf Zl,k4 x1 x7_n x30 x31 Zf Zl=some r->jT N r (qc (aa 0 Try.f22)) (pI x1 x7_n x30 x31 Zf Zl))(n:Nat)(x1:List UInt8)(x8:Int)(x9_n:Nat)(x30:Int)(x31:Int)(x35_n:Nat)(x36:Int)(x37:Int)(b34:List (Int × Bool))(Zf:VMask)(Zl:List Vthread)(Zq:List Vthread)(h:cy N k9 k4 n x1 x8 x9_n x30 x31 x35_n x36 x37 b34 Zf Zl Zq=some r):jT N r (B0 (aa 0 Try.f22)) (Cf x1 x8 x9_n x30 x31 x35_n x36 x37 b34 Zf Zl Zq):=
 au (m:=4000) (t:=
 ED (aa 0 Try.f22) k9 x1 x8 x9_n x30 x31 x35_n x36 (w64 (x37+1)) b34 Zf Zl Zq) (by kernel_rfl) (by kernel_rfl) h (fun h=>hk9 _ _ _ _ _ _ _ _ _ _ _ _ h)
def Lc{N:Nat}{r:PR ap}{k9:(List UInt8)->Int->Nat->Int->Int->Nat->Int->Int->(List (Int × Bool))->VMask->(List Vthread)->(List Vthread)->Option (PR ap)}{k4:(List UInt8)->Nat->Int->Int->VMask->(List Vthread)->Option (PR ap)}(hk9:∀x1 x8 x9_n x30 x31 x35_n x36 x37 b34 Zf Zl Zq,k9 x1 x8 x9_n x30 x31 x35_n x36 x37 b34 Zf Zl Zq=some r->jT N r (uZ (aa 0 Try.f22)) (tN x1 x8 x9_n x30 x31 x35_n x36 x37 b34 Zf Zl Zq))(hk4:∀x1 x7_n x30 x31 Zf Zl,k4 x1 x7_n x30 x31 Zf Zl=some r->jT N r (qc (aa 0 Try.f22)) (pI x1 x7_n x30 x31 Zf Zl))(n:Nat)(x1:List UInt8)(x8:Int)(x9_n:Nat)(x30:Int)(x31:Int)(x35_n:Nat)(x36:Int)(x37:Int)(b12:Vthread)(b13:Vstep)(b34:List (Int × Bool))(Zf:VMask)(Zl:List Vthread)(Zq:List Vthread)(h:eV N k9 k4 n x1 x8 x9_n x30 x31 x35_n x36 x37 b12 b13 b34 Zf Zl Zq=some r):jT N r (Ba (aa 0 Try.f22)) (AT x1 x8 x9_n x30 x31 x35_n x36 x37 b12 b13 b34 Zf Zl Zq):=
 au (m:=4000) (t:=
 .cond (b13.kind==0)
 (
  .bnd (ci x1 x8) fun z11=>
  .bnd (b13.set_) fun z12=>
  .bnd (AE 256 (some z12) (b2i z11)) fun z13=>
  .cond (z13)
  (
   .bnd (bY N x9_n ({ at_:=w64 (b12.at_+1),slots:=b12.slots }:Vthread) (w64 (x8+1)) Zf Zq b34) fun z14=>
   .sm z14 (fun z15=>
    vG (aa 0 Try.f22) (cy N k9 k4 n) x1 x8 z15.1 x30 x31 x35_n x36 x37 z15.2.2.2 z15.2.1 Zl z15.2.2.1) (fun vz14=>
    w9 (.pan vz14)))
  (
   vG (aa 0 Try.f22) (cy N k9 k4 n) x1 x8 x9_n x30 x31 x35_n x36 x37 b34 Zf Zl Zq))
 (
  vG (aa 0 Try.f22) (cy N k9 k4 n) x1 x8 x9_n x30 x31 x35_n x36 x37 b34 Zf Zl Zq)) (by kernel_rfl) (by kernel_rfl) h (⟨fun _=>fun _=>fun _=>⟨fun _=>⟨fun _=>fun h=>vp hk9 hk4 n _ _ _ _ _ _ _ _ _ _ _ _ h,fun _=>aE (enc:=nJ) rfl⟩,fun h=>vp hk9 hk4 n _ _ _ _ _ _ _ _ _ _ _ _ h⟩,fun h=>vp hk9 hk4 n _ _ _ _ _ _ _ _ _ _ _ _ h⟩)
def GL{N:Nat}{r:PR ap}{k4:(List UInt8)->Nat->Int->Int->VMask->(List Vthread)->Option (PR ap)}(hk4:∀x1 x7_n x30 x31 Zf Zl,k4 x1 x7_n x30 x31 Zf Zl=some r->jT N r (qc (aa 0 Try.f22)) (pI x1 x7_n x30 x31 Zf Zl)):∀ (n:Nat) (x1:List UInt8) (x8:Int) (x9_n:Nat) (x30:Int) (x31:Int) (x35_n:Nat) (x36:Int) (x37:Int) (b34:List (Int × Bool)) (Zf:VMask) (Zl:List Vthread) (Zq:List Vthread),cT N k4 n x1 x8 x9_n x30 x31 x35_n x36 x37 b34 Zf Zl Zq=some r->jT N r (uZ (aa 0 Try.f22)) (tN x1 x8 x9_n x30 x31 x35_n x36 x37 b34 Zf Zl Zq)
 |0,_,_,_,_,_,_,_,_,_,_,_,_,h=>by cases h
 |n+1,x1,x8,x9_n,x30,x31,x35_n,x36,x37,b34,Zf,Zl,Zq,h=>au (m:=4000) (t:=
  .cond (decide (x37 < x36))
  (
   .bnd (cf x35_n x37) fun z4=>
   .bnd (Zl[z4]?) fun z5=>
   nlR 134 (
    .bnd (ci Zf.steps z5.at_) fun z6=>
    KA (aa 0 Try.f22) (eV N (cT N k4 n) k4 n) x1 x8 x9_n x30 x31 x35_n x36 x37 z5 z6 b34 Zf Zl Zq))
  (
   GH (aa 0 Try.f22) k4 x1 x9_n x30 (w64 (x31+1)) Zf Zq)) (by kernel_rfl) (by kernel_rfl) h (⟨fun _=>fun _=>xc (fun _=>fun h=>Lc (GL hk4 n) hk4 n _ _ _ _ _ _ _ _ _ _ _ _ _ _ h),fun h=>hk4 _ _ _ _ _ _ h⟩)
def BV{N:Nat}{r:PR ap}:∀ (n:Nat) (x1:List UInt8) (x77_n:Nat) (x78:Int) (x79:Int) (Zf:VMask) (Zl:List Vthread),dc N n x1 x77_n x78 x79 Zf Zl=some r->jT N r (A1 (aa 0 Try.f22)) (Cd x1 x77_n x78 x79 Zf Zl)
 |0,_,_,_,_,_,_,h=>by cases h
 |n+1,x1,x77_n,x78,x79,Zf,Zl,h=>au (m:=4000) (t:=
  .cond (decide (x79 < x78))
  (
   .bnd (cf x77_n x79) fun z7=>
   .bnd (Zl[z7]?) fun z8=>
   .bnd (ci Zf.steps z8.at_) fun z9=>
   .cond (z9.kind==4)
   (
    .bnd (ey N x1 z8.slots Zf) fun z10=>
    w9 (.ok (true,z10.1,z10.2)))
   (
    Bn (aa 0 Try.f22) (dc N n) x1 x77_n x78 (w64 (x79+1)) Zf Zl))
  (
   w9 (.ok (false,([] :List (List UInt8)),Zf)))) (by kernel_rfl) (by kernel_rfl) h (⟨fun _=>fun _=>fun _=>⟨fun _=>aE (enc:=nJ) rfl,fun h=>(BV n) _ _ _ _ _ _ h⟩,aE (enc:=nJ) rfl⟩)
def EU{N:Nat}{r:PR ap}:∀ (n:Nat) (x1:List UInt8) (x7_n:Nat) (x30:Int) (x31:Int) (Zf:VMask) (Zl:List Vthread),cW N n x1 x7_n x30 x31 Zf Zl=some r->jT N r (qc (aa 0 Try.f22)) (pI x1 x7_n x30 x31 Zf Zl)
 |0,_,_,_,_,_,_,h=>by cases h
 |n+1,x1,x7_n,x30,x31,Zf,Zl,h=>au (m:=4000) (t:=
  .cond (decide (x31 < x30))
  (
   ED (aa 0 Try.f22) (cT N (cW N n) n) x1 x31 0 x30 x31 x7_n (x7_n:Int) 0 ([] :List (Int × Bool)) Zf Zl ([] :List Vthread))
  (
   Bn (aa 0 Try.f22) (dc N n) x1 x7_n (x7_n:Int) 0 Zf Zl)) (by kernel_rfl) (by kernel_rfl) h (⟨fun h=>GL (EU n) n _ _ _ _ _ _ _ _ _ _ _ _ h,fun h=>BV n _ _ _ _ _ _ h⟩)
def Pu{N:Nat}{r:PR ap}(x1:List UInt8)(y0:VMask)(h:eI N x1 y0=some r):jT N r (Ob (aa 0 Try.f22)) (OV x1 y0):=
 au (m:=4000) (t:=
 .bnd (jl N ([(-1)] :List Int) (w64 ((w64 (2 * y0.Groups))+2))) fun z1=>
 .bnd (eJ N ({ at_:=0,slots:=z1 }:Vthread) 0 y0 ([] :List (Int × Bool))) fun z2=>
 .sm z2 (fun z3=>
  GH (aa 0 Try.f22) (cW N N) x1 z3.1 (x1.length:Int) 0 z3.2.1 z3.2.2.2) (fun vz2=>
  w9 (.pan vz2))) (by kernel_rfl) (by kernel_rfl) h (fun _=>fun _=>⟨fun _=>fun h=>EU N _ _ _ _ _ _ h,fun _=>aE (enc:=nJ) rfl⟩)
def S8(x1:List UInt8)(y0:VMask):List (TV EE.T):=[.a (.box 100000 0),.a (.d .str x1)]
def w3(x1:List UInt8)(y0:VMask):List (Nat × TB EE.T):=[(100000,.cs (cL EE (.nam 8) y0))]
def rY{N:Nat}(x1:List UInt8)(y0:VMask){r:PR ap}(h:eI N x1 y0=some r)(I:Rn)(hi:Inj I (w3 x1 y0)):aI Try.prog 22 ((S8 x1 y0).map (TV.to EE.toEnc I)) (hTo EE.toEnc I (w3 x1 y0)) (fun out H=>match r with|.ok z=>out=.ret ((mg z).to EE.toEnc I)/\H=hTo EE.toEnc I (Ji 100000 z)|.pan v=>out=.pan v):=
 (dI (aa 0 Try.f22) 99 mixed (QA N) Try.func22 (by kernel_rfl) rfl rfl rfl rfl (Pu x1 y0 h) I hi).mono fun out H h=>by cases r with|ok z=>exact cH.retH rfl rfl h|pan v=>exact cH.pan h
def rx:Value->Option (Int × Int)
 |.iface t (.agg ⟨[.int .i64 e,.int .i64 a]⟩)=>if t=28 then some (e,a) else none
 |_=>none
def C1{v:Value}{p:Int × Int}(h:rx v=some p):v=faultV p.1 p.2:=by
 unfold rx at h;split at h
 ·split at h
  ·rename_i e;cases h;rw[e];rfl
  ·cases h
 ·cases h
def sC(N:Nat)(m:List UInt8):Option (Except (Int × Int) VMask):=
 if 60 < m.length then some (.error (2,0)) else
 match AW N m with
 |none=>none
 |some (.pan v)=>(rx v).map .error
 |some (.ok (_,_,at_,gr,k,l))=>if at_ < (m.length:Int) then some (.error (1,at_)) else(lg 32 k l [doneS]).map fun l'=>.ok ⟨gr,l'⟩
def KO{N:Nat}{m:List UInt8}{p:Int × Int}(h:sC N m=some (.error p))(w:World):Calls Try.prog 21 #[.string (mkB m)] w fun x w'=>x=.returned (.tuple #[.pointer none,.agg #[.int .i64 p.1,.int .i64 p.2]])/\Below w.heap.size w w':=by
 unfold sC at h;split at h
 ·rename_i hm;cases h;exact C2 m hm w
 ·rename_i hm;split at h
  ·cases h
  ·rename_i v hc;obtain⟨q,hq,e⟩:=Z4.1 h;cases e;have:=C1 hq;subst this;exact Ee m (by omega) _ _ hc w
  ·rename_i hc;split at h
   ·rename_i hat;cases h;exact CN m (by omega) hc hat w
   ·obtain⟨q,hq,e⟩:=Z4.1 h;cases e
def Gu{N:Nat}{m:List UInt8}{mk:VMask}(h:sC N m=some (.ok mk))(w:World):Calls Try.prog 21 #[.string (mkB m)] w fun x w'=>∃ (X':GW) (km:Nat),x=.returned (.tuple #[.pointer (some ⟨km,0,none⟩),.agg #[.int .i64 0,.int .i64 0]])/\X'.w=w'/\Ext (fun b=>b < w.heap.size) ⟨w,fun _=>none⟩ X'/\SimE (fun b=>b < w.heap.size) X' ⟨1,[],[(km,cells EE.toEnc (.nam 8) mk)],[]⟩ #[undef] :=by
 unfold sC at h;split at h
 ·cases h
 ·rename_i hm;split at h
  ·cases h
  ·obtain⟨q,hq,e⟩:=Z4.1 h;cases e
  ·rename_i hc;split at h
   ·cases h
   ·rename_i hat;obtain⟨l',hv,e⟩:=Z4.1 h;cases e;refine HQ m (by omega) hc hat hv ?_ w;unfold lg at hv;split at hv
    ·cases hv;simp
    ·cases hv
set_option maxRecDepth 100000 in
set_option maxHeartbeats 4000000 in
def LM{N:Nat}{m:List UInt8}{p:Int × Int}(h:sC N m=some (.error p))(hp:p.1≠0)(text:List UInt8)(w:World):Calls Try.prog 9 #[.string (mkB m),.string (mkB text)] w fun x w'=>x=.returned (.tuple #[.bool false,.slice none 0 0,.int .i64 p.1])/\Below w.heap.size w w':=by
 have hc:=KO h w;obtain⟨e,a⟩:=p;dsimp only at hp hc ⊢;have hne:(e==0)=false:=by simpa using hp
 go_enter Try.func9,Try.ntmps9
 go_wp2_with (go_at_call 21;refine hc.mono ?_)
 rintro x W1 ⟨rfl,b1⟩
 go_wp2
 go_region
 go_wp2
 simp[bodyPost,Leaves,settle,results,Try.results9,go_sem];exact b1.trans (((Below.refl _ W1).alloc (ZN _) _).drew.mono b1.size)
set_option maxRecDepth 100000 in
set_option maxHeartbeats 4000000 in
def HV{N:Nat}{m:List UInt8}{mk:VMask}(h:sC N m=some (.ok mk))(text:List UInt8)(ht:2000 < text.length)(w:World):Calls Try.prog 9 #[.string (mkB m),.string (mkB text)] w fun x w'=>x=.returned (.tuple #[.bool false,.slice none 0 0,.int .i64 2])/\Below w.heap.size w w':=by
 have hc:=Gu h w;have hsize:= @lU
 go_enter Try.func9,Try.ntmps9
 go_wp2_with (go_at_call 21;refine hc.mono ?_)
 rintro x w' ⟨X1,km,hx,hw,hx1,hs⟩;subst hw hx;have hz:=iL (B:=w.heap.size) hx1 fun b hb=>hb
 go_wp2
 simp[bodyPost,Leaves,settle,results,Try.results9,go_sem];exact hz.trans (((Below.refl _ X1.w).alloc (ZN _) _).mono hz.size)
def Lj{X:GW}(o:Obj):New X ⟨X.w.alloc o,X.g⟩:=by have h:=(Below.refl X.w.heap.size X.w).alloc (ZN _) o;exact⟨h.os,h.tape,h.output,h.size,fun b hb=>⟨h.block b hb,rfl⟩⟩
def Ya{N:Nat}{text:List UInt8}{mk:VMask}{b:Bool}{ls:List (List UInt8)}{mk2:VMask}(h:eI N text mk=some (.ok (b,ls,mk2))){F:Nat->Prop}{X:GW}{n:Nat}{t:List (Nat × AV)}{tm:Array Value}{km:Nat}(hs:SimE F X ⟨n,t,[(km,cells EE.toEnc (.nam 8) mk)],[]⟩ tm):
  Calls Try.prog 22 #[.pointer (some ⟨km,0,none⟩),.string (mkB text)] X.w fun x w'=>∃ (X':GW) (lv:Value),x=.returned (.tuple #[.bool b,lv])/\X'.w=w'/\Ext F X X'/\Rel X' (.sl false 1 (ls.map zz)) lv/\(∀q n,X'.g q=some n->q < X'.w.heap.size):=by
 have hi:Inj (⟨fun _=>⟨km,false,[]⟩⟩:Rn) (w3 text mk):=by intro p hp q hq;simp only[w3,List.mem_singleton] at hp hq;subst hp hq;exact⟨fun _ _ _=>rfl,fun _=>rfl⟩
 have hc:=rY text mk h ⟨fun _=>⟨km,false,[]⟩⟩ hi;refine(hc.2 F X #[.pointer (some ⟨km,0,none⟩),.string (mkB text)] (hs.args rfl fun i u hu=> ?_)).mono ?_
 ·match i,hu with
  |0,hu=>cases hu;exact⟨.v _,rfl⟩
  |1,hu=>cases hu;exact⟨.v _,rfl⟩
  |n+2,hu=>cases hu
 ·rintro x w' ⟨X',out,H',rfl,⟨rfl,rfl⟩,⟨v,rfl,hs'⟩,hx⟩;have h1:Rel X' (.tu [.v (.bool b),.sl false 1 (ls.map zz)]) (#[v].getD 0 undef):=hs'.slot 0 _ iM;have hr:Rel X' (.tu [.v (.bool b),.sl false 1 (ls.map zz)]) v:=by simpa using h1
  clear h1;cases hr with
  |tu _ xs hl hr=>obtain⟨a0,a1,rfl⟩:=CM (by simpa using hl.symm:xs.size=2);have e0:=cE (hr 0 _ _ rfl rfl);subst e0;exact⟨X',a1,rfl,rfl,hx,hr 1 _ _ rfl rfl,hs'.gb⟩
set_option maxRecDepth 100000 in
set_option maxHeartbeats 4000000 in
def OF{N:Nat}{m:List UInt8}{mk:VMask}(h:sC N m=some (.ok mk))(text:List UInt8)(ht:text.length<=2000){b:Bool}{ls:List (List UInt8)}{mk2:VMask}(hf:eI N text mk=some (.ok (b,ls,mk2)))(w:World):Calls Try.prog 9 #[.string (mkB m),.string (mkB text)] w fun x w'=>∃ (X':GW) (lv:Value),x=.returned (.tuple #[.bool b,lv,.int .i64 0])/\X'.w=w'/\Ext (fun b=>b < w.heap.size) ⟨w,fun _=>none⟩ X'/\Rel X' (.sl false 1 (ls.map zz)) lv/\(∀q n,X'.g q=some n->q < X'.w.heap.size):=by
 have hc:=Gu h w;have hsize:= @lU
 go_enter Try.func9,Try.ntmps9
 go_wp2_with (go_at_call 21;refine hc.mono ?_)
 rintro x w' ⟨X1,km,hx,hw,hx1,hs⟩;subst hw hx;have hn:=Lj (X:=X1) (.cells #[.int .i64 0,.int .i64 0] 28);have hg2:∀q n,X1.g q=some n->q < (X1.w.alloc (.cells #[.int .i64 0,.int .i64 0] 28)).heap.size:=fun q n hq=>aaj (hs.gb q n hq) hn.size;have hfw:=Ya hf (hs.new hn hg2);have hx2:=hx1.trans (hn.ext hs.gb hs.fb)
 go_wp2_with (go_at_call 22;refine hfw.mono ?_)
 rintro x w' ⟨X2,lv,hx,hw,hx3,hr,hgb⟩;subst hw hx
 go_wp2
 simp[bodyPost,Leaves,settle,results,Try.results9,go_sem];exact⟨X2,rfl,hx2.trans hx3,hr,hgb⟩
def fO(N:Nat)(m text:List UInt8):Option (Bool × List (List UInt8) × Int):=match sC N m with
 |none=>none
 |some (.error p)=>if p.1=0 then none else some (false,[],p.1)
 |some (.ok mk)=>if 2000 < text.length then some (false,[],2) else match eI N text mk with
  |some (.ok (b,ls,_))=>some (b,ls,0)
  |_=>none
def Dh(r:Bool × List (List UInt8) × Int):TV EE.T:=.tu [.a (.d .bool r.1),.a (.d (.sl .str) r.2.1),.a (.d (.int .i64) r.2.2)]
def Hi{X:GW}{b:Bool}{u:AV}{v:Value}{n:Int}(h:Rel X u v):Rel X (.tu [.v (.bool b),u,.v (.int .i64 n)]) (.tuple #[.bool b,v,.int .i64 n]):=by
 refine .tu _ _ rfl ?_;intro i u x hu hx
 match i,hu,hx with
 |0,hu,hx=>simp at hu hx;subst hu hx;exact .v _
 |1,hu,hx=>simp at hu hx;subst hu hx;exact h
 |2,hu,hx=>simp at hu hx;subst hu hx;exact .v _
def SB{N:Nat}(m text:List UInt8){r:Bool × List (List UInt8) × Int}(h:fO N m text=some r):aI Try.prog 9 [.v (.string (mkB m)),.v (.string (mkB text))] [] (fun out H=>out=.ret (.tu [.v (.bool r.1),.sl false 1 (r.2.1.map zz),.v (.int .i64 r.2.2)])/\H=[]):=by
 refine yS ⟨_,Try.func9,by kernel_rfl,rfl⟩ rfl fun X vs hX hv hr=> ?_;have e0:=cE (hr 0 _ rfl);have e1:=cE (hr 1 _ rfl);rw[Hg hv,e0,e1]
 have hnil:∀ {n:Int} {w':World} {X:GW},Below X.w.heap.size X.w w'->(∀b n,X.g b=some n->b < X.w.heap.size)->∃X' r,X'.w=w'/\Ending.returned (.tuple #[.bool false,.slice none 0 0,.int .i64 n])=.returned r/\Rel X' (.tu [.v (.bool false),.sl false 1 (([] :List (List UInt8)).map zz),.v (.int .i64 n)]) r/\Below X.w.heap.size X.w w'/\(∀b n,X'.g b=some n->b < w'.heap.size)/\∀b,b < X.w.heap.size->X'.g b=X.g b:=fun {n w' X} hb hX=>⟨⟨w',X.g⟩,_,rfl,rfl,Hi (.nil false 1),hb,fun b n hq=>aaj (hX b n hq) hb.size,fun b _=>rfl⟩
 unfold fO at h;split at h
 ·cases h
 ·rename_i p hc;split at h
  ·cases h
  ·rename_i hp;cases h;refine(LM hc hp text X.w).mono ?_;rintro e w' ⟨rfl,hb⟩;exact hnil hb hX
 ·rename_i mk hc;split at h
  ·rename_i ht;cases h;refine(HV hc text ht X.w).mono ?_;rintro e w' ⟨rfl,hb⟩;exact hnil hb hX
  ·rename_i ht;split at h
   ·rename_i b ls mk2 hf;cases h;refine(OF hc text (by omega) hf X.w).mono ?_;rintro e w' ⟨X',lv,rfl,rfl,hx,hrl,hgb⟩;have hb:=iL (B:=X.w.heap.size) hx fun b hb=>hb;refine⟨⟨X'.w,fun q=>match X.g q with|some n=>some n|none=>X'.g q⟩,_,rfl,rfl,Hi (hrl.mono fun q n hq=>⟨n,ZN _,?_,fun j _=>rfl⟩),hb,fun q n hq=> ?_,fun q hq=> ?_⟩
    ·show(match X.g q with|some n=>some n|none=>X'.g q)=some n;cases hg:X.g q with
     |none=>exact hq
     |some k=>have h1:=(hx.frame q (hX q k hg)).2;rw[hq] at h1;cases h1
    ·have hq':(match X.g q with|some n=>some n|none=>X'.g q)=some n:=hq;cases hg:X.g q with
     |none=>rw[hg] at hq';exact hgb q n hq'
     |some k=>exact aaj (hX q k hg) hb.size
    ·show(match X.g q with|some n=>some n|none=>X'.g q)=X.g q;cases hg:X.g q with
     |none=>exact(hx.frame q hq).2
     |some k=>rfl
   ·cases h
def lC(N:Nat):List (TV EE.T)->PV EE.T
 | [u0,u1] =>match nr .str u0,nr .str u1 with
   |some x0,some x1=>.opt (fO N x0 x1) Dh
   |_,_=>.bad
 |_=>.bad
def pN(N:Nat)(us:List (TV EE.T)):(lC N us).ok fun u=>∀I,aI Try.prog 9 (us.map (TV.to EE.toEnc I)) [] (fun out H=>out=.ret (u.to EE.toEnc I)/\H=[]):=by
 unfold lC;split
 ·split
  ·rename_i u0 u1 x0 x1 h0 h1;intro z hz I;refine gz (us':=([.a (.d .str x0),.a (.d .str x1)] :List (TV EE.T))) ⟨fB h0 I,fB h1 I,trivial⟩ ?_;exact SB x0 x1 hz
  ·trivial
 ·trivial
set_option maxRecDepth 1000000
variable {MM:Nat}
def ixn{α:Type}(l:List α)(i:Nat):ci l (i:Int)=l[i]? :=by unfold ci;rw[ZI (by omega),abN]
def kX{z:Int}(h1: -9223372036854775808<=z)(h2:z<=9223372036854775807):w64 z=z:=by unfold w64;rw[IntKind.wrap_i64];omega
def f9{i:Nat}(h:i<=10000000):w64 ((i:Int)+1)=((i+1:Nat):Int):=by rw[kX (by omega) (by omega)];omega
def flt(q:Int × Int):Value:=faultV q.1 q.2
def bQ(m:List UInt8)(c:UInt8)(i:Nat):Bool:=match m[i]? with
 |some b=>b2i b==b2i c
 |none=>false
def kI(b:Bool)(i:Nat):Nat:=bif b then i+1 else i
def uv(N:Nat){m:List UInt8}{i:Nat}{b:UInt8}(h:m[i]? =some b)(g:Int)(n:Nat)(l:List Vstep):aT N m i g n l=some (.ok (b,true,m,(i:Int),g,n,l)):=by have hl:=(ZD.1 h).1;unfold aT;rw[Z0 (by omega),ZG,ixn,h,ZC]
def qK(N:Nat){m:List UInt8}{i:Nat}(h:m[i]? =none)(g:Int)(n:Nat)(l:List Vstep):aT N m i g n l=some (.ok (0,false,m,(i:Int),g,n,l)):=by have hl:=aak.1 h;unfold aT;rw[Z1 (by omega),ZF]
def vk(N:Nat)(c:UInt8)(m:List UInt8){i:Nat}(hi:i<=1000000)(g:Int)(n:Nat)(l:List Vstep):bj N c m i g n l=some (.ok (bQ m c i,m,((kI (bQ m c i) i:Nat):Int),g,n,l)):=by
 unfold bj bQ;cases h:m[i]? with
 |none=>rw[qK N h,ZC];rfl
 |some b=>
  rw[uv N h,ZC];dsimp only;cases hb:(b2i b==b2i c) with
  |true=>rw[ZG,ZG,f9 (by omega)];rfl
  |false=>rw[ZG,ZF];rfl
def kq(N:Nat)(x:Vstep)(m:List UInt8)(at_ g:Int)(l:List Vstep)(h:l.length<=1000000):aq N x m at_ g l.length l=some (.ok ((l.length:Int),m,at_,g,(l++ [x]).length,l++ [x])):=by
 unfold aq;have hv:lg 32 l.length l [x] =some (l++ [x]):=by unfold lg;rw[ZI ⟨rfl,by simp,by simp;omega⟩]
 rw[hv,ZC];have:w64 (((l++ [x]).length:Int) - 1)=(l.length:Int):=by rw[kX (by simp only[List.length_append,List.length_singleton];omega) (by simp only[List.length_append,List.length_singleton];omega)];simp
 rw[this]
def F8(N:Nat)(s:List UInt8)(b:UInt8):∃z,da N s b=some z/\decide (z>=0)=s.contains b:=by
 refine⟨Lib.indexByte s b,rfl,?_⟩
 induction s with
 |nil=>rfl
 |cons c r ih=>
  have hg:=Lib.indexByte_ge r b;rw[Lib.indexByte,List.contains_cons];cases hc:(c==b) with
  |true=>
   have:(b==c)=true:=by rw[aaR] at hc ⊢;exact hc.symm
   rw[this];rfl
  |false=>
   have:(b==c)=false:=by rw[Z9] at hc ⊢;exact fun e=>hc e.symm
   rw[this,abq,<- ih];cases hi:(Lib.indexByte r b== -1) with
   |true=>have:Lib.indexByte r b= -1:=aaR.1 hi;simp[this]
   |false=>have:Lib.indexByte r b≠ -1:=Z9.1 hi;simp;omega
def iR(m:List UInt8)(i:Nat):Except (Int × Int) (UInt8 × Nat):=match m[i]? with
 |none=>.error (1,(i:Int))
 |some b=>bif ([91,93,92,94,45] :List UInt8).contains b then .error (1,(i:Int)) else .ok (b,i+1)
def Hb(N:Nat)(m:List UInt8){i:Nat}(hi:i<=1000000)(g:Int)(n:Nat)(l:List Vstep):ca N m i g n l=match iR m i with
  |.error q=>some (.pan (flt q))
  |.ok (b,j)=>some (.ok (b,m,(j:Int),g,n,l)):=by
 unfold ca iR;cases h:m[i]? with
 |none=>rw[qK N h,ZC];rfl
 |some b=>
  rw[uv N h,ZC];dsimp only;obtain⟨z,h1,h2⟩:=F8 N [91,93,92,94,45] b;rw[aaE,ZF,h1,ZC,h2];cases ([91,93,92,94,45] :List UInt8).contains b with
  |true=>rfl
  |false=>rw[ZF,ZF,f9 (by omega)]
def lO{m:List UInt8}{i:Nat}{b:UInt8}{j:Nat}(h:iR m i=.ok (b,j)):j=i+1/\i < m.length:=by
 unfold iR at h;split at h
 ·cases h
 ·rename_i c hc;have:=(ZD.1 hc).1;cases hb:([91,93,92,94,45] :List UInt8).contains c with
  |true=>rw[hb,ZG] at h;cases h
  |false=>rw[hb,ZF] at h;cases h;exact⟨rfl,this⟩
def ee{m:List UInt8}{c:UInt8}{i:Nat}(h:bQ m c i=true):i < m.length:=by
 unfold bQ at h;split at h
 ·rename_i b hb;exact(ZD.1 hb).1
 ·cases h
def mt(S:List Bool)(a:Nat):Nat->List Bool
 |0=>S
 |c+1=>mt (S.set a true) (a+1) c
def jj:∀ (c a:Nat) (S:List Bool),(mt S a c).length=S.length
 |0,a,S=>rfl
 |c+1,a,S=>by rw[mt,jj c];simp
def jO(c:UInt8):b2i c=(c.toNat:Int):=rfl
def Iu(N:Nat){k4:Bool->Bool->(List Bool)->(List UInt8)->Int->Int->Nat->(List Vstep)->Option (PR ak)}(x3:Bool)(x7:UInt8)(m:List UInt8)(at_ g:Int)(n0:Nat)(l:List Vstep):∀ (c n x:Nat) (S:List Bool),S.length=256->x+c=x7.toNat+1->c+1<=n->bN N k4 n x3 x7 (x:Int) S m at_ g n0 l=k4 x3 false (mt S x c) m at_ g n0 l
 |c,0,x,S,h1,h2,h3=>by omega
 |0,n+1,x,S,h1,h2,h3=>by have hb:=x7.toNat_lt;rw[bN,jO,kX (by omega) (by omega),Z1 (by omega),ZF];rfl
 |c+1,n+1,x,S,h1,h2,h3=>by
  have hb:=x7.toNat_lt;have e1:cf 256 (x:Int)=some x:=by unfold cf;rw[ZI (by omega)];simp
  have e2:ja S (0+x) true=some (S.set x true):=by unfold ja;rw[Z6,ZI (by omega)]
  rw[bN,jO,kX (by omega) (by omega),Z0 (by omega),ZG,e1,ZC,e2,ZC,f9 (by omega),Iu N x3 x7 m at_ g n0 l c n (x+1) _ (by simpa using h1) (by omega) (by omega)];rfl
def sb(m:List UInt8):Nat->Bool->Nat->List Bool->Except (Int × Int) (List Bool × Nat)
 |0,_,i,_=>.error (0,(i:Int))
 |f+1,first,i,S=>bif !first && bQ m 93 i then .ok (S,i+1) else
  match iR m i with
  |.error q=>.error q
  |.ok (a,i1)=>bif bQ m 45 i1 then
    match iR m (i1+1) with
    |.error q=>.error q
    |.ok (b,i3)=>bif decide ((b2i b) < (b2i a)) then .error (3,((i1+1:Nat):Int)) else sb m f false i3 (mt S a.toNat (b.toNat+1 - a.toNat))
   else sb m f false i1 (mt S a.toNat 1)
def QW(N:Nat)(x3:Bool)(m:List UInt8)(at_ g:Int)(n0:Nat)(l:List Vstep)(S0:List Bool)(h0:S0.length=256):∀ (c n i:Nat) (S:List Bool),i+c=256->c+1<=n->S=(S0.take i).map (fun v=> !(v==x3))++S0.drop i->ce N n x3 (i:Int) S m at_ g n0 l=some (.ok (some (S0.map fun v=> !(v==x3)),m,at_,g,n0,l))
 |c,0,i,S,h1,h2,h3=>by omega
 |0,n+1,i,S,h1,h2,h3=>by
  have hi:i=256:=by omega
  subst hi;have hS:S=S0.map fun v=> !(v==x3):=by rw[h3,aan (by omega),aaO (by omega),aax]
  rw[ce,Z1 (by omega),ZF];unfold m9;rw[hS,ZI (by simp[h0]),ZC]
 |c+1,n+1,i,S,h1,h2,h3=>by
  have hi:i < S0.length:=by omega
  have hl:S.length=256:=by rw[h3];simp;omega
  have e1:cf 256 (i:Int)=some i:=by unfold cf;rw[ZI (by omega)];simp
  have e2:S[0+i]? =some S0[i] :=by
   have e0:((S0.take i).map fun v=> !(v==x3)).length=i:=by rw[Z3,aa2];omega
   rw[h3,Z6,ZJ (by omega),e0,aau,aaq,aa6,ZE hi]
  have e3:ja S (0+i) (!(S0[i] ==x3))=some (S.set i (!(S0[i] ==x3))):=by unfold ja;rw[Z6,ZI (by omega)]
  rw[ce,Z0 (by omega),ZG,e1,ZC,e2,ZC,ZC,e3,ZC,f9 (by omega)];refine QW N x3 m at_ g n0 l S0 h0 c n (i+1) _ (by omega) (by omega) ?_;have e0:((S0.take i).map fun v=> !(v==x3)).length=i:=by rw[Z3,aa2];omega
  rw[h3,List.set_append_right _ _ (by omega),e0,aau,aaw hi,abL,List.take_add_one,ZE hi];show _=((S0.take i++ [S0[i]]).map _)++_;rw[aah,aac];rfl
def zG{m:List UInt8}:∀ (f:Nat) (first:Bool) (i:Nat) (S:List Bool) {T:List Bool} {j:Nat},sb m f first i S=.ok (T,j)->S.length=256->i<=m.length->T.length=256/\i < j/\j<=m.length
 |0,first,i,S,T,j,h,hS,hi=>by cases h
 |f+1,first,i,S,T,j,h,hS,hi=>by
  rw[sb] at h;cases hb:(!first && bQ m 93 i) with
  |true=>rw[hb,ZG] at h;cases h;have:=ee (Bool.and_eq_true_iff.1 hb).2;exact⟨hS,by omega,by omega⟩
  |false=>
   rw[hb,ZF] at h;split at h
   ·cases h
   ·rename_i a i1 hp;obtain⟨e1,e2⟩:=lO hp;cases hd:bQ m 45 i1 with
    |false=>rw[hd,ZF] at h;have:=zG f false i1 _ h (by rw[jj];exact hS) (by omega);omega
    |true=>
     rw[hd,ZG] at h;split at h
     ·cases h
     ·rename_i b i3 hp2;obtain⟨e3,e4⟩:=lO hp2;cases hl:decide ((b2i b) < (b2i a)) with
      |true=>rw[hl,ZG] at h;cases h
      |false=>rw[hl,ZF] at h;have:=zG f false i3 _ h (by rw[jj];exact hS) (by omega);omega
def Cq{m:List UInt8}(hm:m.length<=60)(x3:Bool)(g:Int)(n0:Nat)(l:List Vstep):∀ (f n:Nat) (first:Bool) (i:Nat) (S:List Bool),i<=m.length->m.length+1<=f+i->f+400<=n->S.length=256->bK (MM+3000) n x3 first S m i g n0 l=match sb m f first i S with
  |.error q=>some (.pan (flt q))
  |.ok (T,j)=>some (.ok (some (T.map fun v=> !(v==x3)),m,(j:Int),g,n0,l))
 |0,n,first,i,S,h1,h2,h3,h4=>by omega
 |f+1,n,first,i,S,h1,h2,h3,h4=>by
  obtain⟨n,rfl⟩:∃k,n=k+1:=⟨n - 1,by omega⟩
  have hR:cY (MM+3000) (bK (MM+3000) n) n x3 S m (i:Int) g n0 l=match(match iR m i with
    |.error q=>.error q
    |.ok (a,i1)=>bif bQ m 45 i1 then
      match iR m (i1+1) with
      |.error q=>.error q
      |.ok (b,i3)=>bif decide ((b2i b) < (b2i a)) then .error (3,((i1+1:Nat):Int)) else sb m f false i3 (mt S a.toNat (b.toNat+1 - a.toNat))
     else sb m f false i1 (mt S a.toNat 1):Except (Int × Int) (List Bool × Nat)) with
    |.error q=>some (.pan (flt q))
    |.ok (T,j)=>some (.ok (some (T.map fun v=> !(v==x3)),m,(j:Int),g,n0,l)):=by
   unfold cY;rw[Hb _ _ (by omega)];cases hp:iR m i with
   |error q=>rfl
   |ok p=>
    obtain⟨a,i1⟩:=p;obtain⟨e1,e2⟩:=lO hp;have ha:=a.toNat_lt;rw[ZC];dsimp only;rw[vk _ _ _ (by omega),ZC];dsimp only;cases hd:bQ m 45 i1 with
    |false=>rw[ZF,ZF];show bN (MM+3000) _ n x3 a (w64 (b2i a)) S m ((i1:Nat):Int) g n0 l=_;rw[jO,kX (by omega) (by omega),Iu (MM+3000) x3 a m _ g n0 l 1 n a.toNat S h4 rfl (by omega)];exact Cq hm x3 g n0 l f n false i1 _ (by omega) (by omega) (by omega) (by rw[jj];exact h4)
    |true=>
     rw[ZG,ZG];show((ca (MM+3000) m ((i1+1:Nat):Int) g n0 l).bind _)=_;rw[Hb _ _ (by omega)];cases hp2:iR m (i1+1) with
     |error q=>rfl
     |ok p2=>
      obtain⟨b,i3⟩:=p2;obtain⟨e3,e4⟩:=lO hp2;have hb:=b.toNat_lt;rw[ZC];dsimp only;by_cases hl:(b2i b) < (b2i a)
      ·rw[Z0 hl,ZG,ZG];rfl
      ·rw[Z1 hl,ZF,ZF];rw[jO,jO] at hl;show bN (MM+3000) _ n x3 b (w64 (b2i a)) S m ((i3:Nat):Int) g n0 l=_;rw[jO,kX (by omega) (by omega),Iu (MM+3000) x3 b m _ g n0 l (b.toNat+1 - a.toNat) n a.toNat S h4 (by omega) (by omega)];exact Cq hm x3 g n0 l f n false i3 _ (by omega) (by omega) (by omega) (by rw[jj];exact h4)
  rw[bK,sb];cases first with
  |true=>rw[ZG,hR];rfl
  |false=>
   rw[ZF,vk _ _ _ (by omega),ZC];dsimp only;cases hb:bQ m 93 i with
   |false=>exact hR
   |true=>show ce (MM+3000) n x3 ((0:Nat):Int) S m ((i+1:Nat):Int) g n0 l=_;rw[QW (MM+3000) x3 m _ g n0 l S h4 256 n 0 S rfl (by omega) (by simp)];rfl
def Ao(m:List UInt8)(i:Nat):Except (Int × Int) (List Bool × Nat):=match sb m (m.length+1) true (kI (bQ m 94 i) i) (List.replicate 256 false) with
 |.error q=>.error q
 |.ok (T,j)=>.ok (T.map fun v=> !(v==bQ m 94 i),j)
def Wt{m:List UInt8}(hm:m.length<=60){i:Nat}(hi:i<=m.length)(g:Int)(n0:Nat)(l:List Vstep):dD (MM+3000) m i g n0 l=match Ao m i with
  |.error q=>some (.pan (flt q))
  |.ok (S,j)=>some (.ok (some S,m,(j:Int),g,n0,l)):=by
 unfold dD Ao;rw[vk _ _ _ (by omega),ZC];dsimp only;have hs:kI (bQ m 94 i) i<=m.length/\i<=kI (bQ m 94 i) i:=by
  unfold kI;cases h:bQ m 94 i with
  |true=>have:=ee h;exact⟨by simp;omega,by simp⟩
  |false=>exact⟨hi,ZN _⟩
 have:=Cq (MM:=MM) hm (bQ m 94 i) g n0 l (m.length+1) (MM+3000) true _ (List.replicate 256 false) hs.1 (by omega) (by omega) (by simp);have e:bK (MM+3000) (MM+3000) (bQ m 94 i) true (List.replicate 256 false) m ((kI (bQ m 94 i) i:Nat):Int) g n0 l=_:=this;refine abj e ?_
 cases sb m (m.length+1) true (kI (bQ m 94 i) i) (List.replicate 256 false) with
 |error q=>rfl
 |ok p=>rfl
def So{m:List UInt8}{i:Nat}(hi:i<=m.length){S:List Bool}{j:Nat}(h:Ao m i=.ok (S,j)):S.length=256/\i < j/\j<=m.length:=by
 unfold Ao at h;split at h
 ·cases h
 ·rename_i T j' hT;cases h;have hs:kI (bQ m 94 i) i<=m.length/\i<=kI (bQ m 94 i) i:=by
   unfold kI;cases h:bQ m 94 i with
   |true=>have:=ee h;exact⟨by simp;omega,by simp⟩
   |false=>exact⟨hi,ZN _⟩
  have:=zG _ _ _ _ hT (by simp) hs.1;exact⟨by simpa using this.1,by omega,by omega⟩
set_option maxRecDepth 1000000
variable {MM:Nat}
def qS(c:UInt8):List Bool:=(List.replicate 256 false).set c.toNat true
def uT(c:UInt8):(qS c).length=256:=by simp[qS]
def PO(N:Nat)(c:UInt8):iE N c=some (some (qS c)):=by
 have h1:iE N c=(cf 256 (b2i c)).bind fun z1=>(ja (List.replicate 256 false) (0+z1) true).bind fun z2=>(m9 256 z2).bind fun z3=>some (some z3):=by kernel_rfl
 have hc:=c.toNat_lt;have e1:cf 256 (b2i c)=some c.toNat:=by unfold cf;rw[jO,ZI (by omega)];simp
 have e2:ja (List.replicate 256 false) (0+c.toNat) true=some (qS c):=by unfold ja;rw[Z6,ZI (by simp;omega)];rfl
 have e3:m9 256 (qS c)=some (qS c):=by unfold m9;rw[ZI (uT c).symm]
 rw[h1,e1,ZC,e2,ZC,e3,ZC]
def ti(x:UInt8):Bool:=
 bif decide ((b2i x)>=(b2i 97)) then
  bif decide ((b2i x)<=(b2i 122)) then true
  else bif decide ((b2i x)>=(b2i 65)) then
   bif decide ((b2i x)<=(b2i 90)) then true else bif decide ((b2i x)>=(b2i 48)) then decide ((b2i x)<=(b2i 57)) else false
   else bif decide ((b2i x)>=(b2i 48)) then decide ((b2i x)<=(b2i 57)) else false
 else bif decide ((b2i x)>=(b2i 65)) then
   bif decide ((b2i x)<=(b2i 90)) then true else bif decide ((b2i x)>=(b2i 48)) then decide ((b2i x)<=(b2i 57)) else false
   else bif decide ((b2i x)>=(b2i 48)) then decide ((b2i x)<=(b2i 57)) else false
def pr(m:List UInt8)(i:Nat):Except (Int × Int) (List Bool × Nat):=match m[i]? with
 |none=>.error (0,(i:Int))
 |some c=>bif (b2i c)==(b2i 46) then .ok (List.replicate 256 true,i+1)
  else bif (b2i c)==(b2i 92) then
   match m[i+1]? with
   |none=>.error (1,((i+1:Nat):Int))
   |some x=>bif ti x then .error (1,((i+1:Nat):Int)) else .ok (qS x,i+2)
  else bif (b2i c)==(b2i 91) then Ao m (i+1)
  else bif ([42,43,63,41,124,93] :List UInt8).contains c then .error (1,(i:Int)) else .ok (qS c,i+1)
def tkS(S:List Bool):Vstep:=⟨0,0,0,some S⟩
def WD (NR : RecC) (m : List UInt8) (at_ g : Int) (n : Nat) (l : List Vstep) : cJ NR (MM + 3000) 0 (List.replicate 256 false) m at_ g n l = (aq NR.n (tkS (List.replicate 256 true)) m at_ g n l).bind fun z16 =>
   match z16 with
   |.pan vz16=>some (.pan vz16)
   |.ok z17=>some (.ok (false,z17.2.1,z17.2.2.1,z17.2.2.2.1,z17.2.2.2.2.1,z17.2.2.2.2.2)):=by kernel_rfl
def Wi(m:List UInt8)(g:Int)(l:List Vstep):Except (Int × Int) (List Bool × Nat)->Option (PR am)
 |.error q=>some (.pan (flt q))
 |.ok (S,j)=>some (.ok (false,m,(j:Int),g,(l++ [tkS S]).length,l++ [tkS S]))
def UD{NR:RecC}(hN:NR.n=(MM+3000)){m:List UInt8}(hm:m.length<=60){i:Nat}{c:UInt8}(hc:m[i]? =some c)(h40:(b2i c==b2i 40)=false)(g:Int)(l:List Vstep)(hl:l.length<=100000):bT NR m i g l.length l=Wi m g l (pr m i):=by
 have hi:=(ZD.1 hc).1;unfold bT pr;rw[ixn,hc,ZC,hN];dsimp only;cases h46:(b2i c==b2i 46) with
 |true=>rw[ZG,ZG];show cJ NR (MM+3000) 0 (List.replicate 256 false) m (w64 ((i:Int)+1)) g l.length l=_;rw[WD,kq _ _ _ _ _ _ (by omega),f9 (by omega)];rfl
 |false=>
  rw[ZF,ZF];cases h92:(b2i c==b2i 92) with
  |true=>
   rw[ZG,ZG,f9 (by omega)];cases hx:m[i+1]? with
   |none=>rw[qK _ hx,ZC];show ar NR (MM+3000) 0 false false m ((i+1:Nat):Int) g l.length l=_;unfold ar df;rfl
   |some x=>
    rw[uv _ hx,ZC];dsimp only;have hx':=(ZD.1 hx).1;have key:∀L:Bool,ti x=L->ar NR (MM+3000) x true L m ((i+1:Nat):Int) g l.length l=Wi m g l (bif ti x then .error (1,((i+1:Nat):Int)) else .ok (qS x,i+2)):=by
     rintro L rfl;unfold ar;rw[aaE,ZF];cases ti x with
     |true=>rfl
     |false=>rw[ZF,ZF,PO,ZC,kq _ _ _ _ _ _ (by omega),f9 (by omega)];rfl
    cases e1:decide ((b2i x)>=(b2i 97))<;> cases e2:decide ((b2i x)<=(b2i 122))<;> cases e3:decide ((b2i x)>=(b2i 65))<;> cases e4:decide ((b2i x)<=(b2i 90))<;> cases e5:decide ((b2i x)>=(b2i 48))<;> simp only[cond_true,cond_false] <;> refine key _ ?_<;> simp only[ti,e1,e2,e3,e4,e5,cond_true,cond_false]
  |false=>
   rw[ZF,ZF];cases h91:(b2i c==b2i 91) with
   |true=>
    rw[ZG,ZG,f9 (by omega),Wt hm (by omega)];cases hs:Ao m (i+1) with
    |error q=>rfl
    |ok p=>obtain⟨S,j⟩:=p;rw[ZC];dsimp only;rw[kq _ _ _ _ _ _ (by omega)];rfl
   |false=>
    rw[ZF,ZF,h40,ZF];obtain⟨z,h1,h2⟩:=F8 (MM+3000) [42,43,63,41,124,93] c;rw[h1,ZC,h2];cases ([42,43,63,41,124,93] :List UInt8).contains c with
    |true=>rfl
    |false=>rw[ZF,ZF];unfold dr;rw[PO,ZC,kq _ _ _ _ _ _ (by omega),f9 (by omega)];rfl
def yI{m:List UInt8}{i:Nat}{S:List Bool}{j:Nat}(h:pr m i=.ok (S,j)):S.length=256/\i < j/\j<=m.length:=by
 unfold pr at h;split at h
 ·cases h
 ·rename_i c hc;have hi:=(ZD.1 hc).1;cases h46:(b2i c==b2i 46) with
  |true=>rw[h46,ZG] at h;cases h;exact⟨by simp,by omega,by omega⟩
  |false=>
   rw[h46,ZF] at h;cases h92:(b2i c==b2i 92) with
   |true=>
    rw[h92,ZG] at h;split at h
    ·cases h
    ·rename_i x hx;have hi2:=(ZD.1 hx).1;cases hl:ti x with
     |true=>rw[hl,ZG] at h;cases h
     |false=>rw[hl,ZF] at h;cases h;exact⟨uT _,by omega,by omega⟩
   |false=>
    rw[h92,ZF] at h;cases h91:(b2i c==b2i 91) with
    |true=>rw[h91,ZG] at h;have:=So (by omega) h;exact⟨this.1,by omega,this.2.2⟩
    |false=>
     rw[h91,ZF] at h;cases hcn:([42,43,63,41,124,93] :List UInt8).contains c with
     |true=>rw[hcn,ZG] at h;cases h
     |false=>rw[hcn,ZF] at h;cases h;exact⟨uT _,by omega,by omega⟩
inductive Nd
 |set (S:List Bool) (sg:UInt8)
 |grp (n:Nat) (M:Nd) (sg:UInt8)
 |nil
 |cons (p r:Nd)
 |alt (r M:Nd)
def sgN(sg:UInt8):Bool:=sg==42 || sg==63
def Nd.null:Nd->Bool
 |.set _ sg=>sgN sg
 |.grp _ M sg=>sgN sg || M.null
 |.nil=>true
 |.cons p r=>p.null && r.null
 |.alt r M=>r.null || M.null
def sgL(sg:UInt8):Nat:=bif sg==42 then 2 else bif sg==43 then 1 else bif sg==63 then 1 else 0
def Nd.len:Nd->Nat
 |.set _ sg=>1+sgL sg
 |.grp _ M sg=>M.len+2+sgL sg
 |.nil=>0
 |.cons p r=>p.len+r.len
 |.alt r M=>r.len+M.len+2
def fkS(a b:Nat):Vstep:=⟨1,(a:Int),(b:Int),none⟩
def jpS(a:Nat):Vstep:=⟨2,(a:Int),0,none⟩
def svS(a:Nat):Vstep:=⟨3,(a:Int),0,none⟩
def jK(b:Nat)(sg:UInt8)(body:Nat->List Vstep)(n:Nat):List Vstep:=
 bif sg==42 then fkS (b+1) (b+n+2)::(body (b+1)++ [jpS b])
 else bif sg==43 then body b++ [fkS b (b+n+1)]
 else bif sg==63 then fkS (b+1) (b+n+1)::body (b+1)
 else body b
def Nd.code:Nd->Nat->List Vstep
 |.set S sg,b=>jK b sg (fun _=>[tkS S]) 1
 |.grp n M sg,b=>jK b sg (fun b'=>svS (2 * n)::(M.code (b'+1)++ [svS (2 * n+1)])) (M.len+2)
 |.nil,b=>[]
 |.cons p r,b=>p.code b++r.code (b+p.len)
 |.alt r M,b=>fkS (b+1) (b+r.len+2)::(r.code (b+1)++jpS (b+r.len+2+M.len)::M.code (b+r.len+2))
def BS{b:Nat}{sg:UInt8}{body:Nat->List Vstep}{n:Nat}(h:∀b,(body b).length=n):(jK b sg body n).length=n+sgL sg:=by
 unfold jK sgL;cases sg==42
 ·cases sg==43
  ·cases sg==63
   ·simp[h]
   ·simp[h]
  ·simp[h]
 ·simp[h]
theorem Nd.code_len:∀ (x:Nd) (b:Nat),(x.code b).length=x.len
 |.set S sg,b=>BS fun _=>rfl
 |.grp n M sg,b=>by show(jK b sg _ (M.len+2)).length=M.len+2+sgL sg;exact BS fun b'=>by rw[abm,ZR,M.code_len];rfl
 |.nil,b=>rfl
 |.cons p r,b=>by unfold Nd.code Nd.len;rw[List.length_append,p.code_len,r.code_len]
 |.alt r M,b=>by unfold Nd.code Nd.len;rw[List.length_cons,List.length_append,List.length_cons,r.code_len,M.code_len];omega
def shS(by_:Int)(s:Vstep):Vstep:=bif s.kind==1 then⟨s.kind,w64 (s.a+by_),w64 (s.b+by_),s.set_⟩ else bif s.kind==2 then⟨s.kind,w64 (s.a+by_),s.b,s.set_⟩ else s
def Et{k a b:Nat}(h1:a+k<=1000000)(h2:b+k<=1000000):shS k (fkS a b)=fkS (a+k) (b+k):=by
 show(⟨1,w64 ((a:Int)+k),w64 ((b:Int)+k),none⟩:Vstep)=⟨1,((a+k:Nat):Int),((b+k:Nat):Int),none⟩
 rw[kX (by omega) (by omega),kX (by omega) (by omega)];simp
def Nv{k a:Nat}(h1:a+k<=1000000):shS k (jpS a)=jpS (a+k):=by
 show(⟨2,w64 ((a:Int)+k),0,none⟩:Vstep)=⟨2,((a+k:Nat):Int),0,none⟩
 rw[kX (by omega) (by omega)];simp
theorem Pe{k:Int}{a:Nat}:shS k (svS a)=svS a:=rfl
def FY{b k:Nat}{sg:UInt8}{body:Nat->List Vstep}{n:Nat}(hb:b+ (n+sgL sg)+k<=1000000)(h:∀b',b<=b'->b'+n<=b+n+sgL sg->(body b').map (shS k)=body (b'+k)):(jK b sg body n).map (shS k)=jK (b+k) sg body n:=by
 unfold jK sgL at *;cases h1:sg==42
 ·rw[h1,ZF] at hb h;cases h2:sg==43
  ·rw[h2,ZF] at hb h;cases h3:sg==63
   ·rw[h3,ZF] at hb h;simp only[cond_false];exact h b (ZN _) (by omega)
   ·rw[h3,ZG] at hb h;simp only[cond_false,cond_true,List.map_cons];rw[Et (by omega) (by omega),h (b+1) (by omega) (by omega),show b+1+k=b+k+1 by omega,show b+n+1+k=b+k+n+1 by omega]
  ·rw[h2,ZG] at hb h;simp only[cond_false,cond_true,List.map_append,List.map_cons,List.map_nil];rw[Et (by omega) (by omega),h b (ZN _) (by omega),show b+n+1+k=b+k+n+1 by omega]
 ·rw[h1,ZG] at hb h;simp only[cond_true,List.map_append,List.map_cons,List.map_nil];rw[Et (by omega) (by omega),Nv (by omega),h (b+1) (by omega) (by omega),show b+1+k=b+k+1 by omega,show b+n+2+k=b+k+n+2 by omega]
def Nd.code_sh:∀ (x:Nd) (b k:Nat),b+x.len+k<=1000000->(x.code b).map (shS k)=x.code (b+k)
 |.set S sg,b,k,hb=>FY hb fun _ _ _=>rfl
 |.grp n M sg,b,k,hb=>by unfold Nd.len at hb;refine FY (by omega) fun b' h1 h2=> ?_;simp only[List.map_cons,List.map_append,List.map_nil,Pe];rw[M.code_sh (b'+1) k (by omega),show b'+1+k=b'+k+1 by omega]
 |.nil,b,k,hb=>rfl
 |.cons p r,b,k,hb=>by unfold Nd.len at hb;unfold Nd.code;rw[aah,p.code_sh b k (by omega),r.code_sh _ k (by omega),show b+p.len+k=b+k+p.len by omega]
 |.alt r M,b,k,hb=>by unfold Nd.len at hb;unfold Nd.code;rw[aap,aah,aap,Et (by omega) (by omega),Nv (by omega),r.code_sh _ k (by omega),M.code_sh _ k (by omega),show b+1+k=b+k+1 by omega,show b+r.len+2+k=b+k+r.len+2 by omega,show b+r.len+2+M.len+k=b+k+r.len+2+M.len by omega]
def d9(m:List UInt8)(i:Nat):UInt8:=bif bQ m 42 i then 42 else bif bQ m 43 i then 43 else bif bQ m 63 i then 63 else 0
def prs(m:List UInt8):Nat->Nat->Nat->Nat->Except (Int × Int) (Nd × Nat × Nat)
 |0,_,_,_=>.error (0,0)
 |f+1,0,i,g=>match prs m f 1 i g with
  |.error q=>.error q
  |.ok (r,j,g1)=>bif bQ m 124 j then match prs m f 0 (j+1) g1 with
    |.error q=>.error q
    |.ok (M,k,g2)=>.ok (.alt r M,k,g2)
   else .ok (r,j,g1)
 |f+1,1,i,g=>match m[i]? with
  |none=>.ok (.nil,i,g)
  |some c=>bif (b2i c)==(b2i 124) then .ok (.nil,i,g) else bif (b2i c)==(b2i 41) then .ok (.nil,i,g) else match prs m f 2 i g with
   |.error q=>.error q
   |.ok (p,j,g1)=>match prs m f 1 j g1 with
    |.error q=>.error q
    |.ok (r,k,g2)=>.ok (.cons p r,k,g2)
 |f+1,_+2,i,g=>bif bQ m 40 i then
   bif g==9 then .error (2,(i:Int)) else match prs m f 0 (i+1) (g+1) with
   |.error q=>.error q
   |.ok (M,j,g1)=>bif bQ m 41 j then
     bif d9 m (j+1)==0 then .ok (.grp (g+1) M 0,j+1,g1)
     else bif M.null && !(d9 m (j+1)==63) then .error (4,((j+1:Nat):Int)) else .ok (.grp (g+1) M (d9 m (j+1)),j+2,g1)
    else .error (1,(j:Int))
  else match pr m i with
   |.error q=>.error q
   |.ok (S,j)=>bif d9 m j==0 then .ok (.set S 0,j,g) else .ok (.set S (d9 m j),j+1,g)
set_option maxRecDepth 1000000
variable {MM:Nat}
def QO(m:List UInt8)(at_ g:Int)(l L:List Vstep)(h:l.length+L.length<=1000000):cz (MM+3000) (l.length:Int) m at_ g (l++L).length (l++L)=some (.ok (L,m,at_,g,l.length,l)):=by
 have hl:(l++L).length=l.length+L.length:=ZR;unfold cz;have e1:DW (l++L).length (l.length:Int) ((l++L).length:Int)=some (l.length,(l++L).length):=by unfold DW;rw[ZI (by omega)];simp only[Int.toNat_natCast]
 rw[e1,ZC];dsimp only;unfold bP;have e2:Fa l.length ((l++L).length - l.length) (l++L)=some L:=by unfold Fa;rw[ZI (by omega),List.drop_left,aan (by omega)]
 have e3:ie 32 ([] :List Vstep) L=some L:=by unfold ie;rw[ZI (by simp only[List.length_nil];omega)];rfl
 have e4:HC (l++L).length (l++L) (l.length:Int)=some l:=by unfold HC;rw[ZI (by omega)];simp
 rw[e2,ZC,e3,ZC,ZC];dsimp only;rw[e4,ZC]
def Gf(by_:Int)(L:List Vstep)(m:List UInt8)(at_ g:Int)(hL:L.length<=100000):∀ (d i n:Nat) (l:List Vstep),i+d=L.length->d+1<=n->l.length+d<=1000000->bf (MM+3000) n by_ L (L.length:Int) (i:Int) m at_ g l.length l=some (.ok (m,at_,g,(l++ (L.drop i).map (shS by_)).length,l++ (L.drop i).map (shS by_)))
 |d,i,0,l,h1,h2,h3=>by omega
 |0,i,n+1,l,h1,h2,h3=>by rw[bf,Z1 (by omega),ZF,aaO (by omega)];simp
 |d+1,i,n+1,l,h1,h2,h3=>by
  have hi:i < L.length:=by omega
  rw[bf,Z0 (by omega),ZG,ixn,ZE hi,ZC];have key:∀s,s=shS by_ L[i] ->cn (MM+3000) (bf (MM+3000) n) n by_ L (L.length:Int) (i:Int) s m at_ g l.length l=some (.ok (m,at_,g,(l++ (L.drop i).map (shS by_)).length,l++ (L.drop i).map (shS by_))):=by
   rintro s rfl;unfold cn;rw[kq _ _ _ _ _ _ (by omega),ZC];dsimp only;rw[f9 (by omega),Gf by_ L m at_ g hL d (i+1) n _ (by omega) (by omega) (by simp only[List.length_append,List.length_singleton];omega),aaw hi,aap];simp only[List.append_assoc,List.singleton_append]
  cases h1':L[i].kind==1 with
  |true=>rw[ZG];exact key _ (by unfold shS;rw[h1',cond_true])
  |false=>
   rw[ZF];cases h2':L[i].kind==2 with
   |true=>rw[ZG];exact key _ (by unfold shS;rw[h1',cond_false,h2',cond_true])
   |false=>rw[ZF];exact key _ (by unfold shS;rw[h1',cond_false,h2',cond_false])
def NF(L:List Vstep)(m:List UInt8)(at_ g:Int)(l:List Vstep)(k was:Nat)(hk:was+k=l.length)(h:l.length+L.length<=2000):bq (MM+3000) L (was:Int) m at_ g l.length l=some (.ok (m,at_,g,(l++L.map (shS k)).length,l++L.map (shS k))):=by
 unfold bq;have e:w64 ((l.length:Int) - (was:Int))=(k:Int):=by rw[kX (by omega) (by omega)];omega
 rw[e];have:=Gf (MM:=MM) k L m at_ g (by omega) L.length 0 (MM+3000) l (by omega) (by omega) (by omega);rw[abl] at this;exact this
def CB(L:List Vstep)(m:List UInt8)(at_ g:Int)(l:List Vstep)(k was n1:Nat)(h1:n1=l.length)(hk:was+k=l.length)(h:l.length+L.length<=2000):bq (MM+3000) L (was:Int) m at_ g n1 l=some (.ok (m,at_,g,(l++L.map (shS k)).length,l++L.map (shS k))):=by subst h1;exact NF L m at_ g l k was hk h
def mQ(l r:List Vstep)(x:Vstep):(l++x::r)[l.length]? =some x:=by rw[ZJ (ZN _),aau];rfl
def mR(l r:List Vstep)(x y:Vstep):(l++x::r).set l.length y=l++y::r:=by rw[List.set_append_right _ _ (ZN _),aau];rfl
def dT{a n:Nat}(h:a < n):cf n (a:Int)=some a:=by unfold cf;rw[ZI (by omega)];simp
def SG{NR:RecC}(hN:NR.n=(MM+3000))(m:List UInt8){j:Nat}(hj:j<=100000)(g:Int)(l:List Vstep)(n0:Nat){sg:UInt8}(hsg:sg=42\/sg=43\/sg=63)(body:Nat->List Vstep){n:Nat}(hn:∀b,(body b).length=n)(hs:∀k,k<=1->(body l.length).map (shS ((k:Nat):Int))=body (l.length+k))(hl:l.length+n<=1000):
  bo NR n0 (l.length:Int) sg m (j:Int) g (l++body l.length).length (l++body l.length)=some (.ok (sgN sg,m,((j+1:Nat):Int),g,(l++jK l.length sg body n).length,l++jK l.length sg body n)):=by
 unfold bo;rw[hN,QO _ _ _ _ _ (by rw[hn];omega),ZC,f9 (by omega)];dsimp only;rcases hsg with rfl|rfl|rfl
 ·rw[show(b2i 42==b2i 42)=true from rfl,ZG,kq _ _ _ _ _ _ (by omega),ZC]
  dsimp only;rw[dT (by simp),ZC,mQ,ZC,mR];rw[CB _ _ _ _ _ 1 l.length _ (by simp) (by simp) (by simp only[List.length_append,List.length_singleton,hn];omega),ZC];dsimp only;rw[hs 1 (ZN _),kq _ _ _ _ _ _ (by simp[hn];omega),ZC];dsimp only;rw[dT (by simp<;> omega),ZC]
  have e3:∀ (x y:Vstep) (L:List Vstep),l++ [x] ++L++ [y] =l++x::(L++ [y]):=fun x y L=>by simp
  rw[e3,mQ,ZC,mR];have e4:∀ (x y:Vstep) (L:List Vstep),(l++x::(L++ [y])).length=l.length+L.length+2:=fun x y L=>by simp;omega
  have hw:jK l.length 42 body n=fkS (l.length+1) (l.length+n+2)::(body (l.length+1)++ [jpS l.length]):=rfl;rw[hw];simp only[e4,hn];simp[fkS,jpS,sgN]
 ·rw[show(b2i 43==b2i 42)=false from rfl,ZF,show(b2i 43==b2i 43)=true from rfl,ZG,NF _ _ _ _ _ 0 l.length rfl (by rw[hn];omega),ZC]
  dsimp only;rw[hs 0 (by omega),aa6,kq _ _ _ _ _ _ (by simp[hn];omega),ZC];dsimp only;rw[dT (by simp),ZC,mQ,ZC,mR];have hw:jK l.length 43 body n=body l.length++ [fkS l.length (l.length+n+1)] :=rfl;rw[hw];simp[fkS,sgN,hn];omega
 ·rw[show(b2i 63==b2i 42)=false from rfl,ZF,show(b2i 63==b2i 43)=false from rfl,ZF,kq _ _ _ _ _ _ (by omega),ZC]
  dsimp only;rw[dT (by simp),ZC,mQ,ZC,mR];rw[CB _ _ _ _ _ 1 l.length _ (by simp) (by simp) (by simp only[List.length_append,List.length_singleton,hn];omega),ZC];dsimp only;rw[hs 1 (ZN _),dT (by simp<;> omega),ZC];have e3:∀ (x:Vstep) (L:List Vstep),l++ [x] ++L=l++x::L:=fun x L=>by simp
  rw[e3,mQ,ZC,mR];have e4:∀ (x:Vstep) (L:List Vstep),(l++x::L).length=l.length+L.length+1:=fun x L=>by simp;omega
  have hw:jK l.length 63 body n=fkS (l.length+1) (l.length+n+1)::body (l.length+1):=rfl;rw[hw];simp only[e4,hn];simp[fkS,sgN]
def fV{m:List UInt8}:∀ (f mo i g:Nat) {x:Nd} {j g1:Nat},prs m f mo i g=.ok (x,j,g1)->i<=m.length->g<=9->i<=j/\j<=m.length/\x.len<=2 * (j - i)/\g<=g1/\g1<=9/\(2<=mo->i < j)
 |0,mo,i,g,x,j,g1,h,hi,hg=>by cases h
 |f+1,0,i,g,x,j,g1,h,hi,hg=>by
  rw[prs] at h;split at h
  ·cases h
  ·rename_i r j0 g0 hr;have h1:=fV f 1 i g hr hi hg;cases hb:bQ m 124 j0 with
   |false=>rw[hb,ZF] at h;cases h;exact⟨h1.1,h1.2.1,h1.2.2.1,h1.2.2.2.1,h1.2.2.2.2.1,fun h=>by omega⟩
   |true=>
    rw[hb,ZG] at h;have hj:=ee hb;split at h
    ·cases h
    ·rename_i M k g2 hM;cases h;have h2:=fV f 0 (j0+1) g0 hM (by omega) h1.2.2.2.2.1;unfold Nd.len;exact⟨by omega,by omega,by omega,by omega,by omega,fun h=>by omega⟩
 |f+1,1,i,g,x,j,g1,h,hi,hg=>by
  rw[prs] at h;split at h
  ·cases h;exact⟨ZN _,hi,aad _,ZN _,hg,fun h=>by omega⟩
  ·rename_i c hc;cases h1:(b2i c==b2i 124) with
   |true=>rw[h1,ZG] at h;cases h;exact⟨ZN _,hi,aad _,ZN _,hg,fun h=>by omega⟩
   |false=>
    rw[h1,ZF] at h;cases h2:(b2i c==b2i 41) with
    |true=>rw[h2,ZG] at h;cases h;exact⟨ZN _,hi,aad _,ZN _,hg,fun h=>by omega⟩
    |false=>
     rw[h2,ZF] at h;split at h
     ·cases h
     ·rename_i p j0 g0 hp;have h3:=fV f 2 i g hp hi hg;split at h
      ·cases h
      ·rename_i r k g2 hr;cases h;have h4:=fV f 1 j0 g0 hr h3.2.1 h3.2.2.2.2.1;unfold Nd.len;exact⟨by omega,by omega,by omega,by omega,by omega,fun h=>by omega⟩
 |f+1,mo+2,i,g,x,j,g1,h,hi,hg=>by
  rw[prs] at h;have sl:∀k,d9 m k≠0->k < m.length/\sgL (d9 m k)<=2:=fun k hk=>by
   unfold d9 at hk ⊢;cases h1:bQ m 42 k with
   |true=>exact⟨ee h1,show sgL 42<=2 from by decide⟩
   |false=>
    rw[h1,ZF] at hk;cases h2:bQ m 43 k with
    |true=>exact⟨ee h2,show sgL 43<=2 from by decide⟩
    |false=>
     rw[h2,ZF] at hk;cases h3:bQ m 63 k with
     |true=>exact⟨ee h3,show sgL 63<=2 from by decide⟩
     |false=>rw[h3] at hk;exact absurd rfl hk
  cases hb:bQ m 40 i with
  |true=>
   rw[hb,ZG] at h;have hil:=ee hb;cases h9:g==9 with
   |true=>rw[h9,ZG] at h;cases h
   |false=>
    have hg9:g≠9:=Z9.1 h9;rw[h9,ZF] at h;split at h
    ·cases h
    ·rename_i M j0 g0 hM;have h1:=fV f 0 (i+1) (g+1) hM (by omega) (by omega);cases h41:bQ m 41 j0 with
     |false=>rw[h41,ZF] at h;cases h
     |true=>
      have hj0:=ee h41;rw[h41,ZG] at h;cases hs:(d9 m (j0+1)==0) with
      |true=>rw[hs,ZG] at h;cases h;have e:(Nd.grp (g+1) M 0).len=M.len+2:=rfl;exact⟨by omega,by omega,by omega,by omega,by omega,fun _=>by omega⟩
      |false=>
       rw[hs,ZF] at h;obtain⟨s1,s2⟩:=sl _ (Z9.1 hs);cases hz:(M.null && !(d9 m (j0+1)==63)) with
       |true=>rw[hz,ZG] at h;cases h
       |false=>
       rw[hz,ZF] at h;cases h;have e:(Nd.grp (g+1) M (d9 m (j0+1))).len=M.len+2+sgL (d9 m (j0+1)):=rfl;exact⟨by omega,by omega,by omega,by omega,by omega,fun _=>by omega⟩
  |false=>
   rw[hb,ZF] at h;split at h
   ·cases h
   ·rename_i S j0 hS;have h1:=yI hS;cases hs:(d9 m j0==0) with
    |true=>rw[hs,ZG] at h;cases h;have e:(Nd.set S 0).len=1:=rfl;exact⟨by omega,by omega,by omega,by omega,by omega,fun _=>by omega⟩
    |false=>rw[hs,ZF] at h;obtain⟨s1,s2⟩:=sl _ (Z9.1 hs);cases h;have e:(Nd.set S (d9 m j0)).len=1+sgL (d9 m j0):=rfl;exact⟨by omega,by omega,by omega,by omega,by omega,fun _=>by omega⟩
def qk(e:Bool)(m:List UInt8)(l:List Vstep):Except (Int × Int) (Nd × Nat × Nat)->Option (PR (Bool × (List UInt8) × Int × Int × Nat × (List Vstep)))
 |.error q=>some (.pan (flt q))
 |.ok (x,j,g)=>some (.ok (e && x.null,m,(j:Int),(g:Int),(l++x.code l.length).length,l++x.code l.length))
def Jm{b c:UInt8}(h:(b2i b==b2i c)=true):b=c:=by have:b2i b=b2i c:=aaR.1 h;rw[jO,jO] at this;exact UInt8.toNat_inj.1 (by omega)
def Jy{NR:RecC}(hN:NR.n=(MM+3000))(m:List UInt8){j:Nat}(hj:j<=100000)(g:Int)(l:List Vstep)(x4 e0:Bool)(body:Nat->List Vstep){n:Nat}(hn:∀b,(body b).length=n)(hs:∀k,k<=1->(body l.length).map (shS ((k:Nat):Int))=body (l.length+k))(hl:l.length+n<=1000):
  ((aT NR.n m (j:Int) g (l++body l.length).length (l++body l.length)).bind fun z4=>
  match z4 with
  |.pan vz4=>some (.pan vz4)
  |.ok z5=>
   bif !z5.2.1 then
    some (.ok (e0,z5.2.2.1,z5.2.2.2.1,z5.2.2.2.2.1,z5.2.2.2.2.2.1,z5.2.2.2.2.2.2))
   else
    bif (b2i z5.1) != (b2i 42) then
     bif (b2i z5.1) != (b2i 43) then
      bif (b2i z5.1) != (b2i 63) then
       some (.ok (e0,z5.2.2.1,z5.2.2.2.1,z5.2.2.2.2.1,z5.2.2.2.2.2.1,z5.2.2.2.2.2.2))
      else
       be NR NR.n (l.length:Int) x4 e0 z5.1 z5.2.2.1 z5.2.2.2.1 z5.2.2.2.2.1 z5.2.2.2.2.2.1 z5.2.2.2.2.2.2
     else
      be NR NR.n (l.length:Int) x4 e0 z5.1 z5.2.2.1 z5.2.2.2.1 z5.2.2.2.2.1 z5.2.2.2.2.2.1 z5.2.2.2.2.2.2
    else
     be NR NR.n (l.length:Int) x4 e0 z5.1 z5.2.2.1 z5.2.2.2.1 z5.2.2.2.2.1 z5.2.2.2.2.2.1 z5.2.2.2.2.2.2:Option (PR aG))=
  bif d9 m j==0 then some (.ok (e0,m,(j:Int),g,(l++body l.length).length,l++body l.length))
  else bif (e0 && x4) && !(d9 m j==63) then some (.pan (flt (4,(j:Int))))
  else some (.ok (sgN (d9 m j),m,((j+1:Nat):Int),g,(l++jK l.length (d9 m j) body n).length,l++jK l.length (d9 m j) body n)):=by
 have h7:∀b,(b=42\/b=43\/b=63)->be NR NR.n (l.length:Int) x4 e0 b m (j:Int) g (l++body l.length).length (l++body l.length)=bif (e0 && x4) && !(b==63) then some (.pan (flt (4,(j:Int)))) else some (.ok (sgN b,m,((j+1:Nat):Int),g,(l++jK l.length b body n).length,l++jK l.length b body n)):=by
  intro b hb;have h9:=SG hN m hj g l NR.n hb body hn hs hl;unfold be;cases e0 with
  |false=>rw[ZF,h9];rfl
  |true=>
   cases x4 with
   |false=>rw[ZG,ZF,h9];rfl
   |true=>
    rw[ZG,ZG];rcases hb with rfl|rfl|rfl
    ·rfl
    ·rfl
    ·rw[show(b2i 63 != b2i 63)=false from rfl,ZF,h9];rfl
 cases hc:m[j]? with
 |none=>
  have hz:d9 m j=0:=by unfold d9 bQ;rw[hc];rfl
  rw[qK _ hc,ZC,hz];rfl
 |some b=>
  rw[uv _ hc,ZC];dsimp only;rw[aaE,ZF];have hz:d9 m j=bif b2i b==b2i 42 then 42 else bif b2i b==b2i 43 then 43 else bif b2i b==b2i 63 then 63 else 0:=by unfold d9 bQ;rw[hc]
  rw[hz,bne,bne,bne];cases h1:(b2i b==b2i 42) with
  |true=>have:=Jm h1;subst this;rw[aaE,ZF,h7 _ (.inl rfl)];rfl
  |false=>
   rw[aaG,ZG,ZF];cases h2:(b2i b==b2i 43) with
   |true=>have:=Jm h2;subst this;rw[aaE,ZF,h7 _ (.inr (.inl rfl))];rfl
   |false=>
    rw[aaG,ZG,ZF];cases h3:(b2i b==b2i 63) with
    |true=>have:=Jm h3;subst this;rw[aaE,ZF,h7 _ (.inr (.inr rfl))];rfl
    |false=>rfl
def y6(n:Nat)(M:Nd)(b:Nat):List Vstep:=svS (2 * n)::(M.code (b+1)++ [svS (2 * n+1)])
def Ql(n:Nat)(M:Nd)(b:Nat):(y6 n M b).length=M.len+2:=by unfold y6;rw[abm,ZR,M.code_len];rfl
def MC(m:List UInt8)(n:Nat)(l:List Vstep):Except (Int × Int) (Nd × Nat × Nat)->Option (PR am)
 |.error q=>some (.pan (flt q))
 |.ok (M,j,g1)=>bif bQ m 41 j then some (.ok (M.null,m,((j+1:Nat):Int),(g1:Int),(l++y6 n M l.length).length,l++y6 n M l.length)) else some (.pan (flt (1,(j:Int))))
def UZ{m:List UInt8}{i:Nat}(hb:bQ m 40 i=true):m[i]? =some 40:=by
 unfold bQ at hb;split at hb
 ·rename_i b hbb;rw[Jm hb] at hbb;exact hbb
 ·cases hb
def HO{NR:RecC}{m:List UInt8}{i:Nat}(hb:bQ m 40 i=true)(n:Nat)(l:List Vstep):bT NR m (i:Int) 9 n l=some (.pan (flt (2,(i:Int)))):=by unfold bT;rw[ixn,UZ hb,ZC,show(b2i 40==b2i 46)=false from rfl,ZF,show(b2i 40==b2i 92)=false from rfl,ZF,show(b2i 40==b2i 91)=false from rfl,ZF,show(b2i 40==b2i 40)=true from rfl,ZG];rfl
def QD{NR:RecC}(hN:NR.n=(MM+3000)){m:List UInt8}(hm:m.length<=60){i:Nat}(hb:bQ m 40 i=true){g:Nat}(hg:g<=8)(l:List Vstep)(hl:l.length+2 * (m.length - i)<=400){R:Except (Int × Int) (Nd × Nat × Nat)}(hR:∀ (M:Nd) j g1,R=.ok (M,j,g1)->j<=m.length/\M.len<=2 * (m.length - (i+1)))
  (hk:∀l2:List Vstep,l2.length=l.length+1->NR.k m ((i+1:Nat):Int) ((g+1:Nat):Int) l2.length l2=qk true m l2 R):
  bT NR m (i:Int) (g:Int) l.length l=MC m (g+1) l R:=by
 have hil:=ee hb;have hc:=UZ hb;unfold bT;rw[ixn,hc,ZC,show(b2i 40==b2i 46)=false from rfl,ZF,show(b2i 40==b2i 92)=false from rfl,ZF,show(b2i 40==b2i 91)=false from rfl,ZF,show(b2i 40==b2i 40)=true from rfl,ZG]
 ·have h9':((g:Int)==9)=false:=Z9.2 (by omega);rw[h9',ZF];unfold dg;have e1:w64 ((g:Int)+1)=((g+1:Nat):Int):=f9 (by omega);have e2:w64 (2 * ((g+1:Nat):Int))=((2 * (g+1):Nat):Int):=by rw[kX (by omega) (by omega)];omega
  have e3:w64 (((2 * (g+1):Nat):Int)+1)=((2 * (g+1)+1:Nat):Int):=f9 (by omega);rw[e1,e2,e3,f9 (by omega),kq _ _ _ _ _ _ (by omega),ZC];dsimp only;show((NR.k m ((i+1:Nat):Int) ((g+1:Nat):Int) (l++ [svS (2 * (g+1))]).length (l++ [svS (2 * (g+1))])).bind _)=_;rw[hk _ (by simp)];cases R with
  |error q=>rfl
  |ok p=>
   obtain⟨M,j,g1⟩:=p;obtain⟨hj,hM⟩:=hR M j g1 rfl;unfold qk;rw[ZC];dsimp only;rw[kq _ _ _ _ _ _ (by rw[ZR,Nd.code_len];simp;omega),ZC];dsimp only;rw[vk _ _ _ (by omega),ZC];dsimp only;unfold MC;cases h41:bQ m 41 j with
   |false=>simp only[h41];rfl
   |true=>
    simp only[h41,Bool.not_true,cond_false,cond_true];have e4:l++ [svS (2 * (g+1))] ++M.code (l++ [svS (2 * (g+1))]).length++ [(⟨3,((2 * (g+1)+1:Nat):Int),0,none⟩:Vstep)] =l++y6 (g+1) M l.length:=by simp[y6,svS]
    rw[e4];rfl
def iI(m:List UInt8)(l:List Vstep)(x:Nd)(j g:Nat):qk true m l (.ok (x,j,g))=some (.ok (x.null,m,(j:Int),(g:Int),(l++x.code l.length).length,l++x.code l.length)):=by unfold qk;dsimp only;rw[abC]
def YV(e:Bool)(m:List UInt8)(l:List Vstep)(r:Nd):Except (Int × Int) (Nd × Nat × Nat)->Option (PR (Bool × (List UInt8) × Int × Int × Nat × (List Vstep)))
 |.error q=>some (.pan (flt q))
 |.ok (M,k,g2)=>some (.ok (e || M.null,m,(k:Int),(g2:Int),(l++ (Nd.alt r M).code l.length).length,l++ (Nd.alt r M).code l.length))
def V4{NR:RecC}(hN:NR.n=(MM+3000)){m:List UInt8}(hm:m.length<=60){j:Nat}(hb:bQ m 124 j=true)(g1:Nat)(l:List Vstep)(r:Nd)(e:Bool)(n:Nat)(hl:l.length+r.len+2 * (m.length - j)<=400){R:Except (Int × Int) (Nd × Nat × Nat)}
  (hk:∀l2:List Vstep,l2.length=l.length+r.len+2->NR.k m ((j+1:Nat):Int) (g1:Int) l2.length l2=qk true m l2 R):
  bk NR (n+1) (l.length:Int) e m (j:Int) (g1:Int) (l++r.code l.length).length (l++r.code l.length)=YV e m l r R:=by
 have hj:=ee hb;rw[bk,vk _ _ _ (by omega),ZC];dsimp only;rw[hb,ZG,hN];show((cz (MM+3000) (l.length:Int) m ((j+1:Nat):Int) (g1:Int) _ _).bind _)=_;rw[QO _ _ _ _ _ (by rw[r.code_len];omega),ZC];dsimp only;rw[kq _ _ _ _ _ _ (by omega),ZC];dsimp only;rw[dT (by simp),ZC,mQ,ZC,mR];dsimp only
 have hsh:(r.code l.length).map (shS ((1:Nat):Int))=r.code (l.length+1):=r.code_sh _ 1 (by omega);rw[CB _ _ _ _ _ 1 l.length _ (by simp) (by simp) (by simp only[List.length_append,List.length_singleton,r.code_len];omega),ZC,hsh];dsimp only;rw[kq _ _ _ _ _ _ (by simp[Nd.code_len];omega),ZC];dsimp only;rw[dT (by simp<;> omega),ZC]
 have e3:∀ (x y:Vstep) (L:List Vstep),l++ [x] ++L++ [y] =l++x::(L++ [y]):=fun x y L=>by simp
 have e4:∀ (x y:Vstep) (L:List Vstep),(l++x::(L++ [y])).length=l.length+L.length+2:=fun x y L=>by simp;omega
 rw[e3,mQ,ZC,mR];dsimp only;unfold dP;have e5:∀ (x:Vstep) (L:List Vstep),((l++ [x] ++L).length:Int)=((l.length+1+L.length:Nat):Int):=fun x L=>by simp;omega
 rw[e5,r.code_len];have kk:∀ (n1:Nat) (l2:List Vstep),n1=l2.length->l2.length=l.length+r.len+2->dY NR m ((j+1:Nat):Int) (g1:Int) n1 l2=qk true m l2 R:=fun n1 l2 h1 h2=>by subst h1;exact hk l2 h2
 rw[kk _ _ (by rw[e4,e4]) (by rw[e4,r.code_len])];generalize hl2:l++ (⟨1,_,_,none⟩:Vstep)::(r.code (l.length+1)++ [(⟨2,0,0,none⟩:Vstep)])=l2;have hlen2:l2.length=l.length+r.len+2:=by rw[<- hl2,e4,r.code_len]
 cases R with
 |error q=>rfl
 |ok p=>
  obtain⟨M,k,g2⟩:=p;rw[iI,ZC];dsimp only;rw[ZC];dsimp only;have hr12:∀x4,cK NR (bk NR n) n x4 ((l.length+1+r.len:Nat):Int) m (k:Int) (g2:Int) (l2++M.code l2.length).length (l2++M.code l2.length)=some (.ok (x4,m,(k:Int),(g2:Int),(l++ (Nd.alt r M).code l.length).length,l++ (Nd.alt r M).code l.length)):=by
   intro x4;unfold cK;have e6:l2++M.code l2.length=(l++fkS (l.length+1) (l.length+r.len+2)::r.code (l.length+1))++ (⟨2,0,0,none⟩:Vstep)::M.code (l.length+r.len+2):=by rw[hlen2,<- hl2];simp[fkS,r.code_len];omega
   have e7:(l++fkS (l.length+1) (l.length+r.len+2)::r.code (l.length+1)).length=l.length+1+r.len:=by simp[r.code_len];omega
   rw[e6,<- e7,dT (by simp<;> omega),ZC,mQ,ZC,mR];dsimp only
   have e8:(l++fkS (l.length+1) (l.length+r.len+2)::r.code (l.length+1))++ (⟨2,(((l++fkS (l.length+1) (l.length+r.len+2)::r.code (l.length+1))++ (⟨2,0,0,none⟩:Vstep)::M.code (l.length+r.len+2)).length:Int),0,none⟩:Vstep)::M.code (l.length+r.len+2)=l++ (Nd.alt r M).code l.length:=by simp[Nd.code,jpS,Nd.code_len];omega
   rw[e8];simp[Nd.code,Nd.code_len]
  unfold YV;dsimp only;cases M.null with
  |true=>rw[ZG,hr12,Bool.or_true]
  |false=>rw[ZF,hr12,Bool.or_false]
def QJ(m:List UInt8)(f i g:Nat):prs m (f+1) 0 i g=match prs m f 1 i g with
  |.error q=>.error q
  |.ok (r,j,g1)=>bif bQ m 124 j then match prs m f 0 (j+1) g1 with
    |.error q=>.error q
    |.ok (M,k,g2)=>.ok (.alt r M,k,g2)
   else .ok (r,j,g1):=rfl
def M6(m:List UInt8)(f i g:Nat):prs m (f+1) 1 i g=match m[i]? with
  |none=>.ok (.nil,i,g)
  |some c=>bif (b2i c)==(b2i 124) then .ok (.nil,i,g) else bif (b2i c)==(b2i 41) then .ok (.nil,i,g) else match prs m f 2 i g with
   |.error q=>.error q
   |.ok (p,j,g1)=>match prs m f 1 j g1 with
    |.error q=>.error q
    |.ok (r,k,g2)=>.ok (.cons p r,k,g2):=rfl
def V9 (m : List UInt8) (f i g : Nat) : prs m (f + 1) 2 i g = bif bQ m 40 i then
   bif g==9 then .error (2,(i:Int)) else match prs m f 0 (i+1) (g+1) with
   |.error q=>.error q
   |.ok (M,j,g1)=>bif bQ m 41 j then
     bif d9 m (j+1)==0 then .ok (.grp (g+1) M 0,j+1,g1)
     else bif M.null && !(d9 m (j+1)==63) then .error (4,((j+1:Nat):Int)) else .ok (.grp (g+1) M (d9 m (j+1)),j+2,g1)
    else .error (1,(j:Int))
  else match pr m i with
   |.error q=>.error q
   |.ok (S,j)=>bif d9 m j==0 then .ok (.set S 0,j,g) else .ok (.set S (d9 m j),j+1,g):=rfl
def KN(k:Nat)(m:List UInt8)(at_ g:Int)(n:Nat)(l:List Vstep):bp (MM+3000) (k+1) m at_ g n l=dw ⟨(MM+3000),bp (MM+3000) k⟩ m at_ g n l:=rfl
def FD{m:List UInt8}(hm:m.length<=60):∀ (f:Nat),
  (∀ (k i g:Nat) (l:List Vstep),i<=m.length->3 * (m.length - i)+3<=f->m.length - i+1<=k->g<=9->l.length+2 * (m.length - i)<=400->bp (MM+3000) k m (i:Int) (g:Int) l.length l=qk true m l (prs m f 0 i g))/\
  (∀ (k i g:Nat) (l:List Vstep) (e:Bool) (n:Nat),i<=m.length->3 * (m.length - i)+2<=f->m.length - i<=k->g<=9->l.length+2 * (m.length - i)<=400->m.length - i+1<=n->bH ⟨(MM+3000),bp (MM+3000) k⟩ n e m (i:Int) (g:Int) l.length l=qk e m l (prs m f 1 i g))/\
  (∀ (k i g:Nat) (l:List Vstep),i < m.length->3 * (m.length - i)+1<=f->m.length - i<=k->g<=9->l.length+2 * (m.length - i)<=400->dp ⟨(MM+3000),bp (MM+3000) k⟩ m (i:Int) (g:Int) l.length l=qk true m l (prs m f 2 i g))
 |0=>⟨fun k i g l h1 h2=>by omega,fun k i g l e n h1 h2=>by omega,fun k i g l h1 h2=>by omega⟩
 |f+1=>by
  obtain⟨ihM,ihR,ihP⟩:=FD hm f;refine⟨fun k i g l h1 h2 h3 h4 h5=> ?_,fun k i g l e n h1 h2 h3 h4 h5 h6=> ?_,fun k i g l h1 h2 h3 h4 h5=> ?_⟩
  ·obtain⟨k,rfl⟩:∃q,k=q+1:=⟨k - 1,by omega⟩
   rw[KN];unfold dw ea;show((bH ⟨(MM+3000),bp (MM+3000) k⟩ (MM+3000) true m (i:Int) (g:Int) l.length l).bind _)=_;rw[ihR k i g l true (MM+3000) h1 (by omega) (by omega) h4 h5 (by omega),QJ];cases hr:prs m f 1 i g with
   |error q=>rfl
   |ok p=>
    obtain⟨r,j,g1⟩:=p;have hk:=fV f 1 i g hr h1 h4;rw[iI,ZC];dsimp only;show bk ⟨(MM+3000),bp (MM+3000) k⟩ ((MM+2999)+1) (l.length:Int) r.null m (j:Int) (g1:Int) _ _=_;cases hb:bQ m 124 j with
    |false=>rw[bk,vk _ _ _ (by omega),ZC];dsimp only;rw[hb,ZF,ZF,iI];rfl
    |true=>
     have hj:=ee hb;rw[ZG,V4 (R:=prs m f 0 (j+1) g1) rfl hm hb g1 l r r.null (MM+2999) (by omega) (fun l2 hl2=>ihM k (j+1) g1 l2 (by omega) (by omega) (by omega) (by omega) (by omega))];cases prs m f 0 (j+1) g1 with
     |error q=>rfl
     |ok p=>rfl
  ·obtain⟨n,rfl⟩:∃q,n=q+1:=⟨n - 1,by omega⟩
   rw[bH,M6];cases hc:m[i]? with
   |none=>rw[qK _ hc,ZC];dsimp only;rw[aaG,ZG];unfold qk;simp[Nd.null,Nd.code]
   |some c=>
    have hil:=(ZD.1 hc).1;rw[uv _ hc,ZC];dsimp only;rw[aaE,ZF];cases e1:(b2i c==b2i 124) with
    |true=>rw[ZG,ZG];unfold qk;simp[Nd.null,Nd.code]
    |false=>
     rw[ZF,ZF];cases e2:(b2i c==b2i 41) with
     |true=>rw[ZG,ZG];unfold qk;simp[Nd.null,Nd.code]
     |false=>
      rw[ZF,ZF,ihP k i g l hil (by omega) h3 h4 h5];cases hp:prs m f 2 i g with
      |error q=>rfl
      |ok p=>
       obtain⟨p,j,g1⟩:=p;have hk:=fV f 2 i g hp h1 h4;have hij:=hk.2.2.2.2.2 (by omega);rw[iI,ZC];dsimp only
       have go:∀e',bH ⟨(MM+3000),bp (MM+3000) k⟩ n e' m (j:Int) (g1:Int) (l++p.code l.length).length (l++p.code l.length)=qk e' m (l++p.code l.length) (prs m f 1 j g1):=fun e'=>ihR k j g1 _ e' n (by omega) (by omega) (by omega) (by omega) (by rw[ZR,p.code_len];omega) (by omega)
       have fin:∀e',(e'=(e && p.null))->qk e' m (l++p.code l.length) (prs m f 1 j g1)=qk e m l (match prs m f 1 j g1 with
         |.error q=>.error q
         |.ok (r,k,g2)=>.ok (.cons p r,k,g2)):=by
        rintro e' rfl;cases prs m f 1 j g1 with
        |error q=>rfl
        |ok q=>obtain⟨r,k2,g2⟩:=q;unfold qk;dsimp only;simp only[Nd.null,Nd.code,List.length_append,p.code_len,Bool.and_assoc,List.append_assoc]
       cases hpn:p.null with
       |true=>rw[aaE,ZF,go];exact fin e (by rw[hpn,Bool.and_true])
       |false=>rw[aaG,ZG,go];exact fin false (by rw[hpn,abz])
  ·rw[V9];unfold dp;have hil:m[i]? =some m[i] :=ZE h1;rw[ixn,hil,ZC];cases hb:bQ m 40 i with
   |true=>
    have h40:(b2i m[i] ==b2i 40)=true:=by unfold bQ at hb;rw[hil] at hb;exact hb
    rw[ZG];by_cases hg9:g=9
    ·subst hg9;rw[show(((9:Nat):Int))=9 from rfl,HO hb];rfl
    ·rw[Z9.2 hg9,ZF,QD (R:=prs m f 0 (i+1) (g+1)) rfl hm hb (by omega) l h5 (fun M j g1 h=>by
      have:=fV f 0 (i+1) (g+1) h (by omega) (by omega);omega) (fun l2 hl2=>ihM k (i+1) (g+1) l2 (by omega) (by omega) (by omega) (by omega) (by omega))]
     cases hM:prs m f 0 (i+1) (g+1) with
     |error q=>rfl
     |ok p=>
      obtain⟨M,j,g1⟩:=p;have hk:=fV f 0 (i+1) (g+1) hM (by omega) (by omega);unfold MC;dsimp only;cases h41:bQ m 41 j with
      |false=>rfl
      |true=>
       have hj:=ee h41;rw[ZG,ZG,ZC];dsimp only;have hgs:∀k,k<=1->(y6 (g+1) M l.length).map (shS ((k:Nat):Int))=y6 (g+1) M (l.length+k):=fun k hk=>by unfold y6;simp only[List.map_cons,List.map_append,List.map_nil,Pe];rw[M.code_sh (l.length+1) k (by omega),show l.length+1+k=l.length+k+1 by omega]
       have ht:=Jy (NR:=⟨(MM+3000),bp (MM+3000) k⟩) rfl m (j:=j+1) (by omega) (g1:Int) l (b2i m[i] ==b2i 40) M.null (y6 (g+1) M) (n:=M.len+2) (Ql (g+1) M) hgs (by omega);refine abj ht ?_;rw[h40,Bool.and_true];cases hs:(d9 m (j+1)==0) with
       |true=>rw[ZG,ZG,iI];simp only[Nd.null,Nd.code,y6];rfl
       |false=>
        rw[ZF,ZF];cases hz:(M.null && !(d9 m (j+1)==63)) with
        |true=>rw[ZG,ZG];rfl
        |false=>
         rw[ZF,ZF,iI];have hnull:(Nd.grp (g+1) M (d9 m (j+1))).null=sgN (d9 m (j+1)):=by
          unfold Nd.null;cases hmn:M.null with
          |false=>rw[Bool.or_false]
          |true=>rw[hmn,abC,Bool.not_eq_false'] at hz;rw[aaR.1 hz];rfl
         rw[hnull];rfl
   |false=>
    have h40:(b2i m[i] ==b2i 40)=false:=by unfold bQ at hb;rw[hil] at hb;exact hb
    rw[ZF,UD rfl hm hil h40 _ _ (by omega)];cases hS:pr m i with
    |error q=>rfl
    |ok p=>
     obtain⟨S,j⟩:=p;have hS':=yI hS;unfold Wi;rw[ZC];dsimp only;have ht:=Jy (NR:=⟨(MM+3000),bp (MM+3000) k⟩) rfl m (j:=j) (by omega) (g:Int) l (b2i m[i] ==b2i 40) false (fun _=>[tkS S]) (n:=1) (fun _=>rfl) (fun _ _=>rfl) (by omega);refine abj ht ?_;rw[Bool.false_and,Bool.false_and];cases hs:(d9 m j==0) with
     |true=>rw[ZG,ZG,iI];rfl
     |false=>rw[ZF,ZF,ZF,iI];rfl
set_option maxRecDepth 1000000
variable {MM:Nat}
def dnS:Vstep:=⟨4,0,0,none⟩
inductive StOk (n G p:Nat):Vstep->Prop
 |tk {S:List Bool} (h1:S.length=256) (h2:p+1 < n):StOk n G p (tkS S)
 |fk {a b:Nat} (h1:a < n) (h2:b < n):StOk n G p (fkS a b)
 |jp {a:Nat} (h1:a < n):StOk n G p (jpS a)
 |sv {a:Nat} (h1:a < 2 * G+2) (h2:p+1 < n):StOk n G p (svS a)
 |dn:StOk n G p dnS
def MOk(st:List Vstep)(G:Nat):Prop:=(∀p s,st[p]? =some s->StOk st.length G p s)/\st.length<=200/\G<=9
inductive Eps (st:List Vstep):Nat->Nat->Prop
 |fka {p a b:Nat} (h:st[p]? =some (fkS a b)):Eps st p a
 |fkb {p a b:Nat} (h:st[p]? =some (fkS a b)):Eps st p b
 |jp {p a:Nat} (h:st[p]? =some (jpS a)):Eps st p a
 |sv {p a:Nat} (h:st[p]? =some (svS a)):Eps st p (p+1)
inductive Rch (st:List Vstep):Nat->Nat->Prop
 |refl (p:Nat):Rch st p p
 |step {p q r:Nat} (h:Eps st p q) (h':Rch st q r):Rch st p r
def KY(st:List Vstep)(p:Nat):Prop:=(∃S,st[p]? =some (tkS S))\/st[p]? =some dnS
def vH(G len:Nat)(sl:List Int):Prop:=sl.length=2 * G+2/\∀v∈sl,-1<=v/\v<=(len:Int)
def inM(met:List (Int × Bool))(q:Nat):Bool:=(mL met (q:Int)).getD false
def Hf{k k':Int}:∀ (met:List (Int × Bool)),(mL (mJ met k true) k').getD false=(decide (k'=k)|| (mL met k').getD false)
 | [] =>by
   by_cases h:k'=k
   ·subst h;simp[mJ,mL]
   ·simp[mJ,mL,h]
 | (a,b)::r=>by
   rw[mJ];by_cases h:k=a
   ·rw[ZI h,mL,mL];by_cases h':k'=k
    ·rw[ZI h'];simp[h']
    ·rw[ZH h',ZH (by rw[<- h];exact h')];simp[h']
   ·rw[ZH h,mL,mL];by_cases h':k'=a
    ·have:¬k'=k:=fun e=>h (e.symm.trans h');rw[ZI h',ZI h'];simp[this]
    ·rw[ZH h',ZH h',Hf r]
def CR(met:List (Int × Bool))(p q:Nat):inM (mJ met (p:Int) true) q=(decide (q=p)|| inM met q):=by
 unfold inM;rw[Hf]
 congr 1
 rw[decide_eq_decide];omega
def cnt(n:Nat)(met:List (Int × Bool)):Nat:=((List.range n).filter fun q=> !inM met q).length
def si{α:Type}{p q:α->Bool}:∀ (l:List α),(∀x∈l,p x=true->q x=true)->(l.filter p).length<=(l.filter q).length
 | [],_=>ZN _
 |a::r,h=>by
  have ih:=si r fun x hx=>h x (ZM _ hx);have ha:=h a ZP;rw[abc,abc];cases hp:p a with
  |false=>
   cases hq:q a with
   |false=>simpa using ih
   |true=>simp;omega
  |true=>rw[ha hp];simpa using ih
def ny{α:Type}{p q:α->Bool}{a:α}:∀ (l:List α),(∀x∈l,p x=true->q x=true)->a∈l->p a=false->q a=true->(l.filter p).length < (l.filter q).length
 | [],_,h,_,_=>by cases h
 |b::r,h,ha,hp,hq=>by
  have hr:=si r fun x hx=>h x (ZM _ hx);rw[abc,abc];rcases ZY.1 ha with rfl|ha
  ·rw[hp,hq];simp;omega
  ·have ih:=ny r (fun x hx=>h x (ZM _ hx)) ha hp hq;have hb:=h b ZP;cases hpb:p b with
   |false=>
    cases hqb:q b with
    |false=>simpa using ih
    |true=>simp;omega
   |true=>rw[hb hpb];simpa using ih
def SF{n:Nat}{met:List (Int × Bool)}{p:Nat}(hp:p < n)(h:inM met p=false):cnt n (mJ met (p:Int) true) < cnt n met:=by
 unfold cnt;refine ny (a:=p) _ (fun q hq h1=> ?_) (aaF.2 hp) (by rw[CR];simp) (by rw[h];rfl);rw[CR] at h1;cases hm:inM met q with
 |false=>rfl
 |true=>rw[hm] at h1;simp at h1
def HZ(n:Nat)(met:List (Int × Bool)):cnt n met<=n:=by unfold cnt;refine aaM (aaH _ _) (by simp)
structure AddP (st:List Vstep) (G len:Nat) (p:Nat) (met:List (Int × Bool)) (l2:List Vthread) (met2:List (Int × Bool)):Prop where
 mono:∀q,inM met q=true->inM met2 q=true
 self:inM met2 p=true
 clos:∀q,inM met2 q=true->inM met q=false->q < st.length/\(∀q',Eps st q q'->inM met2 q'=true)/\Rch st p q/\(KY st q->∃t∈l2,t.at_=(q:Int))
 thr:∀t∈l2,∃q:Nat,t.at_=(q:Int)/\KY st q/\Rch st p q/\vH G len t.slots
 size:l2.length+cnt st.length met2<=cnt st.length met
def LS(N:Nat){sl:List Int}(h1:0 < sl.length)(h2:sl.length<=1000):iH N sl=some (.ok (sl.length,sl)):=by
 cases sl with
 |nil=>simp at h1
 |cons a r=>show(if r.length < 1000000 then _ else _)=_;rw[ZI (by simp at h2;omega)];rfl
def vH.set{G len:Nat}{sl:List Int}(h:vH G len sl)(a:Nat){v:Int}(h1: -1<=v)(h2:v<=(len:Int)):vH G len (sl.set a v):=by
 refine⟨by simpa using h.1,fun x hx=> ?_⟩;rcases List.mem_or_eq_of_mem_set hx with hx|rfl
 ·exact h.2 x hx
 ·exact⟨h1,h2⟩
def Mc(k xn:Nat)(t:Vthread)(p:Int)(M:VMask)(l:List Vthread)(met:List (Int × Bool)):b7 (MM+3000) (k+1) xn t p M l met=dW ⟨(MM+3000),b7 (MM+3000) k⟩ xn t p M l met:=rfl
set_option maxRecDepth 1000000
variable {MM:Nat}
abbrev Rte:=List (Nat × Nat)
inductive Nod
 |fin
 |tk (S:List Bool) (nx:Nat)
 |fk (a b:Nat)
 |sv (n nx:Nat)
 |jp (nx:Nat)
def inS(S:List Bool)(c:UInt8):Bool:=S.getD c.toNat false
def W(G:Nat->Option Nod)(tx:List UInt8):Nat->Nat->Nat->Option (List Rte)
 |0,_,_=>none
 |f+1,q,i=>match G q with
  |none=>none
  |some .fin=>some (if i=tx.length then [[]] else [])
  |some (.tk S nx)=>match tx[i]? with
   |none=>some []
   |some c=>if inS S c=true then W G tx f nx (i+1) else some []
  |some (.fk a b)=>(W G tx f a i).bind fun A=>(W G tx f b i).map fun B=>A++B
  |some (.sv n nx)=>(W G tx f nx i).map fun A=>A.map ((n,i):: ·)
  |some (.jp nx)=>W G tx f nx i
section
variable {G:Nat->Option Nod} {tx:List UInt8}
def vd:∀ (f q i:Nat) {L:List Rte},W G tx f q i=some L->W G tx (f+1) q i=some L
 |0,q,i,L,h=>by cases h
 |f+1,q,i,L,h=>by
  rw[W] at h ⊢;cases hg:G q with
  |none=>rw[hg] at h;cases h
  |some s=>
   rw[hg] at h;cases s with
   |fin=>exact h
   |tk S nx=>
    dsimp only at h ⊢;cases hc:tx[i]? with
    |none=>rw[hc] at h;exact h
    |some c=>
     rw[hc] at h;dsimp only at h ⊢;by_cases hi:inS S c=true
     ·rw[ZI hi] at h ⊢;exact vd f nx (i+1) h
     ·rw[ZH hi] at h ⊢;exact h
   |fk a b=>dsimp only at h ⊢;obtain⟨A,ha,h⟩:=aaz.1 h;obtain⟨B,hb,h⟩:=Z4.1 h;rw[vd f a i ha,ZC,vd f b i hb,aa8,h]
   |sv n nx=>dsimp only at h ⊢;obtain⟨A,ha,h⟩:=Z4.1 h;rw[vd f nx i ha,aa8,h]
   |jp nx=>exact vd f nx i h
def Rs{f f' q i:Nat}{L:List Rte}(h:W G tx f q i=some L)(hf:f<=f'):W G tx f' q i=some L:=by
 induction hf with
 |refl=>exact h
 |step _ ih=>exact vd _ _ _ ih
def VF{f f' q i:Nat}(h:W G tx f' q i=none)(hf:f<=f'):W G tx f q i=none:=by
 cases e:W G tx f q i with
 |none=>rfl
 |some L=>rw[Rs e hf] at h;cases h
def QM{f f' q i:Nat}{L L':List Rte}(h:W G tx f q i=some L)(h':W G tx f' q i=some L'):L=L':=by
 rcases Nat.le_total f f' with e|e
 ·rw[Rs h e] at h';exact ZZ h'
 ·rw[Rs h' e] at h;exact(ZZ h).symm
def Ky:∀ {f q i:Nat} {L:List Rte},W G tx f q i=some L->∃f1,f1 < f/\W G tx f1 q i=none/\W G tx (f1+1) q i=some L
 |0,q,i,L,h=>by cases h
 |f+1,q,i,L,h=>by
  cases e:W G tx f q i with
  |none=>exact⟨f,by omega,e,h⟩
  |some L'=>have:=QM e h;subst this;obtain⟨f1,h1,h2⟩:=Ky e;exact⟨f1,by omega,h2⟩
def Xs(G:Nat->Option Nod)(tx:List UInt8):∃wf:Nat->Nat->List Rte,∀f q i L,W G tx f q i=some L->wf q i=L:=by
 classical
 refine⟨fun q i=>if h:∃L f,W G tx f q i=some L then Classical.choose h else [],fun f q i L h=> ?_⟩;have hx:∃L f,W G tx f q i=some L:=⟨L,f,h⟩
 simp only[dif_pos hx];obtain⟨f',h'⟩:=Classical.choose_spec hx;exact QM h' h
end
def gp(st:List Vstep)(q:Nat):Option Nod:=match st[q]? with
 |none=>none
 |some s=>if s.kind=0 then s.set_.map fun S=>.tk S (q+1) else if s.kind=1 then some (.fk s.a.toNat s.b.toNat) else if s.kind=2 then some (.jp s.a.toNat) else if s.kind=3 then some (.sv s.a.toNat (q+1)) else some .fin
section
variable {st:List Vstep} {q:Nat}
def Qw{S:List Bool}(h:st[q]? =some (tkS S)):gp st q=some (.tk S (q+1)):=by unfold gp;rw[h];rfl
def GE{a b:Nat}(h:st[q]? =some (fkS a b)):gp st q=some (.fk a b):=by unfold gp;rw[h];rfl
def MW{a:Nat}(h:st[q]? =some (jpS a)):gp st q=some (.jp a):=by unfold gp;rw[h];rfl
def Rz{a:Nat}(h:st[q]? =some (svS a)):gp st q=some (.sv a (q+1)):=by unfold gp;rw[h];rfl
def PC(h:st[q]? =some dnS):gp st q=some .fin:=by unfold gp;rw[h];rfl
end
def lj(sl:List Int)(w:Rte):List Int:=w.foldl (fun s p=>s.set p.1 (p.2:Int)) sl
def bsT(wf:Nat->Nat->List Rte)(T:List Vthread)(i:Nat):Option (List Int):=T.findSome? fun t=>(wf t.at_.toNat i).head?.map (lj t.slots)
def Ik(wf:Nat->Nat->List Rte)(l:List Vthread)(met:List (Int × Bool))(A:List Nat)(i:Nat):Prop:=∀q,inM met q=true->q ∉ A->wf q i≠[] ->bsT wf l i≠none
def TQ(st:List Vstep)(G:Nat)(tx:List UInt8)(l:List Vthread)(i:Nat):Prop:=∀t∈l,∃q:Nat,t.at_=(q:Int)/\KY st q/\q < st.length/\vH G tx.length t.slots/\∃f L,W (gp st) tx f q i=some L
def Dg{wf:Nat->Nat->List Rte}{l l':List Vthread}{i:Nat}:bsT wf (l++l') i=(bsT wf l i).or (bsT wf l' i):=List.findSome?_append
def Jx{wf:Nat->Nat->List Rte}{q i:Nat}{sl:List Int}:bsT wf [⟨(q:Int),sl⟩] i=(wf q i).head?.map (lj sl):=by unfold bsT;rw[List.findSome?_cons];simp only[Int.toNat_natCast];cases (wf q i).head?.map (lj sl)<;> rfl
def UY{α:Type}{a b:Option α}(h:a≠none\/b≠none):a.or b≠none:=by
 cases a with
 |some x=>simp
 |none=>simpa using h
def Uu{sl:List Int}{L:List Rte}(h:L≠[]):L.head?.map (lj sl)≠none:=by
 cases L with
 |nil=>exact absurd rfl h
 |cons a r=>simp
def uP{wf:Nat->Nat->List Rte}{l l':List Vthread}{met:List (Int × Bool)}{A:List Nat}{p i:Nat}{sl:List Int}{L:List Rte}(hp:wf p i=L)(h:Ik wf l' met (p::A) i)(hb:bsT wf l' i=(bsT wf l i).or (L.head?.map (lj sl))):Ik wf l' met A i:=fun q hq hA hne=>by
 by_cases e:q=p
 ·subst e;rw[hb];exact UY (.inr (Uu (hp ▸ hne)))
 ·exact h q hq (by simp[e,hA]) hne
def Ns(A B:List Rte)(sl:List Int):(A++B).head?.map (lj sl)=(A.head?.map (lj sl)).or (B.head?.map (lj sl)):=by
 cases A with
 |nil=>rfl
 |cons a r=>rfl
def N1(A:List Rte)(n i:Nat)(sl:List Int):(A.map ((n,i):: ·)).head?.map (lj sl)=A.head?.map (lj (sl.set n (i:Int))):=by
 cases A with
 |nil=>rfl
 |cons a r=>rfl
def rr{st:List Vstep}{Gi:Int}{G:Nat}{tx:List UInt8}(hM:MOk st G){wf:Nat->Nat->List Rte}(hw:∀f q i L,W (gp st) tx f q i=some L->wf q i=L)(place:Nat)(hpl:place<=tx.length):∀ (k p:Nat) (sl:List Int) (l:List Vthread) (met:List (Int × Bool)) (f:Nat) (L:List Rte) (A:List Nat),p < st.length->vH G tx.length sl->cnt st.length met < k->l.length+cnt st.length met<=1000->W (gp st) tx f p place=some L->(∀a∈A,W (gp st) tx f a place=none)->Ik wf l met A place->TQ st G tx l place->
  ∃l' met',b7 (MM+3000) k l.length ⟨(p:Int),sl⟩ (place:Int) ⟨Gi,st⟩ l met=some (.ok (l'.length,⟨Gi,st⟩,l',met'))/\bsT wf l' place=(bsT wf l place).or (L.head?.map (lj sl))/\Ik wf l' met' A place/\TQ st G tx l' place/\l'.length+cnt st.length met'<=l.length+cnt st.length met/\l.length<=l'.length
 |0,p,sl,l,met,f,L,A,h1,h2,h3,h4,h5,h6,h7,h8=>by omega
 |k+1,p,sl,l,met,f,L,A,h1,h2,h3,h4,h5,h6,h7,h8=>by
  obtain⟨hst,hn,hG⟩:=hM;have hM:MOk st G:=⟨hst,hn,hG⟩
  have hpA:p ∉ A:=fun h=>by rw[h6 p h] at h5;cases h5
  have hwp:=hw _ _ _ _ h5;rw[Mc];unfold dW;show ∃l' met',(bif inM met p then _ else _)=_/\_;cases hm:inM met p with
  |true=>
   refine⟨l,met,by rw[ZG],?_,h7,h8,ZN _,ZN _⟩;by_cases hL:L=[]
   ·subst hL;simp
   ·have:=h7 p hm hpA (by rw[hwp];exact hL);cases hb:bsT wf l place with
    |none=>exact absurd hb this
    |some x=>rfl
  |false=>
   have hs:=ZE h1;have hok:=hst p _ hs;have hc:=SF (n:=st.length) h1 hm;obtain⟨f1,hf1,hno,hyes⟩:=Ky h5;have hA:∀a∈p::A,W (gp st) tx f1 a place=none:=fun a ha=>by
    rcases ZY.1 ha with rfl|ha
    ·exact hno
    ·exact VF (h6 a ha) (by omega)
   have hI:Ik wf l (mJ met (p:Int) true) (p::A) place:=fun q hq hA' hne=>by rw[CR] at hq;have:q≠p:=fun e=>hA' (by simp[e]);simp[this] at hq;exact h7 q hq (fun e=>hA' (ZM _ e)) hne
   rw[ZF,ixn,hs,ZC];dsimp only;generalize st[p] =s at hs hok;unfold fi;rw[W] at hyes
   have app:KY st p->∃l' met',((lg 32 l.length l [(⟨(p:Int),sl⟩:Vthread)]).bind fun z15=>some (PR.ok (z15.length,(⟨Gi,st⟩:VMask),z15,mJ met (p:Int) true)))=some (.ok (l'.length,⟨Gi,st⟩,l',met'))/\bsT wf l' place=(bsT wf l place).or (L.head?.map (lj sl))/\Ik wf l' met' A place/\TQ st G tx l' place/\l'.length+cnt st.length met'<=l.length+cnt st.length met/\l.length<=l'.length:=fun hstop=>by
    have hv:lg 32 l.length l [(⟨(p:Int),sl⟩:Vthread)] =some (l++ [⟨(p:Int),sl⟩]):=by unfold lg;rw[ZI ⟨rfl,by simp,by simp;omega⟩]
    have hb:bsT wf (l++ [⟨(p:Int),sl⟩]) place=(bsT wf l place).or (L.head?.map (lj sl)):=by rw[Dg,Jx,hwp]
    rw[hv,ZC];refine⟨_,_,rfl,hb,uP hwp (fun q hq hA' hne=> ?_) hb,fun t ht=> ?_,by simp;omega,by simp⟩
    ·rw[hb];exact UY (.inl (hI q hq hA' hne))
    ·rcases aaf.1 ht with ht|ht
     ·exact h8 t ht
     ·rw[aaJ] at ht;subst ht;exact⟨p,rfl,hstop,h1,h2,f,L,h5⟩
   cases hok with
   | @tk S g1 g2=>exact app (.inl ⟨_,hs⟩)
   |dn=>exact app (.inr hs)
   | @fk a b g1 g2=>
     rw[GE hs] at hyes;dsimp only at hyes;obtain⟨LA,ha,hyes⟩:=aaz.1 hyes;obtain⟨LB,hb,rfl⟩:=Z4.1 hyes;rw[show((fkS a b).kind==2)=false from rfl,show((fkS a b).kind==1)=true from rfl,ZF,ZG];obtain⟨l1,met1,e1,b1,i1,t1,s1,m1⟩:=rr (Gi:=Gi) hM hw place hpl k a sl l _ f1 LA (p::A) g1 h2 (by omega) (by omega) ha hA hI h8
     obtain⟨l2,met2,e2,b2,i2,t2,s2,m2⟩:=rr (Gi:=Gi) hM hw place hpl k b sl l1 met1 f1 LB (p::A) g2 h2 (by omega) (by omega) hb hA i1 t1;have hb2:bsT wf l2 place=(bsT wf l place).or ((LA++LB).head?.map (lj sl)):=by rw[b2,b1,Ns,Option.or_assoc]
     refine⟨l2,met2,?_,hb2,uP hwp i2 hb2,t2,by omega,by omega⟩;show((b7 (MM+3000) k l.length ⟨(a:Int),sl⟩ (place:Int) ⟨Gi,st⟩ l (mJ met (p:Int) true)).bind _)=_;rw[e1,ZC];show((b7 (MM+3000) k l1.length ⟨(b:Int),sl⟩ (place:Int) ⟨Gi,st⟩ l1 met1).bind _)=_;rw[e2,ZC]
   | @jp a g1=>
     rw[MW hs] at hyes;dsimp only at hyes;rw[show((jpS a).kind==2)=true from rfl,ZG];obtain⟨l1,met1,e1,b1,i1,t1,s1,m1⟩:=rr (Gi:=Gi) hM hw place hpl k a sl l _ f1 L (p::A) g1 h2 (by omega) (by omega) hyes hA hI h8;refine⟨l1,met1,?_,b1,uP hwp i1 b1,t1,by omega,m1⟩
     show((b7 (MM+3000) k l.length ⟨(a:Int),sl⟩ (place:Int) ⟨Gi,st⟩ l (mJ met (p:Int) true)).bind _)=_;rw[e1,ZC]
   | @sv a g1 g2=>
     rw[Rz hs] at hyes;dsimp only at hyes;obtain⟨LA,ha,rfl⟩:=Z4.1 hyes;rw[show((svS a).kind==2)=false from rfl,show((svS a).kind==1)=false from rfl,show((svS a).kind==3)=true from rfl,ZF,ZF,ZG];have hl:=h2.1
     obtain⟨l1,met1,e1,b1,i1,t1,s1,m1⟩:=rr (Gi:=Gi) hM hw place hpl k (p+1) (sl.set a (place:Int)) l _ f1 LA (p::A) g2 (h2.set a (by omega) (by omega)) (by omega) (by omega) ha hA hI h8;have hb1:bsT wf l1 place=(bsT wf l place).or ((LA.map ((a,place):: ·)).head?.map (lj sl)):=by rw[b1,N1]
     refine⟨l1,met1,?_,hb1,uP hwp i1 hb1,t1,by omega,m1⟩;show((iH (MM+3000) sl).bind _)=_;rw[LS (MM+3000) (by omega) (by omega),ZC];dsimp only;have e3:cf sl.length ((svS a).a)=some a:=dT (by omega);have e4:sl[a]? =some sl[a] :=ZE (by omega)
     have e5:m9 sl.length (sl.set a (place:Int))=some (sl.set a (place:Int)):=by unfold m9;rw[ZI (by simp)]
     rw[e3,ZC,e4,ZC,e5,ZC,f9 (by omega)];show((b7 (MM+3000) k l.length ⟨((p+1:Nat):Int),sl.set a (place:Int)⟩ (place:Int) ⟨Gi,st⟩ l (mJ met (p:Int) true)).bind _)=_;rw[e1,ZC]
def Sm(N:Nat)(t:Vthread)(p:Int)(M:VMask)(met:List (Int × Bool)):eJ N t p M met=(b7 N (N+1) 0 t p M [] met).map fun r=>match r with
  |.pan v=>.pan v
  |.ok z=>.ok (z.1,z.2.1,z.2.2.2,z.2.2.1):=by
 show _=(dW ⟨N,b7 N N⟩ 0 t p M [] met).map _;unfold eJ dW;cases (mL met t.at_).getD false with
 |true=>rfl
 |false=>
  rw[ZF,ZF];cases ci M.steps t.at_ with
  |none=>rfl
  |some s=>
   rw[ZC,ZC];unfold gj fi;have hK:∀xn t p M l met,dF ⟨N,b7 N N⟩ xn t p M l met=bY N xn t p M l met:=fun _ _ _ _ _ _=>rfl;simp only[hK];cases s.kind==2 with
   |true=>
    rw[ZG,ZG];cases bY N 0 ⟨s.a,t.slots⟩ p M [] (mJ met t.at_ true) with
    |none=>rfl
    |some x=>cases x<;> rfl
   |false=>
    rw[ZF,ZF];cases s.kind==1 with
    |true=>
     rw[ZG,ZG];cases bY N 0 ⟨s.a,t.slots⟩ p M [] (mJ met t.at_ true) with
     |none=>rfl
     |some x=>
      cases x with
      |pan v=>rfl
      |ok z=>
       rw[ZC,ZC];dsimp only;cases bY N z.1 ⟨s.b,t.slots⟩ p z.2.1 z.2.2.1 z.2.2.2 with
       |none=>rfl
       |some x=>cases x<;> rfl
    |false=>
     rw[ZF,ZF];cases s.kind==3 with
     |true=>
      rw[ZG,ZG];cases iH N t.slots with
      |none=>rfl
      |some x=>
       cases x with
       |pan v=>rfl
       |ok z=>
        rw[ZC,ZC];dsimp only;cases cf z.1 s.a with
        |none=>rfl
        |some j=>
         rw[ZC,ZC];cases z.2[j]? with
         |none=>rfl
         |some y=>
          rw[ZC,ZC];cases m9 z.1 (List.set z.2 j p) with
          |none=>rfl
          |some sl=>
           rw[ZC,ZC];cases bY N 0 ⟨w64 (t.at_+1),sl⟩ p M [] (mJ met t.at_ true) with
           |none=>rfl
           |some x=>cases x<;> rfl
     |false=>rw[ZF,ZF];cases lg 32 0 [] [t] <;> rfl
set_option maxRecDepth 1000000
variable {MM:Nat}
inductive Acc (st:List Vstep):Nat->List UInt8->Prop
 |dn {p:Nat} (h:st[p]? =some dnS):Acc st p []
 |tk {p:Nat} {S:List Bool} {b:UInt8} {s:List UInt8} (h:st[p]? =some (tkS S)) (hb:AE 256 (some S) (b2i b)=some true) (h':Acc st (p+1) s):Acc st p (b::s)
 |ep {p q:Nat} {s:List UInt8} (h:Eps st p q) (h':Acc st q s):Acc st p s
def Sta(st:List Vstep)(T:List Vthread)(c:UInt8)(j p:Nat):Prop:=∃j' t,j' < j/\T[j']? =some t/\∃ (q:Nat) (S:List Bool),t.at_=(q:Int)/\st[q]? =some (tkS S)/\AE 256 (some S) (b2i c)=some true/\p=q+1
structure RI (st:List Vstep) (G len:Nat) (T:List Vthread) (c:UInt8) (j:Nat) (next:List Vthread) (met:List (Int × Bool)):Prop where
 r1:∀q,inM met q=true->q < st.length/\(∀q',Eps st q q'->inM met q'=true)/\(KY st q->∃t∈next,t.at_=(q:Int))/\∃p,Sta st T c j p/\Rch st p q
 r2:∀p,Sta st T c j p->inM met p=true
 r3:∀t∈next,∃q:Nat,t.at_=(q:Int)/\KY st q/\inM met q=true/\vH G len t.slots
 r4:next.length+cnt st.length met<=st.length
set_option maxRecDepth 1000000
inductive Sr (L:List UInt8->Prop):List UInt8->Prop
 |nil:Sr L []
 |cons {a b:List UInt8} (h:L a) (h':Sr L b):Sr L (a++b)
def KU(sg:UInt8):Prop:=sg=0\/sg=42\/sg=43\/sg=63
def Nd.Ok(G:Nat):Nd->Prop
 |.set S sg=>S.length=256/\KU sg
 |.grp n M sg=>M.Ok G/\KU sg/\((sg=42\/sg=43)->M.null=false)/\n<=G
 |.nil=>True
 |.cons p r=>p.Ok G/\r.Ok G
 |.alt r M=>r.Ok G/\M.Ok G
def Nd.Ok.mono{G G':Nat}(hG:G<=G'):∀ {x:Nd},x.Ok G->x.Ok G'
 |.set S sg,h=>h
 |.grp n M sg,h=>⟨Nd.Ok.mono hG h.1,h.2.1,h.2.2.1,aaM h.2.2.2 hG⟩
 |.nil,h=>trivial
 |.cons p r,h=>⟨Nd.Ok.mono hG h.1,Nd.Ok.mono hG h.2⟩
 |.alt r M,h=>⟨Nd.Ok.mono hG h.1,Nd.Ok.mono hG h.2⟩
section
variable {st:List Vstep}
def At(st:List Vstep)(b:Nat)(L:List Vstep):Prop:=∀i s,L[i]? =some s->st[b+i]? =some s
def At.head{b:Nat}{x:Vstep}{L:List Vstep}(h:At st b (x::L)):st[b]? =some x/\At st (b+1) L:=
 ⟨h 0 x rfl,fun i s hi=>by have:=h (i+1) s (by simpa using hi);rw[show b+1+i=b+ (i+1) by omega];exact this⟩
def At.app{b:Nat}{L L':List Vstep}(h:At st b (L++L')):At st b L/\At st (b+L.length) L':=by
 refine⟨fun i s hi=>h i s ?_,fun i s hi=> ?_⟩
 ·rw[ZO (ZD.1 hi).1];exact hi
 ·have:=h (L.length+i) s (by rw[ZJ (by omega),show L.length+i - L.length=i by omega];exact hi);rw[show b+L.length+i=b+ (L.length+i) by omega];exact this
end
def JI{n G:Nat}{sg:UInt8}(hsg:KU sg){body:Nat->List Vstep}{k b:Nat}(hn:∀b,(body b).length=k)(hb:∀b' i s,b<=b'->b'+k < n->(body b')[i]? =some s->StOk n G (b'+i) s)(hbn:b+ (k+sgL sg) < n){i:Nat}{s:Vstep}(h:(jK b sg body k)[i]? =some s):StOk n G (b+i) s:=by
 rcases hsg with rfl|rfl|rfl|rfl
 ·exact hb b i s (ZN _) hbn h
 ·have hb2:b+ (k+2) < n:=hbn;have h':(fkS (b+1) (b+k+2)::(body (b+1)++ [jpS b]))[i]? =some s:=h;cases i with
  |zero=>cases h';exact .fk (by omega) (by omega)
  |succ i=>
   rw[abb] at h';by_cases hi:i < (body (b+1)).length
   ·rw[ZO hi] at h';have:=hb (b+1) i s (by omega) (by omega) h';rw[show b+ (i+1)=b+1+i by omega];exact this
   ·rw[ZJ (by omega)] at h';have:s=jpS b:=by have:=ZQ h';simpa using this
    subst this;exact .jp (by omega)
 ·have hb2:b+ (k+1) < n:=hbn;have h':(body b++ [fkS b (b+k+1)])[i]? =some s:=h;by_cases hi:i < (body b).length
  ·rw[ZO hi] at h';exact hb b i s (ZN _) (by omega) h'
  ·rw[ZJ (by omega)] at h';have:s=fkS b (b+k+1):=by have:=ZQ h';simpa using this
   subst this;exact .fk (by omega) (by omega)
 ·have hb2:b+ (k+1) < n:=hbn;have h':(fkS (b+1) (b+k+1)::body (b+1))[i]? =some s:=h;cases i with
  |zero=>cases h';exact .fk (by omega) (by omega)
  |succ i=>rw[abb] at h';have:=hb (b+1) i s (by omega) (by omega) h';rw[show b+ (i+1)=b+1+i by omega];exact this
def Nd.code_ok{n G:Nat}:∀ (x:Nd),x.Ok G->∀b,b+x.len < n->∀i s,(x.code b)[i]? =some s->StOk n G (b+i) s
 |.set S sg,hok,b,hb,i,s,h=>JI hok.2 (k:=1) (fun _=>rfl) (fun b' i' s' h1 h2 h3=>by
   have hs:s'=tkS S:=by have:=ZQ h3;simpa using this
   have hi:i'=0:=by have:=(ZD.1 h3).1;simp at this;exact this
   subst hs hi;exact .tk hok.1 (by omega)) hb h
 |.grp g M sg,hok,b,hb,i,s,h=>by
  refine JI hok.2.1 (k:=M.len+2) (fun b'=>by rw[abm,ZR,M.code_len];rfl) (fun b' i' s' h1 h2 h3=> ?_) hb h;have hg:=hok.2.2.2;cases i' with
  |zero=>cases h3;exact .sv (by omega) (by omega)
  |succ i'=>
   rw[abb] at h3;by_cases hi:i' < (M.code (b'+1)).length
   ·rw[ZO hi] at h3;have:=M.code_ok (n:=n) hok.1 (b'+1) (by omega) i' s' h3;rw[show b'+ (i'+1)=b'+1+i' by omega];exact this
   ·have hl:=(ZD.1 h3).1;rw[ZR,M.code_len] at hl;rw[M.code_len] at hi;rw[ZJ (by rw[M.code_len];omega)] at h3;have hs:s'=svS (2 * g+1):=by have:=ZQ h3;simpa using this
    subst hs;simp at hl;exact .sv (by omega) (by omega)
 |.nil,hok,b,hb,i,s,h=>by cases h
 |.cons p r,hok,b,hb,i,s,h=>by
  have hb':b+ (p.len+r.len) < n:=hb;have h':(p.code b++r.code (b+p.len))[i]? =some s:=h;by_cases hi:i < (p.code b).length
  ·rw[ZO hi] at h';exact p.code_ok (n:=n) hok.1 b (by omega) i s h'
  ·rw[p.code_len] at hi;rw[ZJ (by rw[p.code_len];omega),p.code_len] at h';have:=r.code_ok (n:=n) hok.2 (b+p.len) (by omega) (i - p.len) s h';rw[show b+i=b+p.len+ (i - p.len) by omega];exact this
 |.alt r M,hok,b,hb,i,s,h=>by
  have hb':b+ (r.len+M.len+2) < n:=hb;have h':(fkS (b+1) (b+r.len+2)::(r.code (b+1)++jpS (b+r.len+2+M.len)::M.code (b+r.len+2)))[i]? =some s:=h;cases i with
  |zero=>cases h';exact .fk (by omega) (by omega)
  |succ i=>
   rw[abb] at h';by_cases hi:i < (r.code (b+1)).length
   ·rw[ZO hi] at h';have:=r.code_ok (n:=n) hok.1 (b+1) (by omega) i s h';rw[show b+ (i+1)=b+1+i by omega];exact this
   ·rw[r.code_len] at hi;rw[ZJ (by rw[r.code_len];omega),r.code_len] at h';by_cases h0:i=r.len
    ·subst h0;rw[aau] at h';cases h';exact .jp (by omega)
    ·rw[show i - r.len=(i - r.len - 1)+1 by omega,abb] at h';have:=M.code_ok (n:=n) hok.2 (b+r.len+2) (by omega) _ s h';rw[show b+ (i+1)=b+r.len+2+ (i - r.len - 1) by omega];exact this
def Nd.mok{G:Nat}(x:Nd)(hok:x.Ok G)(hl:x.len<=190)(hG:G<=9):MOk (x.code 0++ [dnS]) G:=by
 have e:(x.code 0++ [dnS]).length=x.len+1:=by rw[ZR,x.code_len];rfl
 refine⟨fun p s h=> ?_,by omega,hG⟩;rw[e];by_cases hp:p < (x.code 0).length
 ·rw[ZO hp] at h;have:=x.code_ok (n:=x.len+1) hok 0 (by omega) p s h;rw[Z6] at this;exact this
 ·rw[ZJ (by omega)] at h;have:s=dnS:=by have:=ZQ h;simpa using this
  subst this;exact .dn
set_option maxRecDepth 1000000
variable {MM:Nat}
def Kr(m:List UInt8)(i:Nat):KU (d9 m i):=by
 unfold d9;cases bQ m 42 i with
 |true=>exact .inr (.inl rfl)
 |false=>
  cases bQ m 43 i with
  |true=>exact .inr (.inr (.inl rfl))
  |false=>
   cases bQ m 63 i with
   |true=>exact .inr (.inr (.inr rfl))
   |false=>exact .inl rfl
def ob{m:List UInt8}:∀ (f mo i g:Nat) {x:Nd} {j g1:Nat},prs m f mo i g=.ok (x,j,g1)->i<=m.length->g<=9->x.Ok g1
 |0,mo,i,g,x,j,g1,h,hi,hg=>by cases h
 |f+1,0,i,g,x,j,g1,h,hi,hg=>by
  rw[QJ] at h;split at h
  ·cases h
  ·rename_i r j0 g0 hr;have h1:=fV f 1 i g hr hi hg;have k1:=ob f 1 i g hr hi hg;cases hb:bQ m 124 j0 with
   |false=>rw[hb,ZF] at h;cases h;exact k1
   |true=>
    rw[hb,ZG] at h;have hj:=ee hb;split at h
    ·cases h
    ·rename_i M k g2 hM;cases h;have h2:=fV f 0 (j0+1) g0 hM (by omega) h1.2.2.2.2.1;exact⟨k1.mono h2.2.2.2.1,ob f 0 (j0+1) g0 hM (by omega) h1.2.2.2.2.1⟩
 |f+1,1,i,g,x,j,g1,h,hi,hg=>by
  rw[M6] at h;split at h
  ·cases h;trivial
  ·rename_i c hc;cases h1:(b2i c==b2i 124) with
   |true=>rw[h1,ZG] at h;cases h;trivial
   |false=>
    rw[h1,ZF] at h;cases h2:(b2i c==b2i 41) with
    |true=>rw[h2,ZG] at h;cases h;trivial
    |false=>
     rw[h2,ZF] at h;split at h
     ·cases h
     ·rename_i p j0 g0 hp;have h3:=fV f 2 i g hp hi hg;have k3:=ob f 2 i g hp hi hg;split at h
      ·cases h
      ·rename_i r k g2 hr;cases h;have h4:=fV f 1 j0 g0 hr h3.2.1 h3.2.2.2.2.1;exact⟨k3.mono h4.2.2.2.1,ob f 1 j0 g0 hr h3.2.1 h3.2.2.2.2.1⟩
 |f+1,mo+2,i,g,x,j,g1,h,hi,hg=>by
  rw[prs] at h;cases hb:bQ m 40 i with
  |true=>
   rw[hb,ZG] at h;have hil:=ee hb;cases h9:g==9 with
   |true=>rw[h9,ZG] at h;cases h
   |false=>
    have hg9:g≠9:=Z9.1 h9;rw[h9,ZF] at h;split at h
    ·cases h
    ·rename_i M j0 g0 hM;have h1:=fV f 0 (i+1) (g+1) hM (by omega) (by omega);have k1:=ob f 0 (i+1) (g+1) hM (by omega) (by omega);cases h41:bQ m 41 j0 with
     |false=>rw[h41,ZF] at h;cases h
     |true=>
      rw[h41,ZG] at h;cases hs:(d9 m (j0+1)==0) with
      |true=>rw[hs,ZG] at h;cases h;exact⟨k1,.inl rfl,(fun h=>by rcases h with h|h<;> cases h),h1.2.2.2.1⟩
      |false=>
       rw[hs,ZF] at h;cases hz:(M.null && !(d9 m (j0+1)==63)) with
       |true=>rw[hz,ZG] at h;cases h
       |false=>
        rw[hz,ZF] at h;cases h;refine⟨k1,Kr m _,fun h=> ?_,h1.2.2.2.1⟩;cases hn:M.null with
        |false=>rfl
        |true=>rw[hn] at hz;rcases h with h|h<;> rw[h] at hz<;> cases hz
  |false=>
   rw[hb,ZF] at h;split at h
   ·cases h
   ·rename_i S j0 hS;have h1:=yI hS;cases hs:(d9 m j0==0) with
    |true=>rw[hs,ZG] at h;cases h;exact⟨h1.1,.inl rfl⟩
    |false=>rw[hs,ZF] at h;cases h;exact⟨h1.1,Kr m _⟩
def xX{m:List UInt8}{i:Nat}{q:Int × Int}(h:iR m i=.error q):q.1≠0:=by
 unfold iR at h;split at h
 ·cases h;simp
 ·rename_i b hb;cases hc:([91,93,92,94,45] :List UInt8).contains b with
  |true=>rw[hc,ZG] at h;cases h;simp
  |false=>rw[hc,ZF] at h;cases h
def xP{m:List UInt8}:∀ (f:Nat) (first:Bool) (i:Nat) (S:List Bool) {q:Int × Int},sb m f first i S=.error q->i<=m.length->m.length+1<=f+i->q.1≠0
 |0,first,i,S,q,h,hi,hf=>by omega
 |f+1,first,i,S,q,h,hi,hf=>by
  rw[sb] at h;cases hb:(!first && bQ m 93 i) with
  |true=>rw[hb,ZG] at h;cases h
  |false=>
   rw[hb,ZF] at h;split at h
   ·rename_i q' hp;cases h;exact xX hp
   ·rename_i a i1 hp;obtain⟨e1,e2⟩:=lO hp;cases hd:bQ m 45 i1 with
    |false=>rw[hd,ZF] at h;exact xP f false i1 _ h (by omega) (by omega)
    |true=>
     rw[hd,ZG] at h;split at h
     ·rename_i q' hp2;cases h;exact xX hp2
     ·rename_i b i3 hp2;obtain⟨e3,e4⟩:=lO hp2;cases hl:decide ((b2i b) < (b2i a)) with
      |true=>rw[hl,ZG] at h;cases h;simp
      |false=>rw[hl,ZF] at h;exact xP f false i3 _ h (by omega) (by omega)
def LZ{m:List UInt8}{i:Nat}(hi:i<=m.length){q:Int × Int}(h:Ao m i=.error q):q.1≠0:=by
 unfold Ao at h;split at h
 ·rename_i q' hT;cases h;have hs:kI (bQ m 94 i) i<=m.length/\i<=kI (bQ m 94 i) i:=by
   unfold kI;cases h:bQ m 94 i with
   |true=>have:=ee h;exact⟨by simp;omega,by simp⟩
   |false=>exact⟨hi,ZN _⟩
  exact xP _ _ _ _ hT hs.1 (by omega)
 ·cases h
def BA{m:List UInt8}{i:Nat}(hi:i < m.length){q:Int × Int}(h:pr m i=.error q):q.1≠0:=by
 unfold pr at h;rw[ZE hi] at h;dsimp only at h;generalize m[i] =c at h;cases h46:(b2i c==b2i 46) with
 |true=>rw[h46,ZG] at h;cases h
 |false=>
  rw[h46,ZF] at h;cases h92:(b2i c==b2i 92) with
  |true=>
   rw[h92,ZG] at h;split at h
   ·cases h;simp
   ·rename_i x hx;cases hl:ti x with
    |true=>rw[hl,ZG] at h;cases h;simp
    |false=>rw[hl,ZF] at h;cases h
  |false=>
   rw[h92,ZF] at h;cases h91:(b2i c==b2i 91) with
   |true=>rw[h91,ZG] at h;exact LZ (by omega) h
   |false=>
    rw[h91,ZF] at h;cases hcn:([42,43,63,41,124,93] :List UInt8).contains c with
    |true=>rw[hcn,ZG] at h;cases h;simp
    |false=>rw[hcn,ZF] at h;cases h
def jG{m:List UInt8}:∀ (f mo i g:Nat) {q:Int × Int},prs m f mo i g=.error q->i<=m.length->g<=9->3 * (m.length - i)+3<=f+mo->mo<=2->(mo=2->i < m.length)->q.1≠0
 |0,mo,i,g,q,h,hi,hg,hf,hmo,h2=>by omega
 |f+1,0,i,g,q,h,hi,hg,hf,hmo,h2=>by
  rw[QJ] at h;split at h
  ·rename_i q' hr;cases h;exact jG f 1 i g hr hi hg (by omega) (by omega) (by omega)
  ·rename_i r j0 g0 hr;have h1:=fV f 1 i g hr hi hg;cases hb:bQ m 124 j0 with
   |false=>rw[hb,ZF] at h;cases h
   |true=>
    rw[hb,ZG] at h;have hj:=ee hb;split at h
    ·rename_i q' hM;cases h;exact jG f 0 (j0+1) g0 hM (by omega) h1.2.2.2.2.1 (by omega) (by omega) (by omega)
    ·cases h
 |f+1,1,i,g,q,h,hi,hg,hf,hmo,h2=>by
  rw[M6] at h;split at h
  ·cases h
  ·rename_i c hc;have hil:=(ZD.1 hc).1;cases h1:(b2i c==b2i 124) with
   |true=>rw[h1,ZG] at h;cases h
   |false=>
    rw[h1,ZF] at h;cases h2:(b2i c==b2i 41) with
    |true=>rw[h2,ZG] at h;cases h
    |false=>
     rw[h2,ZF] at h;split at h
     ·rename_i q' hp;cases h;exact jG f 2 i g hp hi hg (by omega) (by omega) (fun _=>hil)
     ·rename_i p j0 g0 hp;have h3:=fV f 2 i g hp hi hg;have h4:=h3.2.2.2.2.2 (by omega);split at h
      ·rename_i q' hr;cases h;exact jG f 1 j0 g0 hr h3.2.1 h3.2.2.2.2.1 (by omega) (by omega) (by omega)
      ·cases h
 |f+1,2,i,g,q,h,hi,hg,hf,hmo,h2=>by
  rw[V9] at h;have hil:=h2 rfl;cases hb:bQ m 40 i with
  |true=>
   rw[hb,ZG] at h;cases h9:g==9 with
   |true=>rw[h9,ZG] at h;cases h;simp
   |false=>
    have hg9:g≠9:=Z9.1 h9;rw[h9,ZF] at h;split at h
    ·rename_i q' hM;cases h;exact jG f 0 (i+1) (g+1) hM (by omega) (by omega) (by omega) (by omega) (by omega)
    ·rename_i M j0 g0 hM;cases h41:bQ m 41 j0 with
     |false=>rw[h41,ZF] at h;cases h;simp
     |true=>
      rw[h41,ZG] at h;cases hs:(d9 m (j0+1)==0) with
      |true=>rw[hs,ZG] at h;cases h
      |false=>
       rw[hs,ZF] at h;cases hz:(M.null && !(d9 m (j0+1)==63)) with
       |true=>rw[hz,ZG] at h;cases h;simp
       |false=>rw[hz,ZF] at h;cases h
  |false=>
   rw[hb,ZF] at h;split at h
   ·rename_i q' hS;cases h;exact BA hil hS
   ·rename_i S j0 hS;cases hs:(d9 m j0==0) with
    |true=>rw[hs,ZG] at h;cases h
    |false=>rw[hs,ZF] at h;cases h
def rdM(m:List UInt8):Except (Int × Int) (Nd × Nat):=if 60 < m.length then .error (2,0) else match prs m 400 0 0 0 with
 |.error q=>.error q
 |.ok (x,j,g)=>if j < m.length then .error (1,(j:Int)) else .ok (x,g)
def E6(m:List UInt8):sC (MM+3000) m=some (match rdM m with
  |.error q=>.error q
  |.ok (x,g)=>.ok ⟨(g:Int),x.code 0++ [dnS]⟩):=by
 unfold sC rdM;by_cases h:60 < m.length
 ·rw[ZI h,ZI h]
 ·rw[ZH h,ZH h];have hc:AW (MM+3000) m=qk true m [] (prs m 400 0 0 0):=(FD (by omega) 400).1 (MM+3001) 0 0 [] (aad _) (by omega) (by omega) (by omega) (by simp;omega);rw[hc];cases hp:prs m 400 0 0 0 with
  |error q=>
   show(rx (flt q)).map Except.error=some (.error q);have:rx (flt q)=some q:=by unfold flt faultV rx;simp
   rw[this];rfl
  |ok p=>
   obtain⟨x,j,g⟩:=p;rw[iI];dsimp only;by_cases hj:j < m.length
   ·rw[ZI (by omega),ZI hj]
   ·rw[ZH (by omega),ZH hj];have hk:=fV 400 0 0 0 hp (aad _) (by omega);have hv:lg 32 ([] ++x.code ([] :List Vstep).length).length ([] ++x.code ([] :List Vstep).length) [doneS] =some (x.code 0++ [dnS]):=by unfold lg;rw[ZI ⟨rfl,by simp[doneS],by simp[x.code_len,doneS];omega⟩];rfl
    rw[hv];rfl
def IH{m:List UInt8}{q:Int × Int}(h:rdM m=.error q):q.1≠0:=by
 unfold rdM at h;split at h
 ·cases h;simp
 ·split at h
  ·rename_i q' hp;cases h;exact jG 400 0 0 0 hp (aad _) (by omega) (by omega) (by omega) (by omega)
  ·split at h
   ·cases h;simp
   ·cases h
def Ip{m:List UInt8}{q:Int × Int}(h:rdM m=.error q)(text:List UInt8):fO (MM+3000) m text=some (false,[],q.1):=by unfold fO;rw[E6,h];dsimp only;rw[ZH (IH h)]
set_option maxRecDepth 1000000
def WW(G:Nat->Option Nod)(tx:List UInt8)(q i:Nat)(L:List Rte):Prop:=∃f,W G tx f q i=some L
section
variable {G:Nat->Option Nod} {tx:List UInt8} {q i a b n nx:Nat}
def O1(h:G q=some .fin):WW G tx q i (if i=tx.length then [[]] else []):=⟨1,by rw[W,h]⟩
def OC(h:G q=some (.fk a b)){A B:List Rte}(ha:WW G tx a i A)(hb:WW G tx b i B):WW G tx q i (A++B):=by obtain⟨f1,h1⟩:=ha;obtain⟨f2,h2⟩:=hb;refine⟨f1+f2+1,?_⟩;rw[W,h];dsimp only;rw[Rs h1 (abf _ _),Rs h2 (Nat.le_add_left _ _)];rfl
def Vg(h:G q=some (.sv n nx)){A:List Rte}(ha:WW G tx nx i A):WW G tx q i (A.map ((n,i):: ·)):=by obtain⟨f1,h1⟩:=ha;refine⟨f1+1,?_⟩;rw[W,h];dsimp only;rw[h1];rfl
def Yb(h:G q=some (.jp nx)){A:List Rte}(ha:WW G tx nx i A):WW G tx q i A:=by obtain⟨f1,h1⟩:=ha;refine⟨f1+1,?_⟩;rw[W,h];exact h1
def KR(tx:List UInt8)(S:List Bool)(K:Nat->List Rte)(i:Nat):List Rte:=match tx[i]? with
 |none=>[]
 |some c=>if inS S c=true then K (i+1) else []
def YY{S:List Bool}(h:G q=some (.tk S nx)){K:Nat->List Rte}(hk:i+1<=tx.length->WW G tx nx (i+1) (K (i+1))):WW G tx q i (KR tx S K i):=by
 unfold KR;cases hc:tx[i]? with
 |none=>exact⟨1,by rw[W,h];dsimp only;rw[hc]⟩
 |some c=>
  dsimp only;by_cases hi:inS S c=true
  ·obtain⟨f,hf⟩:=hk (ZD.1 hc).1;rw[ZI hi];refine⟨f+1,?_⟩;rw[W,h];dsimp only;rw[hc];dsimp only;rw[ZI hi,hf]
  ·rw[ZH hi];refine⟨1,?_⟩;rw[W,h];dsimp only;rw[hc];dsimp only;rw[ZH hi]
abbrev DnT:=(Nat->List Rte)->Nat->List Rte
def Dn(G:Nat->Option Nod)(tx:List UInt8)(nu:Bool)(b e:Nat)(D:DnT):Prop:=
 ∀K i,i<=tx.length->(∀j,j<=tx.length->(i < j\/(nu=true/\i=j))->WW G tx e j (K j))->WW G tx b i (D K i)
def wE(D:DnT)(K:Nat->List Rte):Nat->Nat->List Rte
 |0,i=>[]
 |n+1,i=>D (wE D K n) i++K i
variable {D:DnT} {nu:Bool} {e f:Nat}
def Dn.any(h:Dn G tx nu b e D):Dn G tx true b e D:=fun K i hi hk=>h K i hi fun j hj hij=>hk j hj (hij.imp id fun h=>⟨rfl,h.2⟩)
def Dn.jp(h:Dn G tx nu b e D)(hj:G e=some (.jp f)):Dn G tx nu b f D:=fun K i hi hk=>h K i hi fun j hj' hij=>Yb hj (hk j hj' hij)
def DK(hf:G f=some (.fk b e))(hb:Dn G tx false b f D){K:Nat->List Rte}{i:Nat}(hk:∀j,j<=tx.length->i<=j->WW G tx e j (K j)):∀ (n j:Nat),j<=tx.length->i<=j->tx.length - j < n->WW G tx f j (wE D K n j)
 |0,j,h1,h2,h3=>by omega
 |n+1,j,h1,h2,h3=>by
  refine OC hf (hb _ j h1 fun j' h4 h5=> ?_) (hk j h1 h2);have h6:j < j':=by rcases h5 with h5|h5;exact h5;exact nomatch h5.1
  exact DK hf hb hk n j' h4 (by omega) (by omega)
def F4(hf:G f=some (.fk b e))(hb:Dn G tx false b f D):Dn G tx true f e (fun K=>wE D K (tx.length+1)):=fun K i hi hk=>
 DK hf hb (fun j h1 h2=>hk j h1 (by rcases Nat.lt_or_eq_of_le h2 with h|h;exact .inl h;exact .inr ⟨rfl,h⟩)) (tx.length+1) i hi (ZN _) (by omega)
def Hw(hf:G f=some (.fk b e))(hb:Dn G tx false b f D):Dn G tx false b e (fun K=>D (wE D K (tx.length+1))):=fun K i hi hk=>
 hb _ i hi fun j h1 h2=>by
  have h6:i < j:=by rcases h2 with h|h;exact h;exact nomatch h.1
  exact DK hf hb (fun j' h3 h4=>hk j' h3 (.inl (by omega))) (tx.length+1) j h1 (ZN _) (by omega)
def JP(hf:G f=some (.fk b e))(hb:Dn G tx nu b e D):Dn G tx true f e (fun K i=>D K i++K i):=fun K i hi hk=>
 OC hf (hb.any K i hi hk) (hk i hi (.inr ⟨rfl,rfl⟩))
def AN(tx:List UInt8)(sg:UInt8)(D:DnT):DnT:=fun K i=>
 bif sg==42 then wE D K (tx.length+1) i else bif sg==43 then D (wE D K (tx.length+1)) i else bif sg==63 then D K i++K i else D K i
def Ub(n:Nat)(D:DnT):DnT:=fun K i=>(D (fun j=>(K j).map ((2 * n+1,j):: ·)) i).map ((2 * n,i):: ·)
def Nd.dn(tx:List UInt8):Nd->DnT
 |.set S sg=>AN tx sg (KR tx S)
 |.grp n M sg=>AN tx sg (Ub n (M.dn tx))
 |.nil=>fun K=>K
 |.cons p r=>fun K=>p.dn tx (r.dn tx K)
 |.alt r M=>fun K i=>r.dn tx K i++M.dn tx K i
def Kx:Dn G tx true b b (fun K=>K):=fun K i hi hk=>hk i hi (.inr ⟨rfl,rfl⟩)
def F7{n1 n2:Bool}{D1 D2:DnT}{m:Nat}(h1:Dn G tx n1 b m D1)(h2:Dn G tx n2 m e D2):Dn G tx (n1 && n2) b e (fun K=>D1 (D2 K)):=fun K i hi hk=>
 h1 _ i hi fun j h3 h4=>h2 K j h3 fun j' h5 h6=>hk j' h5 (by
  rcases h4 with h4| ⟨h4,h7⟩
  ·left;rcases h6 with h6|h6<;> omega
  ·rcases h6 with h6| ⟨h6,h8⟩
   ·left;omega
   ·right;exact⟨by rw[h4,h6];rfl,by omega⟩)
def Kv{n1 n2:Bool}{D1 D2:DnT}{m1 m2:Nat}(h:G b=some (.fk m1 m2))(h1:Dn G tx n1 m1 e D1)(h2:Dn G tx n2 m2 e D2):Dn G tx (n1 || n2) b e (fun K i=>D1 K i++D2 K i):=fun K i hi hk=>
 OC h (h1 K i hi fun j h3 h4=>hk j h3 (h4.imp id fun h=>⟨by rw[h.1];rfl,h.2⟩)) (h2 K i hi fun j h3 h4=>hk j h3 (h4.imp id fun h=>⟨by rw[h.1,Bool.or_true],h.2⟩))
def JT{m1 m2:Nat}(h1:G b=some (.sv (2 * n) m1))(h2:G m2=some (.sv (2 * n+1) e))(hd:Dn G tx nu m1 m2 D):Dn G tx nu b e (Ub n D):=fun K i hi hk=>
 Vg h1 (hd _ i hi fun j h3 h4=>Vg h2 (hk j h3 h4))
def JX{S:List Bool}(h:G b=some (.tk S e)):Dn G tx false b e (KR tx S):=fun K i hi hk=>YY h fun h'=>hk (i+1) h' (.inl (by omega))
end
section
variable {st:List Vstep} {tx:List UInt8}
def Hm{sg:UInt8}(hsg:KU sg){nu:Bool}{D:DnT}{body:Nat->List Vstep}{n:Nat}(hn:∀b,(body b).length=n)(hb:∀b,At st b (body b)->Dn (gp st) tx nu b (b+n) D)(hne:(sg=42\/sg=43)->nu=false){b:Nat}(hat:At st b (jK b sg body n)):Dn (gp st) tx (sgN sg || nu) b (b+ (n+sgL sg)) (AN tx sg D):=by
 rcases hsg with rfl|rfl|rfl|rfl
 ·exact hb b hat
 ·obtain⟨k1,k2⟩:=At.head (show At st b (fkS (b+1) (b+n+2)::(body (b+1)++ [jpS b])) from hat);obtain⟨k3,k4⟩:=k2.app;rw[hn] at k4;have k5:=k4 0 _ rfl;rw[aa6] at k5;have h1:=hb _ k3;rw[hne (.inl rfl)] at h1;exact F4 (GE k1) (h1.jp (MW k5))
 ·obtain⟨k3,k4⟩:=At.app (show At st b (body b++ [fkS b (b+n+1)]) from hat);rw[hn] at k4;have k5:=k4 0 _ rfl;rw[aa6] at k5;have h1:=hb _ k3;rw[hne (.inr rfl)] at h1 ⊢;exact Hw (GE k5) h1
 ·obtain⟨k1,k2⟩:=At.head (show At st b (fkS (b+1) (b+n+1)::body (b+1)) from hat);have h1:=hb _ k2;rw[show b+1+n=b+ (n+1) by omega] at h1;exact JP (GE k1) h1
def Nd.den{G:Nat}:∀ (x:Nd),x.Ok G->∀b,At st b (x.code b)->Dn (gp st) tx x.null b (b+x.len) (x.dn tx)
 |.set S sg,hok,b,hat=>by have:=Hm (tx:=tx) (n:=1) hok.2 (nu:=false) (fun _=>rfl) (fun b' h'=>JX (Qw (show st[b']? =some (tkS S) from h' 0 _ rfl))) (fun _=>rfl) hat;rw[Bool.or_false] at this;exact this
 |.grp n M sg,hok,b,hat=>by refine Hm hok.2.1 (fun b'=>by rw[abm,ZR,M.code_len];rfl) (fun b' h'=> ?_) hok.2.2.1 hat;obtain⟨k1,k2⟩:=h'.head;obtain⟨k3,k4⟩:=k2.app;rw[M.code_len] at k4;have k5:=k4 0 _ rfl;rw[aa6] at k5;have h1:=M.den hok.1 _ k3;rw[show b'+ (M.len+2)=b'+1+M.len+1 by omega];exact JT (Rz k1) (Rz k5) h1
 |.nil,hok,b,hat=>Kx
 |.cons p r,hok,b,hat=>by obtain⟨k1,k2⟩:=At.app (show At st b (p.code b++r.code (b+p.len)) from hat);rw[p.code_len] at k2;have h2:=r.den hok.2 _ k2;rw[show b+p.len+r.len=b+ (p.len+r.len) by omega] at h2;exact F7 (D1:=p.dn tx) (D2:=r.dn tx) (p.den hok.1 b k1) h2
 |.alt r M,hok,b,hat=>by
  obtain⟨k1,k2⟩:=At.head (show At st b (fkS (b+1) (b+r.len+2)::(r.code (b+1)++jpS (b+r.len+2+M.len)::M.code (b+r.len+2))) from hat);obtain⟨k3,k4⟩:=k2.app;rw[r.code_len] at k4;obtain⟨k5,k6⟩:=k4.head;have e1:b+1+r.len+1=b+r.len+2:=by omega
  rw[e1] at k6;have h1:=(r.den hok.1 _ k3).jp (MW k5);have h2:=M.den hok.2 _ k6;have e:b+ (Nd.alt r M).len=b+r.len+2+M.len:=by show b+ (r.len+M.len+2)=_;omega
  rw[e];exact Kv (GE k1) h1 h2
def Nd.ways(tx:List UInt8)(x:Nd):List Rte:=x.dn tx (fun i=>if i=tx.length then [[]] else []) 0
def Nd.den_all{G:Nat}(x:Nd)(hok:x.Ok G):WW (gp (x.code 0++ [dnS])) tx 0 0 (x.ways tx):=by
 have hat:At (x.code 0++ [dnS]) 0 (x.code 0):=fun i s h=>by rw[Z6,ZO (ZD.1 h).1];exact h
 have hd:gp (x.code 0++ [dnS]) (0+x.len)=some .fin:=PC (by rw[Z6,ZJ (by rw[x.code_len];exact ZN _),x.code_len,aau];rfl);exact x.den hok 0 hat _ 0 (aad _) fun j _ _=>O1 hd
end
set_option maxRecDepth 100000
def dZ(N:Nat):Nat->(List (List UInt8))->(List (List UInt8))->Int->Option Bool
 |0,_,_,_=>none
 |n+1,x0,x1,x5=>
  bif decide (x5 < (x0.length:Int)) then
   (ci x0 x5).bind fun z1=>
   (ci x1 x5).bind fun z2=>
   bif !decide (z1=z2) then
    some false
   else
    dZ N n x0 x1 (w64 (x5+1))
  else
   some true
def eP(N:Nat)(x0:List (List UInt8))(x1:List (List UInt8)):Option Bool:=
 bif (x0.length:Int) != (x1.length:Int) then
  some false
 else
  dZ N N x0 x1 0
def fJ(N:Nat):Option Bool:=
 (fO N ([40,97,124,98,41,43,99] :List UInt8) ([97,98,99] :List UInt8)).bind fun z1=>
 (kN N ([60,36,49,62] :List UInt8) ([97,98,99] :List UInt8) z1.2.1).bind fun z2=>
 bif z1.2.2==0 then
  bif z1.1 then
   (eP N z1.2.1 ([([98] :List UInt8)] :List (List UInt8))).bind fun z3=>
   bif z3 then
    bif z2.2==0 then
     some (decide (z2.1=([60,98,62] :List UInt8)))
    else
     some false
   else
    some false
  else
   some false
 else
  some false
set_option maxRecDepth 100000
def ll(r:Bool):TV EE.T:=.a (.d .bool r)
def yd(r:Bool):RL EE.T:=.ret (ll r) []
def YF:Lvs:=⟨[(6,⟨[(0,false),(1,false),(5,false)],[],[],[]⟩)],[(4,⟨[(0,false),(1,false),(5,false)],[],[],[]⟩)],[],[],false,[],[],[],[]⟩
def Yk:List ResultVar:=[.tmp 4]
def Xp(N:Nat):Gam EE:=⟨[],EQT,[],[]⟩
def WQ(N:Nat):GOk Try.prog TT EE (Xp N):=GOk.nil cQ
def NQ(c:Code):List It2:=atL 4 c
def Pi(x0:List (List UInt8))(x1:List (List UInt8))(x5:Int):TS EE.T:=⟨26,[(0,.a (.d (.sl .str) x0)),(1,.a (.d (.sl .str) x1)),(5,.a (.d (.int .i64) x5))],[],[]⟩
def Vy(c:Code):List It2:=[.c c]
def Vv(x0:List (List UInt8))(x1:List (List UInt8)):TS EE.T:=⟨26,[(0,.a (.d (.sl .str) x0)),(1,.a (.d (.sl .str) x1))],[],[]⟩
def Od(c:Code)(f:(List (List UInt8))->(List (List UInt8))->Int->Option Bool)(x0:List (List UInt8))(x1:List (List UInt8))(x5:Int):Tree (Lf EE.T × Option Bool):=.leaf (.go (NQ c) (Pi x0 x1 x5),f x0 x1 x5)
abbrev UP(N:Nat)(r:Bool)(k:List It2)(s:TS EE.T):Prop:=fL (Y:=TT) EE (Xp N) YF Yk (fun u=>u=yd r) k s
def Mv(x:Bool):Tree (Lf EE.T × Option Bool):=.leaf (.done (yd x),some x)
def Qi{N:Nat}{r:Bool}:∀ (n:Nat) (x0:List (List UInt8)) (x1:List (List UInt8)) (x5:Int),dZ N n x0 x1 x5=some r->UP N r (NQ (aa 0 Try.f13)) (Pi x0 x1 x5)
 |0,_,_,_,h=>by cases h
 |n+1,x0,x1,x5,h=>au (m:=4000) (t:=
  .cond (decide (x5 < (x0.length:Int)))
  (
   .bnd (ci x0 x5) fun z1=>
   .bnd (ci x1 x5) fun z2=>
   .cond (!decide (z1=z2))
   (
    Mv false)
   (
    Od (aa 0 Try.f13) (dZ N n) x0 x1 (w64 (x5+1))))
  (
   Mv true)) (by kernel_rfl) (by kernel_rfl) h (⟨fun _=>fun _=>⟨aE (enc:=yd) rfl,fun h=>(Qi n) _ _ _ h⟩,aE (enc:=yd) rfl⟩)
def WB{N:Nat}{r:Bool}(x0:List (List UInt8))(x1:List (List UInt8))(h:eP N x0 x1=some r):UP N r (Vy (aa 0 Try.f13)) (Vv x0 x1):=
 au (m:=4000) (t:=
 .cond ((x0.length:Int) != (x1.length:Int))
 (
  Mv false)
 (
  Od (aa 0 Try.f13) (dZ N N) x0 x1 0)) (by kernel_rfl) (by kernel_rfl) h (⟨aE (enc:=yd) rfl,fun h=>Qi N _ _ _ h⟩)
def vB{N:Nat}(x0:List (List UInt8))(x1:List (List UInt8)){r:Bool}(h:eP N x0 x1=some r)(I:Rn):aI Try.prog 13 (([.a (.d (.sl .str) x0),.a (.d (.sl .str) x1)] :List (TV EE.T)).map (TV.to EE.toEnc I)) [] (fun out H=>out=.ret ((ll r).to EE.toEnc I)/\H=[]):=
 (uF (aa 0 Try.f13) 26 mixed (WQ N) Try.func13 (by kernel_rfl) rfl rfl rfl rfl (WB x0 x1 h) I).mono fun out H h=>cH.ret rfl h
def jf(N:Nat):List (TV EE.T)->PV EE.T
 | [u0,u1] =>match nr (.sl .str) u0,nr (.sl .str) u1 with
   |some x0,some x1=>.opt (eP N x0 x1) ll
   |_,_=>.bad
 |_=>.bad
def mX(N:Nat)(us:List (TV EE.T)):(jf N us).ok fun u=>∀I,aI Try.prog 13 (us.map (TV.to EE.toEnc I)) [] (fun out H=>out=.ret (u.to EE.toEnc I)/\H=[]):=by
 unfold jf;split
 ·split
  ·rename_i h0 h1;intro z hz I;refine gz ?_ (vB _ _ hz I);exact⟨fB h0 I,fB h1 I,trivial⟩
  ·trivial
 ·trivial
def kZ(r:Bool):TV EE.T:=.a (.d .bool r)
def tI(r:Bool):RL EE.T:=.ret (kZ r) []
def YG:Lvs:=⟨[],[],[],[],false,[],[],[],[]⟩
def YO:List ResultVar:=[.tmp 0]
def XV(N:Nat):Gam EE:=⟨[⟨13,jf N⟩,⟨14,np N⟩,⟨9,lC N⟩],EQT,[],[]⟩
def WC(N:Nat):GOk Try.prog TT EE (XV N):=GOk.cons (mX N) (GOk.cons (wI N) (GOk.cons (pN N) (GOk.nil cQ)))
def Xh(c:Code):List It2:=[.c c]
def W6:TS EE.T:=⟨34,[],[],[]⟩
abbrev YI(N:Nat)(r:Bool)(k:List It2)(s:TS EE.T):Prop:=fL (Y:=TT) EE (XV N) YG YO (fun u=>u=tI r) k s
def Hh(x:Bool):Tree (Lf EE.T × Option Bool):=.leaf (.done (tI x),some x)
def VR{N:Nat}{r:Bool}(h:fJ N=some r):YI N r (Xh (aa 0 Try.f11)) (W6):=
 au (m:=4000) (t:=
 .bnd (fO N ([40,97,124,98,41,43,99] :List UInt8) ([97,98,99] :List UInt8)) fun z1=>
 .bnd (kN N ([60,36,49,62] :List UInt8) ([97,98,99] :List UInt8) z1.2.1) fun z2=>
 .cond (z1.2.2==0)
 (
  .cond (z1.1)
  (
   .bnd (eP N z1.2.1 ([([98] :List UInt8)] :List (List UInt8))) fun z3=>
   .cond (z3)
   (
    .cond (z2.2==0)
    (
     Hh (decide (z2.1=([60,98,62] :List UInt8))))
    (
     Hh false))
   (
    Hh false))
  (
   Hh false))
 (
  Hh false)) (by kernel_rfl) (by kernel_rfl) h (fun _=>fun _=>⟨⟨fun _=>⟨⟨aE (enc:=tI) rfl,aE (enc:=tI) rfl⟩,aE (enc:=tI) rfl⟩,aE (enc:=tI) rfl⟩,aE (enc:=tI) rfl⟩)
def vI{N:Nat}{r:Bool}(h:fJ N=some r)(I:Rn):aI Try.prog 11 (([] :List (TV EE.T)).map (TV.to EE.toEnc I)) [] (fun out H=>out=.ret ((kZ r).to EE.toEnc I)/\H=[]):=
 (uF (aa 0 Try.f11) 34 mixed (WC N) Try.func11 (by kernel_rfl) rfl rfl rfl rfl (VR h) I).mono fun out H h=>cH.ret rfl h
def lc(N:Nat):List (TV EE.T)->PV EE.T
 | [] =>.opt (fJ N) kZ
 |_=>.bad
def uH(N:Nat)(us:List (TV EE.T)):(lc N us).ok fun u=>∀I,aI Try.prog 11 (us.map (TV.to EE.toEnc I)) [] (fun out H=>out=.ret (u.to EE.toEnc I)/\H=[]):=by
 unfold lc;split
 ·intro z hz I;exact vI hz I
 ·trivial
set_option maxRecDepth 100000
def aX(N:Nat)(x1:UInt8)(y0:VReader):Option (Bool × VReader):=
 bif decide (y0.At < (y0.M.length:Int)) then
  (ci y0.M y0.At).bind fun z1=>
  some ((b2i z1)==(b2i x1),y0)
 else
  some (false,y0)
def aw(N:Nat)(x1:UInt8)(y0:VReader):Option (Bool × VReader):=
 (aX N x1 y0).bind fun z1=>
 bif z1.1 then
  some (z1.1,({ M:=z1.2.M,At:=w64 (z1.2.At+1),Groups:=z1.2.Groups,F:=z1.2.F }:VReader))
 else
  some (z1.1,z1.2)
def gU(N:Nat)(x0:UInt8):Option Bool:=
 bif decide ((b2i x0)>=(b2i 97)) then
  bif decide ((b2i x0)<=(b2i 122)) then
   some true
  else
   bif decide ((b2i x0)>=(b2i 65)) then
    bif decide ((b2i x0)<=(b2i 90)) then
     some true
    else
     some ((b2i x0)==(b2i 95))
   else
    some ((b2i x0)==(b2i 95))
 else
  bif decide ((b2i x0)>=(b2i 65)) then
   bif decide ((b2i x0)<=(b2i 90)) then
    some true
   else
    some ((b2i x0)==(b2i 95))
  else
   some ((b2i x0)==(b2i 95))
def ej(N:Nat)(x0:UInt8):Option Bool:=
 bif decide ((b2i x0)>=(b2i 48)) then
  some (decide ((b2i x0)<=(b2i 57)))
 else
  some false
def ai(N:Nat)(x1:Int)(x2:Int)(y0:VReader):Option VReader:=
 bif y0.F.Err==0 then
  some ({ M:=y0.M,At:=y0.At,Groups:=y0.Groups,F:=({ Err:=x1,At:=x2 }:VFault) }:VReader)
 else
  some y0
def gY(N:Nat)(x0:UInt8):Option (List Bool):=
 (o9 1 256 256).bind fun z1=>
 (cf z1.1 (b2i x0)).bind fun z2=>
 (ja (List.replicate z1.2 false) (0+z2) true).bind fun z3=>
 (wJ z1.1 z1.2 z3).bind fun z4=>
 some z4
def cP(N:Nat):Nat->(List UInt8)->Int->VReader->Option (Bool × VReader)
 |0,_,_,_=>none
 |n+1,x1,x5,Zf=>
  bif decide (x5 < (x1.length:Int)) then
   (ci x1 x5).bind fun z1=>
   (aX N z1 Zf).bind fun z2=>
   bif z2.1 then
    some (true,z2.2)
   else
    cP N n x1 (w64 (x5+1)) z2.2
  else
   some (false,Zf)
def a8(N:Nat)(x1:List UInt8)(y0:VReader):Option (Bool × VReader):=
 cP N N x1 0 y0
structure RecC4 where
 n:Nat
 k:(List (List VPiece))->Option (PR (Bool))
def kp(N:RecC4)(x0:List (List VPiece)):Option (PR (Bool)):=N.k x0
def bL(N:RecC4)(k6:(List (List VPiece))->Int->Bool->Int->Option (PR Bool))(k2:(List (List VPiece))->Int->Option (PR Bool))(n:Nat)(x0:List (List VPiece))(x3:Int)(x4:Bool)(x5:Int):Option (PR Bool):=
 k6 x0 x3 x4 (w64 (x5+1))
def a7(N:RecC4)(k2:(List (List VPiece))->Int->Option (PR Bool)):Nat->(List (List VPiece))->Int->Bool->Int->Option (PR Bool)
 |0,_,_,_,_=>none
 |n+1,x0,x3,x4,x5=>
  (ci x0 x3).bind fun z1=>
  bif decide (x5 < (z1.length:Int)) then
   (ci x0 x3).bind fun z2=>
   (ci z2 x5).bind fun z3=>
   bif x4 then
    bif (b2i z3.Sign)==(b2i 42) then
     bL N (a7 N k2 n) k2 n x0 x3 true x5
    else
     bif (b2i z3.Sign)==(b2i 63) then
      bL N (a7 N k2 n) k2 n x0 x3 true x5
     else
      bif z3.Group then
       (kp N z3.Rows).bind fun z4=>
       match z4 with
       |.pan vz4=>some (.pan vz4)
       |.ok z5=>bL N (a7 N k2 n) k2 n x0 x3 z5 x5
      else
       bL N (a7 N k2 n) k2 n x0 x3 false x5
   else
    bL N (a7 N k2 n) k2 n x0 x3 false x5
  else
   bif x4 then
    some (.ok true)
   else
    k2 x0 (w64 (x3+1))
def bD(N:RecC4):Nat->(List (List VPiece))->Int->Option (PR Bool)
 |0,_,_=>none
 |n+1,x0,x3=>
  bif decide (x3 < (x0.length:Int)) then
   a7 N (bD N n) n x0 x3 true 0
  else
   some (.ok false)
def hZ(N:RecC4)(x0:List (List VPiece)):Option (PR Bool):=
 bD N N.n x0 0
def bG(n0:Nat):Nat->(List (List VPiece))->Option (PR (Bool))
 |0,_=>none
 |m+1,x0=>hZ ⟨n0,bG n0 m⟩ x0
def kA(N:Nat)(x0:List (List VPiece)):Option (PR (Bool)):=bG N N x0
structure RecC3 where
 n:Nat
 k:VReader->Option (PR ((List (List VPiece)) × VReader))
def jI(N:RecC3)(y0:VReader):Option (PR ((List (List VPiece)) × VReader)):=N.k y0
abbrev aj:=VPiece × VReader
def dQ(N:RecC3):Nat->Nat->Nat->Int->Bool->(List Bool)->Int->(List (List VPiece))->UInt8->(List Bool)->VReader->Option (PR aj)
 |0,_,_,_,_,_,_,_,_,_,_=>none
 |n+1,x4_n,x4_c,x5,b2_0,b2_1,b2_2,b2_3,b2_4,b27,Zf=>
  bif decide (x5 < 256) then
   (cf x4_n x5).bind fun z28=>
   (ja b27 (0+z28) true).bind fun z29=>
   dQ N n x4_n x4_c (w64 (x5+1)) b2_0 b2_1 b2_2 b2_3 b2_4 z29 Zf
  else
   (wJ x4_n x4_c b27).bind fun z30=>
   some (.ok ((VPiece.mk false z30 0 ([] :List (List VPiece)) 0),Zf))
def cN(N:RecC3)(n:Nat)(b2_0:Bool)(b2_1:List Bool)(b2_2:Int)(b2_3:List (List VPiece))(b2_4:UInt8)(Zf:VReader):Option (PR aj):=
 (ci Zf.M (w64 ((w64 (Zf.At+1)) - 1))).bind fun z31=>
 (gY N.n z31).bind fun z32=>
 some (.ok ((VPiece.mk false z32 0 ([] :List (List VPiece)) 0),({ M:=Zf.M,At:=w64 (Zf.At+1),Groups:=Zf.Groups,F:=Zf.F }:VReader)))
def b9(N:RecC3)(k19:Bool->Nat->Nat->Bool->Bool->(List Bool)->Int->(List (List VPiece))->UInt8->(List Bool)->VReader->Option (PR aj)):Nat->Bool->Nat->Nat->Int->Int->Bool->(List Bool)->Int->(List (List VPiece))->UInt8->(List Bool)->VReader->Option (PR aj)
 |0,_,_,_,_,_,_,_,_,_,_,_,_=>none
 |n+1,x6,x7_n,x7_c,x10,x11,b2_0,b2_1,b2_2,b2_3,b2_4,b117,Zf=>
  bif decide (x11<=x10) then
   (cf x7_n x11).bind fun z49=>
   (ja b117 (0+z49) true).bind fun z50=>
   b9 N k19 n x6 x7_n x7_c x10 (w64 (x11+1)) b2_0 b2_1 b2_2 b2_3 b2_4 z50 Zf
  else
   k19 x6 x7_n x7_c false b2_0 b2_1 b2_2 b2_3 b2_4 b117 Zf
def eu(N:RecC3)(k19:Bool->Nat->Nat->Bool->Bool->(List Bool)->Int->(List (List VPiece))->UInt8->(List Bool)->VReader->Option (PR aj))(n:Nat)(x6:Bool)(x7_n:Nat)(x7_c:Nat)(x9:Int)(x10:Int)(b2_0:Bool)(b2_1:List Bool)(b2_2:Int)(b2_3:List (List VPiece))(b2_4:UInt8)(b117:List Bool)(Zf:VReader):Option (PR aj):=
 b9 N k19 n x6 x7_n x7_c x10 x9 b2_0 b2_1 b2_2 b2_3 b2_4 b117 Zf
def di(N:RecC3)(k19:Bool->Nat->Nat->Bool->Bool->(List Bool)->Int->(List (List VPiece))->UInt8->(List Bool)->VReader->Option (PR aj))(n:Nat)(x6:Bool)(x7_n:Nat)(x7_c:Nat)(b2_0:Bool)(b2_1:List Bool)(b2_2:Int)(b2_3:List (List VPiece))(b2_4:UInt8)(b117:List Bool)(Zf:VReader):Option (PR aj):=
 bif Zf.At==(Zf.M.length:Int) then
  (ai N.n 1 Zf.At Zf).bind fun z34=>
  some (.ok ((VPiece.mk false ([] :List Bool) 0 ([] :List (List VPiece)) 0),z34))
 else
  (a8 N.n ([91,93,92,94,45] :List UInt8) Zf).bind fun z35=>
  bif z35.1 then
   (ai N.n 1 z35.2.At z35.2).bind fun z36=>
   some (.ok ((VPiece.mk false ([] :List Bool) 0 ([] :List (List VPiece)) 0),z36))
  else
   (ci z35.2.M z35.2.At).bind fun z37=>
   (aw N.n 45 ({ M:=z35.2.M,At:=w64 (z35.2.At+1),Groups:=z35.2.Groups,F:=z35.2.F }:VReader)).bind fun z38=>
   bif z38.1 then
    bif z38.2.At==(z38.2.M.length:Int) then
     (ai N.n 1 z38.2.At z38.2).bind fun z39=>
     some (.ok ((VPiece.mk false ([] :List Bool) 0 ([] :List (List VPiece)) 0),z39))
    else
     (a8 N.n ([91,93,92,94,45] :List UInt8) z38.2).bind fun z40=>
     bif z40.1 then
      (ai N.n 1 z40.2.At z40.2).bind fun z41=>
      some (.ok ((VPiece.mk false ([] :List Bool) 0 ([] :List (List VPiece)) 0),z41))
     else
      (ci z40.2.M z40.2.At).bind fun z42=>
      bif decide ((w64 (b2i z42)) < (w64 (b2i z37))) then
       (ai N.n 3 z40.2.At z40.2).bind fun z43=>
       some (.ok ((VPiece.mk false ([] :List Bool) 0 ([] :List (List VPiece)) 0),z43))
      else
       eu N k19 n x6 x7_n x7_c (w64 (b2i z37)) (w64 (b2i z42)) b2_0 b2_1 b2_2 b2_3 b2_4 b117 ({ M:=z40.2.M,At:=w64 (z40.2.At+1),Groups:=z40.2.Groups,F:=z40.2.F }:VReader)
   else
    eu N k19 n x6 x7_n x7_c (w64 (b2i z37)) (w64 (b2i z37)) b2_0 b2_1 b2_2 b2_3 b2_4 b117 z38.2
def cx(N:RecC3):Nat->Bool->Nat->Nat->Int->Bool->(List Bool)->Int->(List (List VPiece))->UInt8->(List Bool)->VReader->Option (PR aj)
 |0,_,_,_,_,_,_,_,_,_,_,_=>none
 |n+1,x6,x7_n,x7_c,x12,b2_0,b2_1,b2_2,b2_3,b2_4,b117,Zf=>
  bif decide (x12 < 256) then
   (cf x7_n x12).bind fun z44=>
   (b117[0+z44]?).bind fun z45=>
   (cf x7_n x12).bind fun z46=>
   (ja b117 (0+z46) (!(z45==x6))).bind fun z47=>
   cx N n x6 x7_n x7_c (w64 (x12+1)) b2_0 b2_1 b2_2 b2_3 b2_4 z47 Zf
  else
   (wJ x7_n x7_c b117).bind fun z48=>
   some (.ok ((VPiece.mk false z48 0 ([] :List (List VPiece)) 0),Zf))
def bl(N:RecC3):Nat->Bool->Nat->Nat->Bool->Bool->(List Bool)->Int->(List (List VPiece))->UInt8->(List Bool)->VReader->Option (PR aj)
 |0,_,_,_,_,_,_,_,_,_,_,_=>none
 |n+1,x6,x7_n,x7_c,x8,b2_0,b2_1,b2_2,b2_3,b2_4,b117,Zf=>
  bif x8 then
   di N (bl N n) n x6 x7_n x7_c b2_0 b2_1 b2_2 b2_3 b2_4 b117 Zf
  else
   (aw N.n 93 Zf).bind fun z33=>
   bif !z33.1 then
    di N (bl N n) n x6 x7_n x7_c b2_0 b2_1 b2_2 b2_3 b2_4 b117 z33.2
   else
    cx N n x6 x7_n x7_c 0 b2_0 b2_1 b2_2 b2_3 b2_4 b117 z33.2
def bO(N:RecC3)(y0:VReader):Option (PR aj):=
 (ci y0.M y0.At).bind fun z1=>
 (aw N.n 46 y0).bind fun z2=>
 bif z2.1 then
  (o9 1 256 256).bind fun z3=>
  dQ N N.n z3.1 z3.2 0 false ([] :List Bool) 0 ([] :List (List VPiece)) 0 (List.replicate z3.2 false) z2.2
 else
  (aw N.n 92 z2.2).bind fun z4=>
  bif z4.1 then
   bif z4.2.At==(z4.2.M.length:Int) then
    (ai N.n 1 z4.2.At z4.2).bind fun z5=>
    some (.ok ((VPiece.mk false ([] :List Bool) 0 ([] :List (List VPiece)) 0),z5))
   else
    (ci z4.2.M z4.2.At).bind fun z6=>
    (gU N.n z6).bind fun z7=>
    bif z7 then
     (ci z4.2.M z4.2.At).bind fun z8=>
     bif (b2i z8) != (b2i 95) then
      (ai N.n 1 z4.2.At z4.2).bind fun z9=>
      some (.ok ((VPiece.mk false ([] :List Bool) 0 ([] :List (List VPiece)) 0),z9))
     else
      (ci z4.2.M z4.2.At).bind fun z10=>
      (ej N.n z10).bind fun z11=>
      bif z11 then
       (ai N.n 1 z4.2.At z4.2).bind fun z12=>
       some (.ok ((VPiece.mk false ([] :List Bool) 0 ([] :List (List VPiece)) 0),z12))
      else
       cN N N.n false ([] :List Bool) 0 ([] :List (List VPiece)) 0 z4.2
    else
     (ci z4.2.M z4.2.At).bind fun z13=>
     (ej N.n z13).bind fun z14=>
     bif z14 then
      (ai N.n 1 z4.2.At z4.2).bind fun z15=>
      some (.ok ((VPiece.mk false ([] :List Bool) 0 ([] :List (List VPiece)) 0),z15))
     else
      cN N N.n false ([] :List Bool) 0 ([] :List (List VPiece)) 0 z4.2
  else
   (aw N.n 91 z4.2).bind fun z16=>
   bif z16.1 then
    (aw N.n 94 z16.2).bind fun z17=>
    (o9 1 256 256).bind fun z18=>
    bl N N.n z17.1 z18.1 z18.2 true false ([] :List Bool) 0 ([] :List (List VPiece)) 0 (List.replicate z18.2 false) z17.2
   else
    (aX N.n 40 z16.2).bind fun z19=>
    bif z19.1 then
     bif z19.2.Groups==9 then
      (ai N.n 2 z19.2.At z19.2).bind fun z20=>
      some (.ok ((VPiece.mk false ([] :List Bool) 0 ([] :List (List VPiece)) 0),z20))
     else
      (jI N ({ M:=z19.2.M,At:=w64 (z19.2.At+1),Groups:=w64 (z19.2.Groups+1),F:=z19.2.F }:VReader)).bind fun z21=>
      match z21 with
      |.pan vz21=>some (.pan vz21)
      |.ok z22=>
       bif z22.2.F.Err==0 then
        (aw N.n 41 z22.2).bind fun z23=>
        bif !z23.1 then
         (ai N.n 1 z23.2.At z23.2).bind fun z24=>
         some (.ok ((VPiece.mk true ([] :List Bool) (w64 (z19.2.Groups+1)) z22.1 0),z24))
        else
         some (.ok ((VPiece.mk true ([] :List Bool) (w64 (z19.2.Groups+1)) z22.1 0),z23.2))
       else
        some (.ok ((VPiece.mk true ([] :List Bool) (w64 (z19.2.Groups+1)) z22.1 0),z22.2))
    else
     (a8 N.n ([42,43,63,41,124,93] :List UInt8) z19.2).bind fun z25=>
     bif z25.1 then
      (ai N.n 1 z25.2.At z25.2).bind fun z26=>
      some (.ok ((VPiece.mk false ([] :List Bool) 0 ([] :List (List VPiece)) 0),z26))
     else
      (gY N.n z1).bind fun z27=>
      some (.ok ((VPiece.mk false z27 0 ([] :List (List VPiece)) 0),({ M:=z25.2.M,At:=w64 (z25.2.At+1),Groups:=z25.2.Groups,F:=z25.2.F }:VReader)))
abbrev ah:=(List (List VPiece)) × VReader
def bb(N:RecC3)(k4:(List (List VPiece))->(List VPiece)->VReader->Option (PR ah))(k2:(List (List VPiece))->VReader->Option (PR ah))(n:Nat)(x3:List (List VPiece))(x4:List VPiece)(b5:VPiece)(Zf:VReader):Option (PR ah):=
 (ie 72 x4 ([(VPiece.mk b5.Group b5.Set b5.Number b5.Rows b5.Sign)] :List VPiece)).bind fun z11=>
 k4 x3 z11 Zf
def aO(N:RecC3)(k4:(List (List VPiece))->(List VPiece)->VReader->Option (PR ah))(k2:(List (List VPiece))->VReader->Option (PR ah))(n:Nat)(x3:List (List VPiece))(x4:List VPiece)(b5:VPiece)(Zf:VReader):Option (PR ah):=
 (ci Zf.M Zf.At).bind fun z10=>
 bb N k4 k2 n x3 x4 (VPiece.mk b5.Group b5.Set b5.Number b5.Rows z10) ({ M:=Zf.M,At:=w64 (Zf.At+1),Groups:=Zf.Groups,F:=Zf.F }:VReader)
def ba(N:RecC3)(k2:(List (List VPiece))->VReader->Option (PR ah))(n:Nat)(x3:List (List VPiece))(x4:List VPiece)(Zf:VReader):Option (PR ah):=
 (ie 24 x3 ([x4] :List (List VPiece))).bind fun z12=>
 (aw N.n 124 Zf).bind fun z13=>
 bif !z13.1 then
  some (.ok (z12,z13.2))
 else
  k2 z12 z13.2
def aH(N:RecC3)(k2:(List (List VPiece))->VReader->Option (PR ah)):Nat->(List (List VPiece))->(List VPiece)->VReader->Option (PR ah)
 |0,_,_,_=>none
 |n+1,x3,x4,Zf=>
  bif Zf.F.Err==0 then
   bif decide (Zf.At < (Zf.M.length:Int)) then
    (aX N.n 124 Zf).bind fun z1=>
    bif !z1.1 then
     (aX N.n 41 z1.2).bind fun z2=>
     bif !z2.1 then
      (bO N z2.2).bind fun z3=>
      match z3 with
      |.pan vz3=>some (.pan vz3)
      |.ok z4=>
       bif z4.2.F.Err==0 then
        (a8 N.n ([42,43,63] :List UInt8) z4.2).bind fun z5=>
        bif z5.1 then
         bif z4.1.Group then
          (aX N.n 63 z5.2).bind fun z6=>
          bif !z6.1 then
           (kA N.n z4.1.Rows).bind fun z7=>
           match z7 with
           |.pan vz7=>some (.pan vz7)
           |.ok z8=>
            bif z8 then
             (ai N.n 4 z6.2.At z6.2).bind fun z9=>
             aO N (aH N k2 n) k2 n x3 x4 (VPiece.mk z4.1.Group z4.1.Set z4.1.Number z4.1.Rows z4.1.Sign) z9
            else
             aO N (aH N k2 n) k2 n x3 x4 (VPiece.mk z4.1.Group z4.1.Set z4.1.Number z4.1.Rows z4.1.Sign) z6.2
          else
           aO N (aH N k2 n) k2 n x3 x4 (VPiece.mk z4.1.Group z4.1.Set z4.1.Number z4.1.Rows z4.1.Sign) z6.2
         else
          aO N (aH N k2 n) k2 n x3 x4 (VPiece.mk z4.1.Group z4.1.Set z4.1.Number z4.1.Rows z4.1.Sign) z5.2
        else
         bb N (aH N k2 n) k2 n x3 x4 (VPiece.mk z4.1.Group z4.1.Set z4.1.Number z4.1.Rows z4.1.Sign) z5.2
       else
        bb N (aH N k2 n) k2 n x3 x4 (VPiece.mk z4.1.Group z4.1.Set z4.1.Number z4.1.Rows z4.1.Sign) z4.2
     else
      ba N k2 n x3 x4 z2.2
    else
     ba N k2 n x3 x4 z1.2
   else
    ba N k2 n x3 x4 Zf
  else
   ba N k2 n x3 x4 Zf
def bw(N:RecC3):Nat->(List (List VPiece))->VReader->Option (PR ah)
 |0,_,_=>none
 |n+1,x3,Zf=>
  bif Zf.F.Err==0 then
   aH N (bw N n) n x3 ([] :List VPiece) Zf
  else
   some (.ok (x3,Zf))
def gK(N:RecC3)(y0:VReader):Option (PR ah):=
 bw N N.n ([] :List (List VPiece)) y0
def aC(n0:Nat):Nat->VReader->Option (PR ((List (List VPiece)) × VReader))
 |0,_=>none
 |m+1,y0=>gK ⟨n0,aC n0 m⟩ y0
def mT(N:Nat)(y0:VReader):Option (PR ((List (List VPiece)) × VReader)):=aC N N y0
abbrev dH:=(List (List VPiece)) × Int × VFault
def dR(N:Nat)(n:Nat)(x6:List (List VPiece))(b4:VFault)(b13:VReader):Option (PR dH):=
 bif b13.F.Err != 0 then
  some (.ok (([] :List (List VPiece)),0,b13.F))
 else
  some (.ok (x6,b13.Groups,({ Err:=0,At:=0 }:VFault)))
def ji(N:Nat)(x0:List UInt8):Option (PR dH):=
 bif decide ((x0.length:Int) > 60) then
  some (.ok (([] :List (List VPiece)),0,({ Err:=2,At:=0 }:VFault)))
 else
  (mT N ({ M:=x0,At:=0,Groups:=0,F:=({ Err:=0,At:=0 }:VFault) }:VReader)).bind fun z1=>
  match z1 with
  |.pan vz1=>some (.pan vz1)
  |.ok z2=>
   bif z2.2.F.Err==0 then
    bif decide (z2.2.At < (x0.length:Int)) then
     (ai N 1 z2.2.At z2.2).bind fun z3=>
     dR N N z2.1 ({ Err:=0,At:=0 }:VFault) z3
    else
     dR N N z2.1 ({ Err:=0,At:=0 }:VFault) z2.2
   else
    dR N N z2.1 ({ Err:=0,At:=0 }:VFault) z2.2
end Go.Proofs.Ytlhjbhgkhpbnfaa
