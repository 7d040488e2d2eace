import Derived.Test.YtlhjbhgkhpbnfaaBk06
import Derived.Shelf.Bits.Mul64
import Derived.Deep.OwnRows
import Derived.RegionTactic
import Derived.BigRegion
import Derived.Laws.CopyRow
set_option linter.unusedSimpArgs false
set_option linter.unusedVariables false
namespace Go.Proofs.Ytlhjbhgkhpbnfaa
open Go.RowKit P
theorem AY{xs:Array Value}(h:xs.size=2):∃a b,xs= #[a,b] :=by
 obtain⟨l⟩:=xs
 match l,h with
 | [a,b],_=>exact⟨a,b,rfl⟩
def exS(whole:List UInt8)(groups:List (List UInt8))(p:Vpiece):List UInt8:=
 if p.group=0 then whole else if 0 < p.group∧p.group≤(groups.length:Int) then groups.getD (p.group - 1).toNat [] else p.text
def Du(whole:List UInt8)(groups:List (List UInt8)):List Vpiece→List UInt8→List UInt8 × Int
 | [],acc=>(acc,0)
 |p::ps,acc=>if 20000 < acc.length+ (exS whole groups p).length then([],2) else Du whole groups ps (acc++exS whole groups p)
def Ct(p:Vpiece):List AV:=[.v (.string (mkB p.text)),.v (.int .i64 p.group)]
def w4(s:List UInt8):List AV:=[.v (.string (mkB s))]
def Lx(w:World)(ps:List Vpiece)(v:Value):Prop:=∃ao cap,v=.slice ao ps.length cap∧∀i p,ps[i]? =some p→∃b off,ao=some ⟨b,off,none⟩∧w.cell? ⟨b,off+i * 2,none⟩=some (.string (mkB p.text))∧w.cell? ⟨b,off+i * 2+1,none⟩=some (.int .i64 p.group)
def KF(w:World)(l:List (List UInt8))(v:Value):Prop:=∃ao cap,v=.slice ao l.length cap∧∀i s,l[i]? =some s→∃b off,ao=some ⟨b,off,none⟩∧w.cell? ⟨b,off+i,none⟩=some (.string (mkB s))
theorem Q7{X:GW}{o:Bool}{v:Value}{ps:List Vpiece}(h:Rel X (.sl o 2 (ps.map Ct)) v):Lx X.w ps v:=by
 generalize hL:ps.map Ct=L at h
 cases h with
 |nl _ _ a0 c0=>
  have:ps=[] :=List.map_eq_nil_iff.1 hL
  subst this
  exact⟨a0,c0,rfl,fun i x hx=>by simp at hx⟩
 |sl _ _ _ b off cap n c hg hn hc hs hm hr=>
  subst hL
  refine⟨some ⟨b,off,none⟩,cap,by simp,fun i p hp=>⟨b,off,rfl,?_,?_⟩⟩
  ·have hi:(ps.map Ct)[i]? =some [.v (.string (mkB p.text)),.v (.int .i64 p.group)] :=by simp[hp,Ct]
   have h0:=b9 (hr i 0 _ _ hi rfl)
   have h1:=hm i 0 _ _ hi rfl
   rw[h0] at h1;exact h1
  ·have hi:(ps.map Ct)[i]? =some [.v (.string (mkB p.text)),.v (.int .i64 p.group)] :=by simp[hp,Ct]
   have h0:=b9 (hr i 1 _ _ hi rfl)
   have h1:=hm i 1 _ _ hi rfl
   rw[h0] at h1;exact h1
theorem QM{X:GW}{o:Bool}{v:Value}{l:List (List UInt8)}(h:Rel X (.sl o 1 (l.map w4)) v):KF X.w l v:=by
 generalize hL:l.map w4=L at h
 cases h with
 |nl _ _ a0 c0=>
  have:l=[] :=List.map_eq_nil_iff.1 hL
  subst this
  exact⟨a0,c0,rfl,fun i x hx=>by simp at hx⟩
 |sl _ _ _ b off cap n c hg hn hc hs hm hr=>
  subst hL
  refine⟨some ⟨b,off,none⟩,cap,by simp,fun i p hp=>⟨b,off,rfl,?_⟩⟩
  have hi:(l.map w4)[i]? =some [.v (.string (mkB p))] :=by simp[hp,w4]
  have h0:=b9 (hr i 0 _ _ hi rfl)
  have h1:=hm i 0 _ _ hi rfl
  rw[h0,Nat.mul_one] at h1;exact h1
theorem Lx.below{w w':World}{ps:List Vpiece}{v:Value}{B:Nat}(h:Lx w ps v)(hb:Below B w w')(hB:w.heap.size≤B):Lx w' ps v:=by
 obtain⟨ao,cap,e,hp⟩:=h
 refine⟨ao,cap,e,fun i p hi=> ?_⟩
 obtain⟨b,off,e1,h1,h2⟩:=hp i p hi
 have hlt:b < B:=Nat.lt_of_lt_of_le (kh h1) hB
 exact⟨b,off,e1,ig hb hlt h1,ig hb hlt h2⟩
theorem KF.below{w w':World}{l:List (List UInt8)}{v:Value}{B:Nat}(h:KF w l v)(hb:Below B w w')(hB:w.heap.size≤B):KF w' l v:=by
 obtain⟨ao,cap,e,hp⟩:=h
 refine⟨ao,cap,e,fun i p hi=> ?_⟩
 obtain⟨b,off,e1,h1⟩:=hp i p hi
 exact⟨b,off,e1,ig hb (Nat.lt_of_lt_of_le (kh h1) hB) h1⟩
def Qr(whole:List UInt8)(groups:List (List UInt8))(ps:List Vpiece):Bool:=decide (whole.length≤10000000000000) && groups.all (fun g=>decide (g.length≤10000000000000)) && ps.all (fun p=>decide (p.text.length≤10000000000000)) && decide (ps.length≤10000000000000) && decide (groups.length≤10000000000000)
set_option maxRecDepth 100000 in
set_option maxHeartbeats 4000000 in
theorem LE{N:Nat}(t whole:List UInt8)(groups:List (List UInt8))(ps:List Vpiece)(hp:jM N t=some (ps,true))(hsm:Qr whole groups ps=true)(X:GW)(gv:Value)(hX:∀b n,X.g b=some n→b < X.w.heap.size)(hgv:KF X.w groups gv):
  Calls Try.prog 14 #[.string (mkB t),.string (mkB whole),gv] X.w fun e w'=>e=.returned (.tuple #[.string (mkB (Du whole groups ps []).1),.int .i64 (Du whole groups ps []).2])∧Below X.w.heap.size X.w w':=by
 have hpc:Calls Try.prog 28 #[.string (mkB t)] X.w fun e w'=>∃v,e=.returned (.tuple #[v,.bool true])∧Lx w' ps v∧Below X.w.heap.size X.w w':=by
  refine(l8 (X:=X) (vs:=[.string (mkB t)]) (nX t hp Rn.zero) rfl hX ?_).mono ?_
  ·intro i u x hu hx
   match i,hu,hx with
   |0,hu,hx=>simp at hu hx;subst hu hx;exact⟨.v _,rfl⟩
  ·rintro e w' ⟨X',y,rfl,rfl,hr,hb,_⟩
   have hr':Rel X' (.tu [.sl false 2 (ps.map Ct),.v (.bool true)]) y:=hr
   cases hr' with
   |tu _ xs hl hi=>
    obtain⟨v0,v1,rfl⟩:=AY (by simpa using hl.symm:xs.size=2)
    have h1:=b9 (hi 1 _ _ rfl rfl)
    subst h1
    exact⟨v0,rfl,Q7 (hi 0 _ _ rfl rfl),hb⟩
 have hsize:= @kC
 obtain⟨⟨⟨⟨hw1,hw2⟩,hw3⟩,hw4⟩,hw5⟩:(((whole.length≤10000000000000∧(∀g∈groups,g.length≤10000000000000))∧∀p∈ps,p.text.length≤10000000000000)∧ps.length≤10000000000000)∧groups.length≤10000000000000:=by simpa[Qr] using hsm
 generalize hR:Du whole groups ps [] =R
 have HR:=Lib.hid hR
 clear hR hsm
 go_enter Try.func14,Try.ntmps14
 go_wp2_with (go_at_call 28;refine hpc.mono ?_)
 rintro e W1 ⟨v,rfl,hps,b1⟩
 obtain⟨ao,cap,rfl,hcell⟩:=id hps
 obtain⟨ao2,cap2,rfl,hgc⟩:=id (hgv.below b1 (Nat.le_refl _))
 go_wp2
 have h0:G0 W1.heap.size W1.heap.size [] (W1.alloc (.cells #[.pointer none,.slice none 0 0] 81)):=Lib.fresh_isBuilder 81 5 W1
 have b0:Below W1.heap.size W1 (W1.alloc (.cells #[.pointer none,.slice none 0 0] 81)):=(Below.refl _ W1).alloc (Nat.le_refl _) _
 go_loopw [23] (fun i wr=>∃ (k:Nat) (acc:List UInt8),i=.int .i64 k∧k≤ps.length∧acc.length≤20000∧Hid (Du whole groups (ps.drop k) acc=R)∧G0 W1.heap.size W1.heap.size acc wr∧Below W1.heap.size W1 wr) (fun i _=>ps.length - (intOf i).toNat)
 case atStart=>exact⟨0,[],rfl,Nat.zero_le _,by simp,HR,h0,b0⟩
 case round=>
  obtain⟨k,acc,rfl,hk,hacc,HJ,hI,hb⟩:=hrel
  by_cases hlt:k < ps.length
  ·obtain⟨b,off,rfl,c0,c1⟩:=hcell k ps[k] (List.getElem?_eq_getElem hlt)
   have d0:=ig hb (kh c0) c0
   have d1:=ig hb (kh c1) c1
   have hmem:ps[k] ∈ps:=List.getElem_mem hlt
   have hJ:=HJ.out
   rw[List.drop_eq_getElem_cons hlt] at hJ
   have hpt:=hw3 _ hmem
   generalize ps[k] =p at c0 c1 d0 d1 hmem hJ hpt
   have hcase:((p.group==0)=true∧p.group=0∧exS whole groups p=whole)∨(∃j:Nat,j < groups.length∧p.group=(j:Int)+1∧(p.group==0)=false∧exS whole groups p=groups.getD j [])∨((p.group==0)=false∧p.group < 0∧exS whole groups p=p.text)∨((p.group==0)=false∧(groups.length:Int) < p.group∧exS whole groups p=p.text):=by
    by_cases h0:p.group=0
    ·exact .inl ⟨by simp[h0],h0,by simp[exS,h0]⟩
    ·have hb0:(p.group==0)=false:=by simpa using h0
     by_cases h1:0 < p.group∧p.group≤(groups.length:Int)
     ·refine .inr (.inl ⟨(p.group - 1).toNat,by omega,by omega,hb0,by simp[exS,h0,h1]⟩)
     ·by_cases h2:p.group < 0
      ·exact .inr (.inr (.inl ⟨hb0,h2,by simp[exS,h0,h1]⟩))
      ·exact .inr (.inr (.inr ⟨hb0,by omega,by simp[exS,h0,h1]⟩))
   simp only[Du] at hJ
   have HJ2:=Lib.hid hJ
   clear hJ HJ
   rcases hcase with ⟨hz,hg,hs⟩| ⟨j,hj,hg,hz,hs⟩| ⟨hz,hg,hs⟩| ⟨hz,hg,hs⟩
   ·have HJ3:=HJ2.out
    rw[hs] at HJ3
    have hsl:(whole).length≤10000000000000:=hw1
    rw[hg] at d1
    have al:=(Below.refl W1.heap.size wr).alloc hb.size (.cells #[.string (mkB p.text),.int .i64 0] 83)
    have hI2:=pn hI ((Below.refl _ wr).alloc (Nat.le_refl _) (.cells #[.string (mkB p.text),.int .i64 0] 83))
    by_cases hm:20000 < acc.length+ (whole).length
    ·rw[if_pos hm] at HJ3
     subst HJ3
     go_wp2_with (go_at_call 29;refine(t8 W1.heap.size W1.heap.size acc _ hI2).mono ?_;rintro e VL ⟨rfl,rfl⟩)
     go_ret2
     exact⟨rfl,b1.trans (ox (hb.trans al) b1.size)⟩
    ·rw[if_neg hm] at HJ3
     have HJ4:=Lib.hid HJ3
     clear HJ3 HJ2
     go_wp2_with (go_at_call 29;refine(t8 W1.heap.size W1.heap.size acc _ hI2).mono ?_;rintro e VL ⟨rfl,rfl⟩)
     refine(vc W1.heap.size W1.heap.size acc (whole) _ hI2 (by omega) (hb.trans al).size).mono ?_
     rintro e V3 ⟨rfl,hI3,c3⟩
     go_wp2
     refine⟨⟨k+1,acc++whole,by simp,by omega,by simp;omega,HJ4,hI3,(hb.trans al).trans c3⟩,by simp[intOf];omega⟩
   ·have HJ3:=HJ2.out
    rw[hs] at HJ3
    have hsl:(groups.getD j []).length≤10000000000000:=by rw[List.getD_eq_getElem?_getD,List.getElem?_eq_getElem hj];exact hw2 _ (List.getElem_mem hj)
    obtain⟨b2,off2,rfl,e0⟩:=hgc j (groups.getD j []) (by rw[List.getD_eq_getElem?_getD,List.getElem?_eq_getElem hj];rfl)
    generalize groups.getD j [] =S at hsl e0 hs HJ3
    rw[hg] at d1
    have al:=(Below.refl W1.heap.size wr).alloc hb.size (.cells #[.string (mkB p.text),.int .i64 ((j:Int)+1)] 83)
    have e1:=ig (hb.trans al) (kh e0) e0
    have hI2:=pn hI ((Below.refl _ wr).alloc (Nat.le_refl _) (.cells #[.string (mkB p.text),.int .i64 ((j:Int)+1)] 83))
    by_cases hm:20000 < acc.length+ (S).length
    ·rw[if_pos hm] at HJ3
     subst HJ3
     go_wp2_with (go_at_call 29;refine(t8 W1.heap.size W1.heap.size acc _ hI2).mono ?_;rintro e VL ⟨rfl,rfl⟩)
     go_ret2
     exact⟨rfl,b1.trans (ox (hb.trans al) b1.size)⟩
    ·rw[if_neg hm] at HJ3
     have HJ4:=Lib.hid HJ3
     clear HJ3 HJ2
     go_wp2_with (go_at_call 29;refine(t8 W1.heap.size W1.heap.size acc _ hI2).mono ?_;rintro e VL ⟨rfl,rfl⟩)
     refine(vc W1.heap.size W1.heap.size acc (S) _ hI2 (by omega) (hb.trans al).size).mono ?_
     rintro e V3 ⟨rfl,hI3,c3⟩
     go_wp2
     refine⟨⟨k+1,acc++S,by simp,by omega,by simp;omega,HJ4,hI3,(hb.trans al).trans c3⟩,by simp[intOf];omega⟩
   ·have HJ3:=HJ2.out
    rw[hs] at HJ3
    have hsl:(p.text).length≤10000000000000:=hpt
    have al:=(Below.refl W1.heap.size wr).alloc hb.size (.cells #[.string (mkB p.text),.int .i64 p.group] 83)
    have hI2:=pn hI ((Below.refl _ wr).alloc (Nat.le_refl _) (.cells #[.string (mkB p.text),.int .i64 p.group] 83))
    by_cases hm:20000 < acc.length+ (p.text).length
    ·rw[if_pos hm] at HJ3
     subst HJ3
     go_wp2_with (go_at_call 29;refine(t8 W1.heap.size W1.heap.size acc _ hI2).mono ?_;rintro e VL ⟨rfl,rfl⟩)
     go_ret2
     exact⟨rfl,b1.trans (ox (hb.trans al) b1.size)⟩
    ·rw[if_neg hm] at HJ3
     have HJ4:=Lib.hid HJ3
     clear HJ3 HJ2
     go_wp2_with (go_at_call 29;refine(t8 W1.heap.size W1.heap.size acc _ hI2).mono ?_;rintro e VL ⟨rfl,rfl⟩)
     refine(vc W1.heap.size W1.heap.size acc (p.text) _ hI2 (by omega) (hb.trans al).size).mono ?_
     rintro e V3 ⟨rfl,hI3,c3⟩
     go_wp2
     refine⟨⟨k+1,acc++p.text,by simp,by omega,by simp;omega,HJ4,hI3,(hb.trans al).trans c3⟩,by simp[intOf];omega⟩
   ·have HJ3:=HJ2.out
    rw[hs] at HJ3
    have hsl:(p.text).length≤10000000000000:=hpt
    have al:=(Below.refl W1.heap.size wr).alloc hb.size (.cells #[.string (mkB p.text),.int .i64 p.group] 83)
    have hI2:=pn hI ((Below.refl _ wr).alloc (Nat.le_refl _) (.cells #[.string (mkB p.text),.int .i64 p.group] 83))
    by_cases hm:20000 < acc.length+ (p.text).length
    ·rw[if_pos hm] at HJ3
     subst HJ3
     go_wp2_with (go_at_call 29;refine(t8 W1.heap.size W1.heap.size acc _ hI2).mono ?_;rintro e VL ⟨rfl,rfl⟩)
     go_ret2
     exact⟨rfl,b1.trans (ox (hb.trans al) b1.size)⟩
    ·rw[if_neg hm] at HJ3
     have HJ4:=Lib.hid HJ3
     clear HJ3 HJ2
     go_wp2_with (go_at_call 29;refine(t8 W1.heap.size W1.heap.size acc _ hI2).mono ?_;rintro e VL ⟨rfl,rfl⟩)
     refine(vc W1.heap.size W1.heap.size acc (p.text) _ hI2 (by omega) (hb.trans al).size).mono ?_
     rintro e V3 ⟨rfl,hI3,c3⟩
     go_wp2
     refine⟨⟨k+1,acc++p.text,by simp,by omega,by simp;omega,HJ4,hI3,(hb.trans al).trans c3⟩,by simp[intOf];omega⟩
  ·have hke:k=ps.length:=by omega
   subst hke
   have hJ:=HJ.out
   rw[List.drop_length] at hJ
   simp only[Du] at hJ
   subst hJ
   go_wp2_with (go_at_call 31;refine(SH W1.heap.size W1.heap.size acc _ hI hb.size).mono ?_)
   rintro e V2 ⟨rfl,c2⟩
   go_wp2
   go_ret2
   exact⟨rfl,b1.trans (ox (hb.trans c2) b1.size)⟩
set_option maxRecDepth 100000 in
theorem EI{N:Nat}(t whole:List UInt8)(ps:List Vpiece)(hp:jM N t=some (ps,false))(X:GW)(gv:Value)(hX:∀b n,X.g b=some n→b < X.w.heap.size):
  Calls Try.prog 14 #[.string (mkB t),.string (mkB whole),gv] X.w fun e w'=>e=.returned (.tuple #[.string (mkB []),.int .i64 1])∧Below X.w.heap.size X.w w':=by
 have hpc:Calls Try.prog 28 #[.string (mkB t)] X.w fun e w'=>∃v,e=.returned (.tuple #[v,.bool false])∧Below X.w.heap.size X.w w':=by
  refine(l8 (X:=X) (vs:=[.string (mkB t)]) (nX t hp Rn.zero) rfl hX ?_).mono ?_
  ·intro i u x hu hx
   match i,hu,hx with
   |0,hu,hx=>simp at hu hx;subst hu hx;exact⟨.v _,rfl⟩
  ·rintro e w' ⟨X',y,rfl,rfl,hr,hb,_⟩
   have hr':Rel X' (.tu [.sl false 2 (ps.map Ct),.v (.bool false)]) y:=hr
   cases hr' with
   |tu _ xs hl hi=>
    obtain⟨v0,v1,rfl⟩:=AY (by simpa using hl.symm:xs.size=2)
    have h1:=b9 (hi 1 _ _ rfl rfl)
    subst h1
    exact⟨v0,rfl,hb⟩
 go_enter Try.func14,Try.ntmps14
 go_wp2_with (go_at_call 28;refine hpc.mono ?_)
 rintro e W1 ⟨v,rfl,b1⟩
 go_wp2
 go_ret2
 exact⟨rfl,b1⟩
theorem vB{f:FuncId}{us:List AV}{r:Value}{ur:AV}{P:Program}(hf:J1 P f)(hr:∀X,Rel X ur r)(hp:cA (some ur)=none)
  (h:∀ (X:GW) (vs:Array Value),(∀b n,X.g b=some n→b < X.w.heap.size)→vs.size=us.length→(∀ (i:Nat) u,us[i]? =some u→Rel X u (vs.getD i undef))→Calls P f vs X.w fun e w'=>e=.returned r∧Below X.w.heap.size X.w w'):aE P f us [] (fun out H=>out=.ret ur∧H=[]):=by
 refine⟨hf,fun F X xs hs=> ?_⟩
 refine(h X xs hs.gb (by simpa using hs.size) (fun i u hi=>hs.slot i u ?_)).mono fun e w' ⟨he,hb⟩=> ?_
 ·have:∀ (us:List AV) (k i:Nat) u,us[i]? =some u→look (slotsOf k us) (k+i)=some u:=by
   intro us
   induction us with
   |nil=>intro k i u h;simp at h
   |cons u0 us ih=>
    intro k i u h
    simp only[slotsOf,ab]
    cases i with
    |zero=>simp at h;subst h;simp
    |succ i=>rw[if_neg (by omega),show k+ (i+1)=(k+1)+i by omega];exact ih (k+1) i u (by simpa using h)
  have:=this us 0 i u hi
  simpa using this
 have hn:New X ⟨w',X.g⟩:=⟨hb.os,hb.tape,hb.output,hb.size,fun b hlt=>⟨hb.block b hlt,rfl⟩⟩
 have hgb:∀b n,X.g b=some n→b < w'.heap.size:=fun b n hg=>Nat.lt_of_lt_of_le (hs.gb b n hg) hb.size
 refine⟨⟨w',X.g⟩,.ret ur,[],rfl,⟨rfl,rfl⟩,⟨r,he,?_⟩,hn.ext hs.gb hs.fb⟩
 refine⟨⟨rfl,hgb,fun b hF=>Nat.lt_of_lt_of_le (hs.fb b hF) hb.size,fun t u hu=> ?_,fun k cs hk=>by simp[aH] at hk,fun x r hx=>by simp[aH] at hx,fun r sz l ho=> ?_,fun r r' sz l sz' l' a n c a' n' c' _ ho=> ?_⟩,fun p hp=>by cases hp⟩
 ·simp only[ab,aH] at hu
  split at hu
  ·rename_i e1;subst e1;cases hu;exact hr _
  ·cases hu
 ·cases r with
  |s t=>obtain⟨_,h2⟩:=iV ho;rw[hp] at h2;cases h2
  |c k o=>simp[AS.own,aH] at ho
 ·cases r with
  |s t=>obtain⟨_,h2⟩:=iV ho;rw[hp] at h2;cases h2
  |c k o=>simp[AS.own,aH] at ho
theorem HM{xs:Array Value}(h:xs.size=3):xs= #[xs.getD 0 undef,xs.getD 1 undef,xs.getD 2 undef] :=by
 obtain⟨l⟩:=xs
 match l,h with
 | [a,b,c],_=>rfl
def jD(N:Nat)(t whole:List UInt8)(groups:List (List UInt8)):Option (List UInt8 × Int):=
 match jM N t with
 |none=>none
 |some (ps,true)=>if Qr whole groups ps=true then some (Du whole groups ps []) else none
 |some (_,false)=>some ([],1)
def xK(r:List UInt8 × Int):TV EE.T:=.tu [.a (.d .str r.1),.a (.d (.int .i64) r.2)]
theorem Nx(X:GW)(a b:Value):Rel X (.tu [.v a,.v b]) (.tuple #[a,b]):=by
 refine .tu _ _ rfl ?_
 intro i u x hu hx
 match i,hu,hx with
 |0,hu,hx=>simp at hu hx;subst hu hx;exact .v _
 |1,hu,hx=>simp at hu hx;subst hu hx;exact .v _
theorem Mf{N:Nat}(t whole:List UInt8)(groups:List (List UInt8)){r:List UInt8 × Int}(h:jD N t whole groups=some r):aE Try.prog 14 [.v (.string (mkB t)),.v (.string (mkB whole)),.sl false 1 (groups.map w4)] [] (fun out H=>out=.ret (.tu [.v (.string (mkB r.1)),.v (.int .i64 r.2)])∧H=[]):=by
 refine vB ⟨_,Try.func14,by kernel_rfl,rfl⟩ (fun X=>Nx X _ _) rfl fun X vs hX hv hr=> ?_
 have e0:=b9 (hr 0 _ rfl)
 have e1:=b9 (hr 1 _ rfl)
 have e2:=QM (hr 2 _ rfl)
 rw[HM hv,e0,e1]
 unfold jD at h
 split at h
 ·cases h
 ·rename_i ps hp
  split at h
  ·rename_i hsm
   cases h
   exact LE t whole groups ps hp hsm X _ hX e2
  ·cases h
 ·rename_i ps hp
  cases h
  exact EI t whole ps hp X _ hX
def lK(N:Nat):List (TV EE.T)→PV EE.T
 | [u0,u1,u2] =>match lp .str u0,lp .str u1,lp (.sl .str) u2 with
   |some x0,some x1,some x2=>.opt (jD N x0 x1 x2) xK
   |_,_,_=>.bad
 |_=>.bad
theorem uw(N:Nat)(us:List (TV EE.T)):(lK N us).ok fun u=>∀ρ,aE Try.prog 14 (us.map (TV.to EE.toEnc ρ)) [] (fun out H=>out=.ret (u.to EE.toEnc ρ)∧H=[]):=by
 unfold lK
 split
 ·split
  ·rename_i u0 u1 u2 x0 x1 x2 h0 h1 h2
   intro z hz ρ
   refine eU (us':=([.a (.d .str x0),.a (.d .str x1),.a (.d (.sl .str) x2)] :List (TV EE.T))) ⟨ec h0 ρ,ec h1 ρ,ec h2 ρ,trivial⟩ ?_
   exact Mf x0 x1 x2 hz
  ·trivial
 ·trivial
end Go.Proofs.Ytlhjbhgkhpbnfaa
namespace Go.Proofs.Ytlhjbhgkhpbnfaa
open Go.Shelf Go.RowKit P
def Try.laysR_212:Go.Shelf.Ren:=⟨fun|212=>54|263=>64|264=>65|n=>n,fun|46=>119|51=>129|53=>132|146=>130|148=>133|n=>n,fun|n=>n⟩
set_option maxRecDepth 100000 in
theorem Try.laysn212:Go.Proofs.Lays.n212 Try.prog Try.laysR_212:={ mixed:=by kernel_rfl,f212:=Try.func54.trans (congrArg some (by kernel_rfl)),f263:=Try.func64.trans (congrArg some (by kernel_rfl)),f264:=Try.func65.trans (congrArg some (by kernel_rfl)),t46:=Try.underlying119,a46:=Try.isAgg119,z46:=Try.sizeOf119,v46:=Try.zeroValue119,t51:=Try.underlying129,a51:=Try.isAgg129,z51:=Try.sizeOf129,v51:=Try.zeroValue129,t53:=Try.underlying132,a53:=Try.isAgg132,z53:=Try.sizeOf132,v53:=Try.zeroValue132,t146:=Try.underlying130,a146:=Try.isAgg130,z146:=Try.sizeOf130,v146:=Try.zeroValue130,t148:=Try.underlying133,a148:=Try.isAgg133,z148:=Try.sizeOf133,v148:=Try.zeroValue133 }
theorem Jd(x y:Nat)(hx:x < 18446744073709551616)(hy:y < 18446744073709551616)(w:World):Calls Try.prog 54 #[.int .u64 x,.int .u64 y] w fun e w'=>e=.returned (.tuple #[.int .u64 ((x * y / 18446744073709551616:Nat):Int),.int .u64 ((x * y % 18446744073709551616:Nat):Int)])∧w'=w:=Any.bits_Mul Try.laysn212 x y hx hy w
theorem MT(c:Nat)(hc:c≤1000000)(w:World):Calls Try.prog 54 #[.int .u64 1,.int .u64 c] w fun e w'=>e=.returned (.tuple #[.int .u64 0,.int .u64 c])∧w'=w:=
 (Jd 1 c (by omega) (by omega) w).mono fun e w' h=>by
  rw[Nat.one_mul,Nat.div_eq_of_lt (by omega),Nat.mod_eq_of_lt (by omega)] at h
  exact h
theorem RS:(Try.prog.info? 3).map (fun i=>(i.zero,i.size,i.bytes))=some (some (.int .i64 0),1,8):=by kernel_rfl
def li(c k:Nat)(x:Int):List Value:=List.replicate k (.int .i64 x)++List.replicate (c - k) (.int .i64 0)
theorem Ih(c:Nat)(x:Int):madeCells #[Value.int .i64 0] c=(li c 0 x).toArray:=by
 apply Array.ext
 ·simp[madeCells,li]
 ·intro i h1 h2
  simp[madeCells,li,Nat.mod_one]
theorem JE{c k:Nat}(h:k≤c)(x:Int):(li c k x).length=c:=by unfold li;simp;omega
theorem LK{c k m:Nat}(x:Int)(h:k+m≤c):(li c k x).take k++List.replicate m (.int .i64 x)++ (li c k x).drop (k+m)=li c (k+m) x:=by
 unfold li
 rw[List.take_left' (by simp),List.drop_append]
 rw[← List.append_assoc,List.drop_of_length_le (by simp),List.append_nil,List.drop_replicate,List.length_replicate,List.replicate_append_replicate,Nat.add_sub_cancel_left,Nat.sub_sub]
theorem Qv:(Try.prog.info? 3).map (·.size)=some 1:=by kernel_rfl
theorem D6{w:World}{g c k m:Nat}{x:Int}{sLen:Nat}{a:Addr}{sCap dCap:Nat}(hk:k≤c)(hg:w.heap[g]? =some (.cells (li c k x).toArray 3 (0,0)))(hm:m=Nat.min sLen (c - k))(hsrc:∀j,j < m→w.cell? (a.add j)=some (.int .i64 x)):
  (Builtin.copy_ #[38,38] 3 #[.slice (some ⟨g,k,none⟩) (c - k) dCap,.slice (some a) sLen sCap]).run Try.prog w=.ok (goInt m) (w.setRow g (li c (k+m) x).toArray):=by
 have hm2:m≤c - k:=by rw[hm];exact Nat.min_le_right _ _
 have h:=run_copy_row (P:=Try.prog) w 38 38 3 3 g k (c - k) dCap a sLen sCap (li c k x).toArray 3 (List.replicate m (.int .i64 x)) Try.underlying38 Qv hg (by simpa using hm) (fun j v hj=>by
  rw[List.getElem?_replicate] at hj
  split at hj
  ·rename_i h1
   cases hj
   exact hsrc j h1
  ·cases hj) (by simp[JE hk];omega) (fun v hv=>by rw[(List.mem_replicate.1 hv).2];rfl)
 rw[List.length_replicate,List.toList_toArray,LK x (by omega)] at h
 exact h
theorem MB{w:World}{g c k j:Nat}{x:Int}(hk:k≤c)(hg:w.heap[g]? =some (.cells (li c k x).toArray 3 (0,0)))(hj:j < k):w.cell? ((⟨g,0,none⟩:Addr).add j)=some (.int .i64 x):=by
 have hadd:(⟨g,0,none⟩:Addr).add j=⟨g,0+j,none⟩:=by unfold Addr.add;split<;> simp_all
 rw[hadd]
 simp[World.cell?,hg,li,List.getElem?_append,hj]
theorem Below.setRow_new{B:Nat}{w w':World}(h:Below B w w')(hB:B≤w.heap.size)(cs:Array Value):Below B w (w'.setRow B cs):=by
 refine⟨h.os,h.tape,h.output,by simpa[World.setRow] using h.size,fun b hb=> ?_⟩
 rw[← h.block b hb]
 simp[World.setRow,Array.getElem?_modify,Nat.ne_of_gt hb]
set_option maxRecDepth 100000 in
set_option maxHeartbeats 4000000 in
theorem Mb(c:Nat)(hc:0 < c)(hc2:c≤1000000)(x:Int)(w:World)(b off cap:Nat)(hx:w.cell? ⟨b,off,none⟩=some (.int .i64 x)):
  Calls Try.prog 37 #[.slice (some ⟨b,off,none⟩) 1 cap,.int .i64 c] w fun e w'=>∃g,w.heap.size≤g∧e=.returned (.slice (some ⟨g,0,none⟩) c c)∧w'.heap[g]? =some (.cells (List.replicate c (.int .i64 x)).toArray 3 (0,0))∧Below w.heap.size w w':=by
 have hmk:=run_make_row' (P:=Try.prog) 38 3 (.int .i64 0) 8 Try.underlying38 RS rfl .i64 .i64 c (by omega) (by omega)
 rw[Ih c x] at hmk
 have hg0:(w.alloc (.cells (li c 0 x).toArray 3)).heap[w.heap.size]? =some (.cells (li c 0 x).toArray 3 (0,0)):=heap_alloc_new w _
 have b0:Below w.heap.size w (w.alloc (.cells (li c 0 x).toArray 3)):=(Below.refl _ w).alloc (Nat.le_refl _) _
 have hcp:=D6 (c:=c) (k:=0) (m:=1) (x:=x) (sLen:=1) (a:=⟨b,off,none⟩) (sCap:=cap) (dCap:=c) (Nat.zero_le _) hg0 (Nat.min_eq_left (by omega)).symm (fun j hj=>by
  have:j=0:=by omega
  subst this
  exact ig b0 (kh hx) hx)
 rw[Nat.sub_zero,Nat.zero_add] at hcp
 have hg1:=setRow_heap _ w.heap.size _ (li c 1 x).toArray 3 (0,0) hg0
 go_enter Try.func37,Try.ntmps37
 go_wp2_with (go_at_call 54;refine(MT c hc2 _).mono ?_;rintro e V ⟨rfl,rfl⟩)
 have bS:=Below.setRow_new b0 (Nat.le_refl _) (li c 1 x).toArray
 go_loopw [8] (fun n wr=>∃k:Nat,n=.int .i64 k∧0 < k∧k≤c∧wr.heap[V.heap.size]? =some (.cells (li c k x).toArray 3 (0,0))∧Below V.heap.size V wr) (fun n _=>c - (intOf n).toNat)
 case atStart=>exact⟨1,rfl,by omega,by omega,hg1,bS⟩
 case round=>
  obtain⟨k,rfl,hk0,hk,hg,hb⟩:=hrel
  by_cases hlt:k < c
  ·have hgd:wr.drew.heap[V.heap.size]? =some (.cells (li c k x).toArray 3 (0,0)):=hg
   have hck:¬c=k:=by omega
   have hcp2:=D6 (w:=wr.drew) (c:=c) (k:=k) (m:=Nat.min k (c - k)) (x:=x) (sLen:=k) (a:=⟨V.heap.size,0,none⟩) (sCap:=c) (dCap:=c - k) hk hgd rfl (fun j hj=>MB hk hgd (Nat.lt_of_lt_of_le hj (Nat.min_le_left _ _)))
   have hg2:=setRow_heap _ V.heap.size _ (li c (k+Nat.min k (c - k)) x).toArray 3 (0,0) hgd
   go_wp2
   go_region
   have hwr:wrap64 ((k:Int)+ ((k.min (c - k):Nat):Int))=((k+k.min (c - k):Nat):Int):=by
    have:=Nat.min_le_right k (c - k)
    have h2:k.min (c - k)≤c - k:=this
    unfold wrap64;omega
   have hm0:0 < k.min (c - k):=Nat.lt_min.2 ⟨hk0,by omega⟩
   have hmk:k.min (c - k)≤c - k:=Nat.min_le_right k (c - k)
   rw[hwr]
   go_wp2
   refine⟨⟨k+k.min (c - k),rfl,by omega,by omega,hg2,Below.setRow_new hb.drew (Nat.le_refl _) _⟩,?_⟩
   simp[intOf]
   omega
  ·have hke:k=c:=by omega
   subst hke
   go_wp2
   go_ret
   refine⟨V.heap.size,Nat.le_refl _,rfl,?_,hb⟩
   rw[hg];simp[li]
theorem xe{f:FuncId}{us:List AV}{ur:AV}{P:Program}(hf:J1 P f)(hp:cA (some ur)=none)
  (h:∀ (X:GW) (vs:Array Value),(∀b n,X.g b=some n→b < X.w.heap.size)→vs.size=us.length→(∀ (i:Nat) u,us[i]? =some u→Rel X u (vs.getD i undef))→Calls P f vs X.w fun e w'=>∃X' r,X'.w=w'∧e=.returned r∧Rel X' ur r∧Below X.w.heap.size X.w w'∧(∀b n,X'.g b=some n→b < w'.heap.size)∧∀b,b < X.w.heap.size→X'.g b=X.g b):aE P f us [] (fun out H=>out=.ret ur∧H=[]):=by
 refine⟨hf,fun F X xs hs=> ?_⟩
 refine(h X xs hs.gb (by simpa using hs.size) (fun i u hi=>hs.slot i u ?_)).mono fun e w' ⟨X',r,hw,he,hr,hb,hgb,hgo⟩=> ?_
 ·have:∀ (us:List AV) (k i:Nat) u,us[i]? =some u→look (slotsOf k us) (k+i)=some u:=by
   intro us
   induction us with
   |nil=>intro k i u h;simp at h
   |cons u0 us ih=>
    intro k i u h
    simp only[slotsOf,ab]
    cases i with
    |zero=>simp at h;subst h;simp
    |succ i=>rw[if_neg (by omega),show k+ (i+1)=(k+1)+i by omega];exact ih (k+1) i u (by simpa using h)
  have:=this us 0 i u hi
  simpa using this
 subst hw
 have hn:New X X':=⟨hb.os,hb.tape,hb.output,hb.size,fun b hlt=>⟨hb.block b hlt,hgo b hlt⟩⟩
 refine⟨X',.ret ur,[],rfl,⟨rfl,rfl⟩,⟨r,he,?_⟩,hn.ext hs.gb hs.fb⟩
 refine⟨⟨rfl,hgb,fun b hF=>Nat.lt_of_lt_of_le (hs.fb b hF) hb.size,fun t u hu=> ?_,fun k cs hk=>by simp[aH] at hk,fun x r hx=>by simp[aH] at hx,fun r sz l ho=> ?_,fun r r' sz l sz' l' a n c a' n' c' _ ho=> ?_⟩,fun p hp=>by cases hp⟩
 ·simp only[ab,aH] at hu
  split at hu
  ·rename_i e1;subst e1;cases hu;exact hr
  ·cases hu
 ·cases r with
  |s t=>obtain⟨_,h2⟩:=iV ho;rw[hp] at h2;cases h2
  |c k o=>simp[AS.own,aH] at ho
 ·cases r with
  |s t=>obtain⟨_,h2⟩:=iV ho;rw[hp] at h2;cases h2
  |c k o=>simp[AS.own,aH] at ho
theorem Cr{xs:Array Value}(h:xs.size=2):xs= #[xs.getD 0 undef,xs.getD 1 undef] :=by
 obtain⟨l⟩:=xs
 match l,h with
 | [a,b],_=>rfl
theorem L9(c:Nat)(hc:0 < c)(hc2:c≤1000000)(x:Int):aE Try.prog 37 [.sl false 1 [[.v (.int .i64 x)]],.v (.int .i64 c)] [] (fun out H=>out=.ret (.sl false 1 ((List.replicate c x).map fun z=>[.v (.int .i64 z)]))∧H=[]):=by
 refine xe ⟨_,Try.func37,by kernel_rfl,rfl⟩ rfl fun X vs hX hv hr=> ?_
 have e1:=b9 (hr 1 _ rfl)
 have e0:=hr 0 _ rfl
 rw[Cr hv,e1]
 generalize vs.getD 0 undef=v0 at e0
 cases e0 with
 |sl _ _ _ b off cap n cc hg hn hcap hs hm hri=>
  have h0:=b9 (hri 0 0 _ _ rfl rfl)
  have h1:=hm 0 0 _ _ rfl rfl
  rw[h0] at h1
  refine(Mb c hc hc2 x X.w b off cap (by simpa using h1)).mono ?_
  rintro e w' ⟨g,hle,rfl,hgc,hb⟩
  have hlt:g < w'.heap.size:=(Array.getElem?_eq_some_iff.1 hgc).1
  refine⟨⟨w',fun q=>if q=g then some c else X.g q⟩,_,rfl,rfl,?_,hb,fun q n hq=> ?_,fun q hq=>if_neg (by omega)⟩
  ·have hl:((List.replicate c x).map fun z=>[AV.v (.int .i64 z)]).length=c:=by simp
   have:=Rel.sl (X:=⟨w',fun q=>if q=g then some c else X.g q⟩) false 1 ((List.replicate c x).map fun z=>[AV.v (.int .i64 z)]) g 0 c c (fun _ _=>.int .i64 x) (if_pos rfl) (by rw[hl];omega) (by rw[hl];exact Nat.le_refl _) (fun i r hi=>by
    simp only[List.getElem?_map,Option.map_eq_some_iff] at hi
    obtain⟨z,_,rfl⟩:=hi;rfl) (fun i j r u hi hj=>by
    simp only[List.getElem?_map,Option.map_eq_some_iff,List.getElem?_replicate] at hi
    obtain⟨z,hz,rfl⟩:=hi
    split at hz
    ·rename_i hic
     match j,hj with
     |0,_=>simp[World.cell?,hgc,List.getElem?_replicate,hic]
    ·cases hz) (fun i j r u hi hj=>by
    simp only[List.getElem?_map,Option.map_eq_some_iff,List.getElem?_replicate] at hi
    obtain⟨z,hz,rfl⟩:=hi
    split at hz
    ·cases hz
     match j,hj with
     |0,hj=>simp at hj;subst hj;exact .v _
    ·cases hz)
   rw[hl] at this
   exact this
  ·dsimp only at hq
   split at hq
   ·rename_i e;subst e;exact hlt
   ·exact Nat.lt_of_lt_of_le (hX q n hq) hb.size
def ma(N:Nat)(l:List Int)(c:Int):Option (List Int):=match l with
 | [x] =>if 0 < c∧c≤1000000 then some (List.replicate c.toNat x) else none
 |_=>none
theorem wj{N:Nat}{l:List Int}{c:Int}{r:List Int}(h:ma N l c=some r):∃x,l=[x] ∧0 < c∧c≤1000000∧r=List.replicate c.toNat x:=by
 match l,h with
 | [x],h=>
   simp only[ma] at h
   split at h
   ·rename_i hc
    exact⟨x,rfl,hc.1,hc.2,(Option.some.inj h).symm⟩
   ·cases h
def Ce(r:List Int):TV EE.T:=.a (.d (.sl (.int .i64)) r)
def oQ(N:Nat):List (TV EE.T)→PV EE.T
 | [u0,u1] =>match lp (.sl (.int .i64)) u0,lp (.int .i64) u1 with
   |some x0,some x1=>.opt (ma N x0 x1) Ce
   |_,_=>.bad
 |_=>.bad
theorem xE(N:Nat)(us:List (TV EE.T)):(oQ N us).ok fun u=>∀ρ,aE Try.prog 37 (us.map (TV.to EE.toEnc ρ)) [] (fun out H=>out=.ret (u.to EE.toEnc ρ)∧H=[]):=by
 unfold oQ
 split
 ·split
  ·rename_i u0 u1 x0 x1 h0 h1
   intro z hz ρ
   obtain⟨x,rfl,hc1,hc2,rfl⟩:=wj hz
   refine eU (us':=([.a (.d (.sl (.int .i64)) [x]),.a (.d (.int .i64) x1)] :List (TV EE.T))) ⟨ec h0 ρ,ec h1 ρ,trivial⟩ ?_
   have h:=L9 x1.toNat (by omega) (by omega) x
   rw[show((x1.toNat:Nat):Int)=x1 by omega] at h
   exact h
  ·trivial
 ·trivial
end Go.Proofs.Ytlhjbhgkhpbnfaa
namespace Go.Proofs.Ytlhjbhgkhpbnfaa
open Go.RowKit P
set_option maxRecDepth 100000
abbrev bD:=Nat × VMask × (List (Int × Bool)) × (List Vthread)
def gM(N:Nat)(n:Nat)(x1_n:Nat)(x4:Int)(b8:Vthread)(b11:Vstep)(Tc:VMask)(Tk:List (Int × Bool))(Tl:List Vthread):Option (PR bD):=
 bif b11.kind==2 then
  (cZ N x1_n ({ at_:=b11.a,slots:=b8.slots }:Vthread) x4 Tc Tl Tk).bind fun z2=>
  match z2 with
  |.pan vz2=>
   some (.pan vz2)
  |.ok z3=>
   some (.ok (z3.1,z3.2.1,z3.2.2.2,z3.2.2.1))
 else
  bif b11.kind==1 then
   (cZ N x1_n ({ at_:=b11.a,slots:=b8.slots }:Vthread) x4 Tc Tl Tk).bind fun z4=>
   match z4 with
   |.pan vz4=>
    some (.pan vz4)
   |.ok z5=>
    (cZ N z5.1 ({ at_:=b11.b,slots:=b8.slots }:Vthread) x4 z5.2.1 z5.2.2.1 z5.2.2.2).bind fun z6=>
    match z6 with
    |.pan vz6=>
     some (.pan vz6)
    |.ok z7=>
     some (.ok (z7.1,z7.2.1,z7.2.2.2,z7.2.2.1))
  else
   bif b11.kind==3 then
    (ko N b8.slots).bind fun z8=>
    match z8 with
    |.pan vz8=>
     some (.pan vz8)
    |.ok z9=>
     (dg z9.1 b11.a).bind fun z10=>
     (z9.2[z10]?).bind fun z11=>
     (nR z9.1 (List.set z9.2 z10 x4)).bind fun z12=>
     (cZ N x1_n ({ at_:=w64 (b8.at_+1),slots:=z12 }:Vthread) x4 Tc Tl Tk).bind fun z13=>
     match z13 with
     |.pan vz13=>
      some (.pan vz13)
     |.ok z14=>
      some (.ok (z14.1,z14.2.1,z14.2.2.2,z14.2.2.1))
   else
    (oz 32 x1_n Tl ([b8] :List Vthread)).bind fun z15=>
    some (.ok (z15.length,Tc,Tk,z15))
def fh(N:Nat)(x3:Vthread)(x4:Int)(y0:VMask)(y1:List (Int × Bool)):Option (PR bD):=
 bif (tE y1 x3.at_).getD false then
  some (.ok (0,y0,y1,([] :List Vthread)))
 else
  (cg y0.steps x3.at_).bind fun z1=>
  gM N N 0 x4 x3 z1 y0 (DM y1 x3.at_ true) ([] :List Vthread)
abbrev ar:=Bool × (List (List UInt8)) × VMask
def cX(N:Nat)(k9:(List UInt8)→Int→Nat→Int→Int→Nat→Int→Int→(List (Int × Bool))→VMask→(List Vthread)→(List Vthread)→Option (PR ar))(k4:(List UInt8)→Nat→Int→Int→VMask→(List Vthread)→Option (PR ar))(n:Nat)(x1:List UInt8)(x8:Int)(x9_n:Nat)(x30:Int)(x31:Int)(x35_n:Nat)(x36:Int)(x37:Int)(b34:List (Int × Bool))(Tc:VMask)(Th:List Vthread)(Ti:List Vthread):Option (PR ar):=
 k9 x1 x8 x9_n x30 x31 x35_n x36 (w64 (x37+1)) b34 Tc Th Ti
def gq(N:Nat)(k9:(List UInt8)→Int→Nat→Int→Int→Nat→Int→Int→(List (Int × Bool))→VMask→(List Vthread)→(List Vthread)→Option (PR ar))(k4:(List UInt8)→Nat→Int→Int→VMask→(List Vthread)→Option (PR ar))(n:Nat)(x1:List UInt8)(x8:Int)(x9_n:Nat)(x30:Int)(x31:Int)(x35_n:Nat)(x36:Int)(x37:Int)(b12:Vthread)(b13:Vstep)(b34:List (Int × Bool))(Tc:VMask)(Th:List Vthread)(Ti:List Vthread):Option (PR ar):=
 bif b13.kind==0 then
  (cg x1 x8).bind fun z11=>
  (b13.set_).bind fun z12=>
  (BT 256 (some z12) (b2i z11)).bind fun z13=>
  bif z13 then
   (cZ N x9_n ({ at_:=w64 (b12.at_+1),slots:=b12.slots }:Vthread) (w64 (x8+1)) Tc Ti b34).bind fun z14=>
   match z14 with
   |.pan vz14=>
    some (.pan vz14)
   |.ok z15=>
    cX N k9 k4 n x1 x8 z15.1 x30 x31 x35_n x36 x37 z15.2.2.2 z15.2.1 Th z15.2.2.1
  else
   cX N k9 k4 n x1 x8 x9_n x30 x31 x35_n x36 x37 b34 Tc Th Ti
 else
  cX N k9 k4 n x1 x8 x9_n x30 x31 x35_n x36 x37 b34 Tc Th Ti
def ez(N:Nat)(k4:(List UInt8)→Nat→Int→Int→VMask→(List Vthread)→Option (PR ar)):Nat→(List UInt8)→Int→Nat→Int→Int→Nat→Int→Int→(List (Int × Bool))→VMask→(List Vthread)→(List Vthread)→Option (PR ar)
 |0,_,_,_,_,_,_,_,_,_,_,_,_=>none
 |n+1,x1,x8,x9_n,x30,x31,x35_n,x36,x37,b34,Tc,Th,Ti=>
  bif decide (x37 < x36) then
   (dg x35_n x37).bind fun z4=>
   (Th[z4]?).bind fun z5=>
   (cg Tc.steps z5.at_).bind fun z6=>
   gq N (ez N k4 n) k4 n x1 x8 x9_n x30 x31 x35_n x36 x37 z5 z6 b34 Tc Th Ti
  else
   k4 x1 x9_n x30 (w64 (x31+1)) Tc Ti
def ea(N:Nat):Nat→(List UInt8)→Nat→Int→Int→VMask→(List Vthread)→Option (PR ar)
 |0,_,_,_,_,_,_=>none
 |n+1,x1,x77_n,x78,x79,Tc,Th=>
  bif decide (x79 < x78) then
   (dg x77_n x79).bind fun z7=>
   (Th[z7]?).bind fun z8=>
   (cg Tc.steps z8.at_).bind fun z9=>
   bif z9.kind==4 then
    (er N x1 z8.slots Tc).bind fun z10=>
    some (.ok (true,z10.1,z10.2))
   else
    ea N n x1 x77_n x78 (w64 (x79+1)) Tc Th
  else
   some (.ok (false,([] :List (List UInt8)),Tc))
def ew(N:Nat):Nat→(List UInt8)→Nat→Int→Int→VMask→(List Vthread)→Option (PR ar)
 |0,_,_,_,_,_,_=>none
 |n+1,x1,x7_n,x30,x31,Tc,Th=>
  bif decide (x31 < x30) then
   ez N (ew N n) n x1 x31 0 x30 x31 x7_n (x7_n:Int) 0 ([] :List (Int × Bool)) Tc Th ([] :List Vthread)
  else
   ea N n x1 x7_n (x7_n:Int) 0 Tc Th
def fw(N:Nat)(x1:List UInt8)(y0:VMask):Option (PR ar):=
 (ma N ([(-1)] :List Int) (w64 ((w64 (2 * y0.Groups))+2))).bind fun z1=>
 (fh N ({ at_:=0,slots:=z1 }:Vthread) 0 y0 ([] :List (Int × Bool))).bind fun z2=>
 match z2 with
 |.pan vz2=>
  some (.pan vz2)
 |.ok z3=>
  ew N N x1 z3.1 (x1.length:Int) 0 z3.2.1 z3.2.2.2
set_option maxRecDepth 100000
def fB(i0:Nat)(i1:Nat)(r:bD):TV EE.T:=.a (.vec (.nam 10) 300000 r.1)
def uP(i0:Nat)(i1:Nat)(r:bD):List (Nat × TB EE.T):=[(i0,.cs (cv EE (.nam 8) r.2.1)),(i1,.imap .bool r.2.2.1),(300000,.vec 300000 (.nam 10) r.2.2.2)]
def fj(r:PR bD):RL EE.T:=pa (fB 100000 100001) (uP 100000 100001) r
def Nk:Lvs:=⟨[(4,⟨[(0,false),(1,false),(2,false),(4,false),(8,false)],[],[(8,(some 10,[])),(100000,(some 8,[])),(100001,(none,[])),(700001,(none,[]))],[]⟩),(5,⟨[(0,false),(1,false),(2,false),(4,false),(8,false),(11,false)],[],[(8,(some 10,[])),(11,(some 7,[])),(100000,(some 8,[])),(100001,(none,[])),(700001,(none,[]))],[]⟩)],[],[5],[],false,[(100000,(some 8,[]))],[100000,100001,300000],[(0,[.nl (.s 1) 700001 (.nam 10)]),(14,[.cl 401104 (.v (.int .i64)) (.s 12)])],[(88,300000),(700001,300000)]⟩
def ML:List ResultVar:=[.tmp 10]
def Lb(N:Nat):Gam EE:=⟨[],EQT,[⟨38,iC N⟩,⟨55,oI N⟩],[]⟩
theorem L2(N:Nat):GOk Try.prog TT EE (Lb N):=GOk.consx (j8 N) (GOk.consx (ql N) (GOk.nil cN))
def C9(c:Code):List It2:=atR 5 c
def Dd(x1_n:Nat)(x4:Int)(b8:Vthread)(b11:Vstep)(Tc:VMask)(Tk:List (Int × Bool))(Tl:List Vthread):TS EE.T:=⟨89,[(0,.a (.box 100000 0)),(1,.a (.vec (.nam 10) 700001 x1_n)),(2,.a (.mpr 100001)),(4,.a (.d (.int .i64) x4)),(8,.a (.box 8 0)),(11,.a (.box 11 0))],[(8,.cs (cv EE (.nam 10) b8)),(11,.cs (cv EE (.nam 7) b11)),(100000,.cs (cv EE (.nam 8) Tc)),(100001,.imap .bool Tk),(700001,.vec 700001 (.nam 10) Tl)],[]⟩
def JV(c:Code):List It2:=[.c c]
def Kj(x3:Vthread)(x4:Int)(y0:VMask)(y1:List (Int × Bool)):TS EE.T:=⟨89,[(0,.a (.box 100000 0)),(1,.a (.raw (.slice none 0 0))),(2,.a (.mpr 100001)),(3,.ag (cv EE (.nam 10) x3)),(4,.a (.d (.int .i64) x4))],[(100000,.cs (cv EE (.nam 8) y0)),(100001,.imap .bool y1)],[]⟩
def JC(c:Code)(f:Nat→Int→Vthread→Vstep→VMask→(List (Int × Bool))→(List Vthread)→Option (PR bD))(x1_n:Nat)(x4:Int)(b8:Vthread)(b11:Vstep)(Tc:VMask)(Tk:List (Int × Bool))(Tl:List Vthread):Tree (Lf EE.T × Option (PR bD)):=.leaf (.go (C9 c) (Dd x1_n x4 b8 b11 Tc Tk Tl),f x1_n x4 b8 b11 Tc Tk Tl)
abbrev FM(N:Nat)(r:PR bD)(k:List It2)(s:TS EE.T):Prop:=fa (Y:=TT) EE (Lb N) Nk ML (fun u=>u=fj r) k s
def jr(x:PR bD):Tree (Lf EE.T × Option (PR bD)):=.leaf (.done (fj x),some x)
theorem JK{N:Nat}{r:PR bD}(n:Nat)(x1_n:Nat)(x4:Int)(b8:Vthread)(b11:Vstep)(Tc:VMask)(Tk:List (Int × Bool))(Tl:List Vthread)(h:gM N n x1_n x4 b8 b11 Tc Tk Tl=some r):FM N r (C9 (aa 0 Try.f38)) (Dd x1_n x4 b8 b11 Tc Tk Tl):=
 av (m:=4000) (t:=
 .cond (b11.kind==2)
 (
  .bnd (cZ N x1_n ({ at_:=b11.a,slots:=b8.slots }:Vthread) x4 Tc Tl Tk) fun z2=>
  .sm z2 (fun z3=>
   jr (.ok (z3.1,z3.2.1,z3.2.2.2,z3.2.2.1))) (fun vz2=>
   jr (.pan vz2)))
 (
  .cond (b11.kind==1)
  (
   .bnd (cZ N x1_n ({ at_:=b11.a,slots:=b8.slots }:Vthread) x4 Tc Tl Tk) fun z4=>
   .sm z4 (fun z5=>
    .bnd (cZ N z5.1 ({ at_:=b11.b,slots:=b8.slots }:Vthread) x4 z5.2.1 z5.2.2.1 z5.2.2.2) fun z6=>
    .sm z6 (fun z7=>
     jr (.ok (z7.1,z7.2.1,z7.2.2.2,z7.2.2.1))) (fun vz6=>
     jr (.pan vz6))) (fun vz4=>
    jr (.pan vz4)))
  (
   .cond (b11.kind==3)
   (
    .bnd (ko N b8.slots) fun z8=>
    .sm z8 (fun z9=>
     .bnd (dg z9.1 b11.a) fun z10=>
     .bnd (z9.2[z10]?) fun z11=>
     .bnd (nR z9.1 (List.set z9.2 z10 x4)) fun z12=>
     .bnd (cZ N x1_n ({ at_:=w64 (b8.at_+1),slots:=z12 }:Vthread) x4 Tc Tl Tk) fun z13=>
     .sm z13 (fun z14=>
      jr (.ok (z14.1,z14.2.1,z14.2.2.2,z14.2.2.1))) (fun vz13=>
      jr (.pan vz13))) (fun vz8=>
     jr (.pan vz8)))
   (
    .bnd (oz 32 x1_n Tl ([b8] :List Vthread)) fun z15=>
    jr (.ok (z15.length,Tc,Tk,z15)))))) (by kernel_rfl) (by kernel_rfl) h (⟨fun _=>⟨fun _=>aO (enc:=fj) rfl,fun _=>aO (enc:=fj) rfl⟩,⟨fun _=>⟨fun _=>fun _=>⟨fun _=>aO (enc:=fj) rfl,fun _=>aO (enc:=fj) rfl⟩,fun _=>aO (enc:=fj) rfl⟩,⟨fun _=>⟨fun _=>fun _=>fun _=>fun _=>fun _=>⟨fun _=>aO (enc:=fj) rfl,fun _=>aO (enc:=fj) rfl⟩,fun _=>aO (enc:=fj) rfl⟩,fun _=>aO (enc:=fj) rfl⟩⟩⟩)
theorem JX{N:Nat}{r:PR bD}(x3:Vthread)(x4:Int)(y0:VMask)(y1:List (Int × Bool))(h:fh N x3 x4 y0 y1=some r):FM N r (JV (aa 0 Try.f38)) (Kj x3 x4 y0 y1):=
 av (m:=4000) (t:=
 .cond ((tE y1 x3.at_).getD false)
 (
  jr (.ok (0,y0,y1,([] :List Vthread))))
 (
  nlR 134 (
   .bnd (cg y0.steps x3.at_) fun z1=>
   JC (aa 0 Try.f38) (gM N N) 0 x4 x3 z1 y0 (DM y1 x3.at_ true) ([] :List Vthread)))) (by kernel_rfl) (by kernel_rfl) h (⟨aO (enc:=fj) rfl,Ay (fun _=>fun h=>JK N _ _ _ _ _ _ _ h)⟩)
def Fm(x3:Vthread)(x4:Int)(y0:VMask)(y1:List (Int × Bool)):List (TV EE.T):=[.a (.box 100000 0),.a (.raw (.slice none 0 0)),.a (.mpr 100001),.ag (cv EE (.nam 10) x3),.a (.d (.int .i64) x4)]
def BM(x3:Vthread)(x4:Int)(y0:VMask)(y1:List (Int × Bool)):List (Nat × TB EE.T):=[(100000,.cs (cv EE (.nam 8) y0)),(100001,.imap .bool y1)]
theorem pU{N:Nat}(x3:Vthread)(x4:Int)(y0:VMask)(y1:List (Int × Bool)){r:PR bD}(h:fh N x3 x4 y0 y1=some r)(ρ:Rn)(hi:Inj ρ (BM x3 x4 y0 y1)):aE Try.prog 38 ((Fm x3 x4 y0 y1).map (TV.to EE.toEnc ρ)) (hTo EE.toEnc ρ (BM x3 x4 y0 y1)) (cx EE ρ fun u=>u=fj r):=
 dO (aa 0 Try.f38) 89 mixed (L2 N) Try.func38 (by kernel_rfl) rfl rfl rfl rfl (JX x3 x4 y0 y1 h) ρ hi
def kW(N:Nat)(us:List (TV EE.T))(hs:List (Nat × TB EE.T)):XR EE.T:=
 gdX (eT us 5) <|
 bnX (aB us 0) fun i0=>
 gdX (aN us 1) <|
 bnX (aM us 2) fun i1=>
 bnX (aS EE 10 us 3) fun x3=>
 bnX (aD (.int .i64) us 4) fun x4=>
 bnX (bS EE 8 hs i0) fun y0=>
 bnX (bI .bool hs i1) fun y1=>
 gdX (bA hs [i0,i1]) <|
 gdX (i4 [i0,i1,300000]) <|
 .mv (fh N x3 x4 y0 y1) [i0,i1] (mvL [i0,i1] [100000,100001]) 1 (fB i0 i1) (uP i0 i1)
theorem n6(N:Nat):XOk Try.prog EE 38 (kW N):=fun us hs=>
 aJ fun h1=>ak fun i0 h2=>aJ fun h3=>ak fun i1 h4=>ak fun x3 h5=>ak fun x4 h6=>ak fun y0 h7=>ak fun y1 h8=>aJ fun h9=>aJ fun h10=>fun p hz ρ hi=>gQ (ex:=[(300000,300000)]) (ks:=[100000,100001]) (us':=Fm x3 x4 y0 y1) (h0:=BM x3 x4 y0 y1) (ρ':=jT ρ [i0,i1]) (uc:=fB 100000 100001) (u:=fB i0 i1) (hc:=uP 100000 100001) (h:=uP i0 i1) hi h9 (by kernel_rfl) ⟨gJ h2 (by kernel_rfl),SQ h3,PH h4 (by kernel_rfl),Lm h5,ja h6,bU h1⟩ ⟨(by kernel_rfl),so h7,(by kernel_rfl),PK h8,trivial⟩ ⟨.inr rfl,.inr rfl,trivial⟩ h10 (fun hj=>pU x3 x4 y0 y1 hz _ hj) (fun z=>⟨by kernel_rfl,by kernel_rfl,by kernel_rfl,by kernel_rfl⟩)
def lc(r:ar):TV EE.T:=.tu [.a (.d .bool r.1),.a (.d (.sl .str) r.2.1)]
def Gm(i0:Nat)(r:ar):List (Nat × TB EE.T):=[(i0,.cs (cv EE (.nam 8) r.2.2))]
def mz(r:PR ar):RL EE.T:=match r with
 |.ok z=>.ret (lc z) (Gm 100000 z)
 |.pan v=>.pan v
def Nl:Lvs:=⟨[(11,⟨[(0,false),(1,false),(8,false),(9,false),(10,false),(12,false),(30,false),(31,false),(35,false),(36,false),(37,false)],[],[(12,(some 10,[])),(34,(none,[])),(100000,(some 8,[])),(400448,(none,[])),(700009,(none,[]))],[]⟩),(12,⟨[(0,false),(1,false),(8,false),(9,false),(10,false),(12,false),(13,false),(30,false),(31,false),(35,false),(36,false),(37,false)],[],[(12,(some 10,[])),(13,(some 7,[])),(34,(none,[])),(100000,(some 8,[])),(400448,(none,[])),(700009,(none,[]))],[]⟩),(14,⟨[(0,false),(1,false),(8,false),(9,false),(10,false),(30,false),(31,false),(35,false),(36,false),(37,false)],[],[(34,(none,[])),(100000,(some 8,[])),(400448,(none,[])),(700009,(none,[]))],[]⟩),(20,⟨[(0,false),(1,false),(15,false),(77,false),(78,false),(79,false)],[],[(15,(some 10,[])),(100000,(some 8,[])),(400448,(none,[]))],[]⟩)],[(4,⟨[(0,false),(1,false),(7,false),(30,false),(31,false)],[],[(100000,(some 8,[])),(400448,(none,[]))],[(700009,400448)]⟩),(9,⟨[(0,false),(1,false),(8,false),(9,false),(10,false),(30,false),(31,false),(35,false),(36,false),(37,false)],[],[(34,(none,[])),(100000,(some 8,[])),(400448,(none,[])),(700009,(none,[]))],[]⟩),(18,⟨[(0,false),(1,false),(77,false),(78,false),(79,false)],[],[(100000,(some 8,[])),(400448,(none,[]))],[]⟩)],[12,14],[],false,[(100000,(some 8,[]))],[100000],[(7,[.nl (.s 9) 700009 (.nam 10)])],[]⟩
def OP:List ResultVar:=[.tmp 4,.tmp 5]
def Ij(N:Nat):Gam EE:=⟨[⟨37,oQ N⟩],EQT,[⟨39,i7 N⟩,⟨38,iC N⟩,⟨38,kW N⟩],[]⟩
theorem Ll(N:Nat):GOk Try.prog TT EE (Ij N):=GOk.cons (xE N) (GOk.consx (l9 N) (GOk.consx (j8 N) (GOk.consx (n6 N) (GOk.nil cN))))
def zO(c:Code):List It2:=atR 14 c
def zB(x1:List UInt8)(x8:Int)(x9_n:Nat)(x30:Int)(x31:Int)(x35_n:Nat)(x36:Int)(x37:Int)(b34:List (Int × Bool))(Tc:VMask)(Th:List Vthread)(Ti:List Vthread):TS EE.T:=⟨99,[(0,.a (.box 100000 0)),(1,.a (.d .str x1)),(8,.a (.d (.int .i64) x8)),(9,.a (.vec (.nam 10) 700009 x9_n)),(10,.a (.mpr 34)),(30,.a (.d (.int .i64) x30)),(31,.a (.d (.int .i64) x31)),(35,.a (.vec (.nam 10) 400448 x35_n)),(36,.a (.d (.int .i64) x36)),(37,.a (.d (.int .i64) x37))],[(34,.imap .bool b34),(100000,.cs (cv EE (.nam 8) Tc)),(400448,.vec 400448 (.nam 10) Th),(700009,.vec 700009 (.nam 10) Ti)],[]⟩
def yP(c:Code):List It2:=atR 12 c
def yU(x1:List UInt8)(x8:Int)(x9_n:Nat)(x30:Int)(x31:Int)(x35_n:Nat)(x36:Int)(x37:Int)(b12:Vthread)(b13:Vstep)(b34:List (Int × Bool))(Tc:VMask)(Th:List Vthread)(Ti:List Vthread):TS EE.T:=⟨99,[(0,.a (.box 100000 0)),(1,.a (.d .str x1)),(8,.a (.d (.int .i64) x8)),(9,.a (.vec (.nam 10) 700009 x9_n)),(10,.a (.mpr 34)),(12,.a (.box 12 0)),(13,.a (.box 13 0)),(30,.a (.d (.int .i64) x30)),(31,.a (.d (.int .i64) x31)),(35,.a (.vec (.nam 10) 400448 x35_n)),(36,.a (.d (.int .i64) x36)),(37,.a (.d (.int .i64) x37))],[(12,.cs (cv EE (.nam 10) b12)),(13,.cs (cv EE (.nam 7) b13)),(34,.imap .bool b34),(100000,.cs (cv EE (.nam 8) Tc)),(400448,.vec 400448 (.nam 10) Th),(700009,.vec 700009 (.nam 10) Ti)],[]⟩
def sf(c:Code):List It2:=atL 9 c
def rH(x1:List UInt8)(x8:Int)(x9_n:Nat)(x30:Int)(x31:Int)(x35_n:Nat)(x36:Int)(x37:Int)(b34:List (Int × Bool))(Tc:VMask)(Th:List Vthread)(Ti:List Vthread):TS EE.T:=⟨99,[(0,.a (.box 100000 0)),(1,.a (.d .str x1)),(8,.a (.d (.int .i64) x8)),(9,.a (.vec (.nam 10) 700009 x9_n)),(10,.a (.mpr 34)),(30,.a (.d (.int .i64) x30)),(31,.a (.d (.int .i64) x31)),(35,.a (.vec (.nam 10) 400448 x35_n)),(36,.a (.d (.int .i64) x36)),(37,.a (.d (.int .i64) x37))],[(34,.imap .bool b34),(100000,.cs (cv EE (.nam 8) Tc)),(400448,.vec 400448 (.nam 10) Th),(700009,.vec 700009 (.nam 10) Ti)],[]⟩
def y5(c:Code):List It2:=atL 18 c
def zP(x1:List UInt8)(x77_n:Nat)(x78:Int)(x79:Int)(Tc:VMask)(Th:List Vthread):TS EE.T:=⟨99,[(0,.a (.box 100000 0)),(1,.a (.d .str x1)),(77,.a (.vec (.nam 10) 400448 x77_n)),(78,.a (.d (.int .i64) x78)),(79,.a (.d (.int .i64) x79))],[(100000,.cs (cv EE (.nam 8) Tc)),(400448,.vec 400448 (.nam 10) Th)],[]⟩
def oF(c:Code):List It2:=atL 4 c
def oe(x1:List UInt8)(x7_n:Nat)(x30:Int)(x31:Int)(Tc:VMask)(Th:List Vthread):TS EE.T:=⟨99,[(0,.a (.box 100000 0)),(1,.a (.d .str x1)),(7,.a (.vec (.nam 10) 400448 x7_n)),(30,.a (.d (.int .i64) x30)),(31,.a (.d (.int .i64) x31))],[(100000,.cs (cv EE (.nam 8) Tc)),(400448,.vec 400448 (.nam 10) Th)],[]⟩
def MH(c:Code):List It2:=[.c c]
def KZ(x1:List UInt8)(y0:VMask):TS EE.T:=⟨99,[(0,.a (.box 100000 0)),(1,.a (.d .str x1))],[(100000,.cs (cv EE (.nam 8) y0))],[]⟩
def tp(c:Code)(f:(List UInt8)→Int→Nat→Int→Int→Nat→Int→Int→(List (Int × Bool))→VMask→(List Vthread)→(List Vthread)→Option (PR ar))(x1:List UInt8)(x8:Int)(x9_n:Nat)(x30:Int)(x31:Int)(x35_n:Nat)(x36:Int)(x37:Int)(b34:List (Int × Bool))(Tc:VMask)(Th:List Vthread)(Ti:List Vthread):Tree (Lf EE.T × Option (PR ar)):=.leaf (.go (zO c) (zB x1 x8 x9_n x30 x31 x35_n x36 x37 b34 Tc Th Ti),f x1 x8 x9_n x30 x31 x35_n x36 x37 b34 Tc Th Ti)
def Hb(c:Code)(f:(List UInt8)→Int→Nat→Int→Int→Nat→Int→Int→Vthread→Vstep→(List (Int × Bool))→VMask→(List Vthread)→(List Vthread)→Option (PR ar))(x1:List UInt8)(x8:Int)(x9_n:Nat)(x30:Int)(x31:Int)(x35_n:Nat)(x36:Int)(x37:Int)(b12:Vthread)(b13:Vstep)(b34:List (Int × Bool))(Tc:VMask)(Th:List Vthread)(Ti:List Vthread):Tree (Lf EE.T × Option (PR ar)):=.leaf (.go (yP c) (yU x1 x8 x9_n x30 x31 x35_n x36 x37 b12 b13 b34 Tc Th Ti),f x1 x8 x9_n x30 x31 x35_n x36 x37 b12 b13 b34 Tc Th Ti)
def Dt(c:Code)(f:(List UInt8)→Int→Nat→Int→Int→Nat→Int→Int→(List (Int × Bool))→VMask→(List Vthread)→(List Vthread)→Option (PR ar))(x1:List UInt8)(x8:Int)(x9_n:Nat)(x30:Int)(x31:Int)(x35_n:Nat)(x36:Int)(x37:Int)(b34:List (Int × Bool))(Tc:VMask)(Th:List Vthread)(Ti:List Vthread):Tree (Lf EE.T × Option (PR ar)):=.leaf (.go (sf c) (rH x1 x8 x9_n x30 x31 x35_n x36 x37 b34 Tc Th Ti),f x1 x8 x9_n x30 x31 x35_n x36 x37 b34 Tc Th Ti)
def zF(c:Code)(f:(List UInt8)→Nat→Int→Int→VMask→(List Vthread)→Option (PR ar))(x1:List UInt8)(x77_n:Nat)(x78:Int)(x79:Int)(Tc:VMask)(Th:List Vthread):Tree (Lf EE.T × Option (PR ar)):=.leaf (.go (y5 c) (zP x1 x77_n x78 x79 Tc Th),f x1 x77_n x78 x79 Tc Th)
def DN(c:Code)(f:(List UInt8)→Nat→Int→Int→VMask→(List Vthread)→Option (PR ar))(x1:List UInt8)(x7_n:Nat)(x30:Int)(x31:Int)(Tc:VMask)(Th:List Vthread):Tree (Lf EE.T × Option (PR ar)):=.leaf (.go (oF c) (oe x1 x7_n x30 x31 Tc Th),f x1 x7_n x30 x31 Tc Th)
abbrev iE(N:Nat)(r:PR ar)(k:List It2)(s:TS EE.T):Prop:=fa (Y:=TT) EE (Ij N) Nl OP (fun u=>u=mz r) k s
def uG(x:PR ar):Tree (Lf EE.T × Option (PR ar)):=.leaf (.done (mz x),some x)
theorem sZ{N:Nat}{r:PR ar}{k9:(List UInt8)→Int→Nat→Int→Int→Nat→Int→Int→(List (Int × Bool))→VMask→(List Vthread)→(List Vthread)→Option (PR ar)}{k4:(List UInt8)→Nat→Int→Int→VMask→(List Vthread)→Option (PR ar)}(hk9:∀x1 x8 x9_n x30 x31 x35_n x36 x37 b34 Tc Th Ti,k9 x1 x8 x9_n x30 x31 x35_n x36 x37 b34 Tc Th Ti=some r→iE N r (sf (aa 0 Try.f22)) (rH x1 x8 x9_n x30 x31 x35_n x36 x37 b34 Tc Th Ti))(hk4:∀x1 x7_n x30 x31 Tc Th,k4 x1 x7_n x30 x31 Tc Th=some r→iE N r (oF (aa 0 Try.f22)) (oe x1 x7_n x30 x31 Tc Th))(n:Nat)(x1:List UInt8)(x8:Int)(x9_n:Nat)(x30:Int)(x31:Int)(x35_n:Nat)(x36:Int)(x37:Int)(b34:List (Int × Bool))(Tc:VMask)(Th:List Vthread)(Ti:List Vthread)(h:cX N k9 k4 n x1 x8 x9_n x30 x31 x35_n x36 x37 b34 Tc Th Ti=some r):iE N r (zO (aa 0 Try.f22)) (zB x1 x8 x9_n x30 x31 x35_n x36 x37 b34 Tc Th Ti):=
 av (m:=4000) (t:=
 Dt (aa 0 Try.f22) k9 x1 x8 x9_n x30 x31 x35_n x36 (w64 (x37+1)) b34 Tc Th Ti) (by kernel_rfl) (by kernel_rfl) h (fun h=>hk9 _ _ _ _ _ _ _ _ _ _ _ _ h)
theorem GR{N:Nat}{r:PR ar}{k9:(List UInt8)→Int→Nat→Int→Int→Nat→Int→Int→(List (Int × Bool))→VMask→(List Vthread)→(List Vthread)→Option (PR ar)}{k4:(List UInt8)→Nat→Int→Int→VMask→(List Vthread)→Option (PR ar)}(hk9:∀x1 x8 x9_n x30 x31 x35_n x36 x37 b34 Tc Th Ti,k9 x1 x8 x9_n x30 x31 x35_n x36 x37 b34 Tc Th Ti=some r→iE N r (sf (aa 0 Try.f22)) (rH x1 x8 x9_n x30 x31 x35_n x36 x37 b34 Tc Th Ti))(hk4:∀x1 x7_n x30 x31 Tc Th,k4 x1 x7_n x30 x31 Tc Th=some r→iE N r (oF (aa 0 Try.f22)) (oe x1 x7_n x30 x31 Tc Th))(n:Nat)(x1:List UInt8)(x8:Int)(x9_n:Nat)(x30:Int)(x31:Int)(x35_n:Nat)(x36:Int)(x37:Int)(b12:Vthread)(b13:Vstep)(b34:List (Int × Bool))(Tc:VMask)(Th:List Vthread)(Ti:List Vthread)(h:gq N k9 k4 n x1 x8 x9_n x30 x31 x35_n x36 x37 b12 b13 b34 Tc Th Ti=some r):iE N r (yP (aa 0 Try.f22)) (yU x1 x8 x9_n x30 x31 x35_n x36 x37 b12 b13 b34 Tc Th Ti):=
 av (m:=4000) (t:=
 .cond (b13.kind==0)
 (
  .bnd (cg x1 x8) fun z11=>
  .bnd (b13.set_) fun z12=>
  .bnd (BT 256 (some z12) (b2i z11)) fun z13=>
  .cond (z13)
  (
   .bnd (cZ N x9_n ({ at_:=w64 (b12.at_+1),slots:=b12.slots }:Vthread) (w64 (x8+1)) Tc Ti b34) fun z14=>
   .sm z14 (fun z15=>
    tp (aa 0 Try.f22) (cX N k9 k4 n) x1 x8 z15.1 x30 x31 x35_n x36 x37 z15.2.2.2 z15.2.1 Th z15.2.2.1) (fun vz14=>
    uG (.pan vz14)))
  (
   tp (aa 0 Try.f22) (cX N k9 k4 n) x1 x8 x9_n x30 x31 x35_n x36 x37 b34 Tc Th Ti))
 (
  tp (aa 0 Try.f22) (cX N k9 k4 n) x1 x8 x9_n x30 x31 x35_n x36 x37 b34 Tc Th Ti)) (by kernel_rfl) (by kernel_rfl) h (⟨fun _=>fun _=>fun _=>⟨fun _=>⟨fun _=>fun h=>sZ hk9 hk4 n _ _ _ _ _ _ _ _ _ _ _ _ h,fun _=>aO (enc:=mz) rfl⟩,fun h=>sZ hk9 hk4 n _ _ _ _ _ _ _ _ _ _ _ _ h⟩,fun h=>sZ hk9 hk4 n _ _ _ _ _ _ _ _ _ _ _ _ h⟩)
theorem C0{N:Nat}{r:PR ar}{k4:(List UInt8)→Nat→Int→Int→VMask→(List Vthread)→Option (PR ar)}(hk4:∀x1 x7_n x30 x31 Tc Th,k4 x1 x7_n x30 x31 Tc Th=some r→iE N r (oF (aa 0 Try.f22)) (oe x1 x7_n x30 x31 Tc Th)):∀ (n:Nat) (x1:List UInt8) (x8:Int) (x9_n:Nat) (x30:Int) (x31:Int) (x35_n:Nat) (x36:Int) (x37:Int) (b34:List (Int × Bool)) (Tc:VMask) (Th:List Vthread) (Ti:List Vthread),ez N k4 n x1 x8 x9_n x30 x31 x35_n x36 x37 b34 Tc Th Ti=some r→iE N r (sf (aa 0 Try.f22)) (rH x1 x8 x9_n x30 x31 x35_n x36 x37 b34 Tc Th Ti)
 |0,_,_,_,_,_,_,_,_,_,_,_,_,h=>by cases h
 |n+1,x1,x8,x9_n,x30,x31,x35_n,x36,x37,b34,Tc,Th,Ti,h=>av (m:=4000) (t:=
  .cond (decide (x37 < x36))
  (
   .bnd (dg x35_n x37) fun z4=>
   .bnd (Th[z4]?) fun z5=>
   nlR 134 (
    .bnd (cg Tc.steps z5.at_) fun z6=>
    Hb (aa 0 Try.f22) (gq N (ez N k4 n) k4 n) x1 x8 x9_n x30 x31 x35_n x36 x37 z5 z6 b34 Tc Th Ti))
  (
   DN (aa 0 Try.f22) k4 x1 x9_n x30 (w64 (x31+1)) Tc Ti)) (by kernel_rfl) (by kernel_rfl) h (⟨fun _=>fun _=>Ay (fun _=>fun h=>GR (C0 hk4 n) hk4 n _ _ _ _ _ _ _ _ _ _ _ _ _ _ h),fun h=>hk4 _ _ _ _ _ _ h⟩)
theorem zc{N:Nat}{r:PR ar}:∀ (n:Nat) (x1:List UInt8) (x77_n:Nat) (x78:Int) (x79:Int) (Tc:VMask) (Th:List Vthread),ea N n x1 x77_n x78 x79 Tc Th=some r→iE N r (y5 (aa 0 Try.f22)) (zP x1 x77_n x78 x79 Tc Th)
 |0,_,_,_,_,_,_,h=>by cases h
 |n+1,x1,x77_n,x78,x79,Tc,Th,h=>av (m:=4000) (t:=
  .cond (decide (x79 < x78))
  (
   .bnd (dg x77_n x79) fun z7=>
   .bnd (Th[z7]?) fun z8=>
   .bnd (cg Tc.steps z8.at_) fun z9=>
   .cond (z9.kind==4)
   (
    .bnd (er N x1 z8.slots Tc) fun z10=>
    uG (.ok (true,z10.1,z10.2)))
   (
    zF (aa 0 Try.f22) (ea N n) x1 x77_n x78 (w64 (x79+1)) Tc Th))
  (
   uG (.ok (false,([] :List (List UInt8)),Tc)))) (by kernel_rfl) (by kernel_rfl) h (⟨fun _=>fun _=>fun _=>⟨fun _=>aO (enc:=mz) rfl,fun h=>(zc n) _ _ _ _ _ _ h⟩,aO (enc:=mz) rfl⟩)
theorem Cp{N:Nat}{r:PR ar}:∀ (n:Nat) (x1:List UInt8) (x7_n:Nat) (x30:Int) (x31:Int) (Tc:VMask) (Th:List Vthread),ew N n x1 x7_n x30 x31 Tc Th=some r→iE N r (oF (aa 0 Try.f22)) (oe x1 x7_n x30 x31 Tc Th)
 |0,_,_,_,_,_,_,h=>by cases h
 |n+1,x1,x7_n,x30,x31,Tc,Th,h=>av (m:=4000) (t:=
  .cond (decide (x31 < x30))
  (
   Dt (aa 0 Try.f22) (ez N (ew N n) n) x1 x31 0 x30 x31 x7_n (x7_n:Int) 0 ([] :List (Int × Bool)) Tc Th ([] :List Vthread))
  (
   zF (aa 0 Try.f22) (ea N n) x1 x7_n (x7_n:Int) 0 Tc Th)) (by kernel_rfl) (by kernel_rfl) h (⟨fun h=>C0 (Cp n) n _ _ _ _ _ _ _ _ _ _ _ _ h,fun h=>zc n _ _ _ _ _ _ h⟩)
theorem I6{N:Nat}{r:PR ar}(x1:List UInt8)(y0:VMask)(h:fw N x1 y0=some r):iE N r (MH (aa 0 Try.f22)) (KZ x1 y0):=
 av (m:=4000) (t:=
 .bnd (ma N ([(-1)] :List Int) (w64 ((w64 (2 * y0.Groups))+2))) fun z1=>
 .bnd (fh N ({ at_:=0,slots:=z1 }:Vthread) 0 y0 ([] :List (Int × Bool))) fun z2=>
 .sm z2 (fun z3=>
  DN (aa 0 Try.f22) (ew N N) x1 z3.1 (x1.length:Int) 0 z3.2.1 z3.2.2.2) (fun vz2=>
  uG (.pan vz2))) (by kernel_rfl) (by kernel_rfl) h (fun _=>fun _=>⟨fun _=>fun h=>Cp N _ _ _ _ _ _ h,fun _=>aO (enc:=mz) rfl⟩)
def N1(x1:List UInt8)(y0:VMask):List (TV EE.T):=[.a (.box 100000 0),.a (.d .str x1)]
def u6(x1:List UInt8)(y0:VMask):List (Nat × TB EE.T):=[(100000,.cs (cv EE (.nam 8) y0))]
theorem pY{N:Nat}(x1:List UInt8)(y0:VMask){r:PR ar}(h:fw N x1 y0=some r)(ρ:Rn)(hi:Inj ρ (u6 x1 y0)):aE Try.prog 22 ((N1 x1 y0).map (TV.to EE.toEnc ρ)) (hTo EE.toEnc ρ (u6 x1 y0)) (fun out H=>match r with|.ok z=>out=.ret ((lc z).to EE.toEnc ρ)∧H=hTo EE.toEnc ρ (Gm 100000 z)|.pan v=>out=.pan v):=
 (dO (aa 0 Try.f22) 99 mixed (Ll N) Try.func22 (by kernel_rfl) rfl rfl rfl rfl (I6 x1 y0 h) ρ hi).mono fun out H h=>by cases r with|ok z=>exact cx.retH rfl rfl h|pan v=>exact cx.pan h
def pS:Value→Option (Int × Int)
 |.iface t (.agg ⟨[.int .i64 e,.int .i64 a]⟩)=>if t=28 then some (e,a) else none
 |_=>none
theorem Bw{v:Value}{p:Int × Int}(h:pS v=some p):v=faultV p.1 p.2:=by
 unfold pS at h
 split at h
 ·split at h
  ·rename_i e
   cases h
   rw[e];rfl
  ·cases h
 ·cases h
def lY(N:Nat)(m:List UInt8):Option (Except (Int × Int) VMask):=
 if 60 < m.length then some (.error (2,0)) else
 match yN N m with
 |none=>none
 |some (.pan v)=>(pS v).map .error
 |some (.ok (_,_,at_,gr,k,l))=>if at_ < (m.length:Int) then some (.error (1,at_)) else(oz 32 k l [doneS]).map fun l'=>.ok ⟨gr,l'⟩
theorem zU{N:Nat}{m:List UInt8}{p:Int × Int}(h:lY N m=some (.error p))(w:World):Calls Try.prog 21 #[.string (mkB m)] w fun x w'=>x=.returned (.tuple #[.pointer none,.agg #[.int .i64 p.1,.int .i64 p.2]])∧Below w.heap.size w w':=by
 unfold lY at h
 split at h
 ·rename_i hm
  cases h
  exact A2 m hm w
 ·rename_i hm
  split at h
  ·cases h
  ·rename_i v hc
   obtain⟨q,hq,e⟩:=Option.map_eq_some_iff.1 h
   cases e
   have:=Bw hq
   subst this
   exact Ao m (by omega) _ _ hc w
  ·rename_i hc
   split at h
   ·rename_i hat
    cases h
    exact BO m (by omega) hc hat w
   ·obtain⟨q,hq,e⟩:=Option.map_eq_some_iff.1 h
    cases e
theorem wZ{N:Nat}{m:List UInt8}{mk:VMask}(h:lY N m=some (.ok mk))(w:World):Calls Try.prog 21 #[.string (mkB m)] w fun x w'=>∃ (X':GW) (km:Nat),x=.returned (.tuple #[.pointer (some ⟨km,0,none⟩),.agg #[.int .i64 0,.int .i64 0]])∧X'.w=w'∧Ext (fun b=>b < w.heap.size) ⟨w,fun _=>none⟩ X'∧SimE (fun b=>b < w.heap.size) X' ⟨1,[],[(km,cells EE.toEnc (.nam 8) mk)],[]⟩ #[undef] :=by
 unfold lY at h
 split at h
 ·cases h
 ·rename_i hm
  split at h
  ·cases h
  ·obtain⟨q,hq,e⟩:=Option.map_eq_some_iff.1 h
   cases e
  ·rename_i hc
   split at h
   ·cases h
   ·rename_i hat
    obtain⟨l',hv,e⟩:=Option.map_eq_some_iff.1 h
    cases e
    refine E8 m (by omega) hc hat hv ?_ w
    unfold oz at hv
    split at hv
    ·cases hv
     simp
    ·cases hv
set_option maxRecDepth 100000 in
set_option maxHeartbeats 4000000 in
theorem GO{N:Nat}{m:List UInt8}{p:Int × Int}(h:lY N m=some (.error p))(hp:p.1≠0)(text:List UInt8)(w:World):Calls Try.prog 9 #[.string (mkB m),.string (mkB text)] w fun x w'=>x=.returned (.tuple #[.bool false,.slice none 0 0,.int .i64 p.1])∧Below w.heap.size w w':=by
 have hc:=zU h w
 obtain⟨e,a⟩:=p
 dsimp only at hp hc ⊢
 have hne:(e==0)=false:=by simpa using hp
 go_enter Try.func9,Try.ntmps9
 go_wp2_with (go_at_call 21;refine hc.mono ?_)
 rintro x W1 ⟨rfl,b1⟩
 go_wp2
 go_region
 go_wp2
 simp[bodyPost,Leaves,settle,results,Try.results9,go_sem]
 exact b1.trans (((Below.refl _ W1).alloc (Nat.le_refl _) _).drew.mono b1.size)
set_option maxRecDepth 100000 in
set_option maxHeartbeats 4000000 in
theorem E4{N:Nat}{m:List UInt8}{mk:VMask}(h:lY N m=some (.ok mk))(text:List UInt8)(ht:2000 < text.length)(w:World):Calls Try.prog 9 #[.string (mkB m),.string (mkB text)] w fun x w'=>x=.returned (.tuple #[.bool false,.slice none 0 0,.int .i64 2])∧Below w.heap.size w w':=by
 have hc:=wZ h w
 have hsize:= @kC
 go_enter Try.func9,Try.ntmps9
 go_wp2_with (go_at_call 21;refine hc.mono ?_)
 rintro x w' ⟨X1,km,hx,hw,hx1,hs⟩
 subst hw hx
 have hz:=fR (B:=w.heap.size) hx1 fun b hb=>hb
 go_wp2
 simp[bodyPost,Leaves,settle,results,Try.results9,go_sem]
 exact hz.trans (((Below.refl _ X1.w).alloc (Nat.le_refl _) _).mono hz.size)
theorem G2{X:GW}(o:Obj):New X ⟨X.w.alloc o,X.g⟩:=by
 have h:=(Below.refl X.w.heap.size X.w).alloc (Nat.le_refl _) o
 exact⟨h.os,h.tape,h.output,h.size,fun b hb=>⟨h.block b hb,rfl⟩⟩
theorem RD{N:Nat}{text:List UInt8}{mk:VMask}{b:Bool}{ls:List (List UInt8)}{mk2:VMask}(h:fw N text mk=some (.ok (b,ls,mk2))){F:Nat→Prop}{X:GW}{n:Nat}{t:List (Nat × AV)}{tm:Array Value}{km:Nat}(hs:SimE F X ⟨n,t,[(km,cells EE.toEnc (.nam 8) mk)],[]⟩ tm):
  Calls Try.prog 22 #[.pointer (some ⟨km,0,none⟩),.string (mkB text)] X.w fun x w'=>∃ (X':GW) (lv:Value),x=.returned (.tuple #[.bool b,lv])∧X'.w=w'∧Ext F X X'∧Rel X' (.sl false 1 (ls.map w4)) lv∧(∀q n,X'.g q=some n→q < X'.w.heap.size):=by
 have hi:Inj (⟨fun _=>⟨km,false,[]⟩⟩:Rn) (u6 text mk):=by
  intro p hp q hq
  simp only[u6,List.mem_singleton] at hp hq
  subst hp hq
  exact⟨fun _ _ _=>rfl,fun _=>rfl⟩
 have hc:=pY text mk h ⟨fun _=>⟨km,false,[]⟩⟩ hi
 refine(hc.2 F X #[.pointer (some ⟨km,0,none⟩),.string (mkB text)] (hs.args rfl fun i u hu=> ?_)).mono ?_
 ·match i,hu with
  |0,hu=>cases hu;exact⟨.v _,rfl⟩
  |1,hu=>cases hu;exact⟨.v _,rfl⟩
  |n+2,hu=>cases hu
 ·rintro x w' ⟨X',out,H',rfl,⟨rfl,rfl⟩,⟨v,rfl,hs'⟩,hx⟩
  have h1:Rel X' (.tu [.v (.bool b),.sl false 1 (ls.map w4)]) (#[v].getD 0 undef):=hs'.slot 0 _ ga
  have hr:Rel X' (.tu [.v (.bool b),.sl false 1 (ls.map w4)]) v:=by simpa using h1
  clear h1
  cases hr with
  |tu _ xs hl hr=>
   obtain⟨a0,a1,rfl⟩:=AY (by simpa using hl.symm:xs.size=2)
   have e0:=b9 (hr 0 _ _ rfl rfl)
   subst e0
   exact⟨X',a1,rfl,rfl,hx,hr 1 _ _ rfl rfl,hs'.gb⟩
set_option maxRecDepth 100000 in
set_option maxHeartbeats 4000000 in
theorem LA{N:Nat}{m:List UInt8}{mk:VMask}(h:lY N m=some (.ok mk))(text:List UInt8)(ht:text.length≤2000){b:Bool}{ls:List (List UInt8)}{mk2:VMask}(hf:fw N text mk=some (.ok (b,ls,mk2)))(w:World):Calls Try.prog 9 #[.string (mkB m),.string (mkB text)] w fun x w'=>∃ (X':GW) (lv:Value),x=.returned (.tuple #[.bool b,lv,.int .i64 0])∧X'.w=w'∧Ext (fun b=>b < w.heap.size) ⟨w,fun _=>none⟩ X'∧Rel X' (.sl false 1 (ls.map w4)) lv∧(∀q n,X'.g q=some n→q < X'.w.heap.size):=by
 have hc:=wZ h w
 have hsize:= @kC
 go_enter Try.func9,Try.ntmps9
 go_wp2_with (go_at_call 21;refine hc.mono ?_)
 rintro x w' ⟨X1,km,hx,hw,hx1,hs⟩
 subst hw hx
 have hn:=G2 (X:=X1) (.cells #[.int .i64 0,.int .i64 0] 28)
 have hg2:∀q n,X1.g q=some n→q < (X1.w.alloc (.cells #[.int .i64 0,.int .i64 0] 28)).heap.size:=fun q n hq=>Nat.lt_of_lt_of_le (hs.gb q n hq) hn.size
 have hfw:=RD hf (hs.new hn hg2)
 have hx2:=hx1.trans (hn.ext hs.gb hs.fb)
 go_wp2_with (go_at_call 22;refine hfw.mono ?_)
 rintro x w' ⟨X2,lv,hx,hw,hx3,hr,hgb⟩
 subst hw hx
 go_wp2
 simp[bodyPost,Leaves,settle,results,Try.results9,go_sem]
 exact⟨X2,rfl,hx2.trans hx3,hr,hgb⟩
def kH(N:Nat)(m text:List UInt8):Option (Bool × List (List UInt8) × Int):=match lY N m with
 |none=>none
 |some (.error p)=>if p.1=0 then none else some (false,[],p.1)
 |some (.ok mk)=>if 2000 < text.length then some (false,[],2) else match fw N text mk with
  |some (.ok (b,ls,_))=>some (b,ls,0)
  |_=>none
def Bl(r:Bool × List (List UInt8) × Int):TV EE.T:=.tu [.a (.d .bool r.1),.a (.d (.sl .str) r.2.1),.a (.d (.int .i64) r.2.2)]
theorem B3{X:GW}{b:Bool}{u:AV}{v:Value}{n:Int}(h:Rel X u v):Rel X (.tu [.v (.bool b),u,.v (.int .i64 n)]) (.tuple #[.bool b,v,.int .i64 n]):=by
 refine .tu _ _ rfl ?_
 intro i u x hu hx
 match i,hu,hx with
 |0,hu,hx=>simp at hu hx;subst hu hx;exact .v _
 |1,hu,hx=>simp at hu hx;subst hu hx;exact h
 |2,hu,hx=>simp at hu hx;subst hu hx;exact .v _
theorem Ny{N:Nat}(m text:List UInt8){r:Bool × List (List UInt8) × Int}(h:kH N m text=some r):aE Try.prog 9 [.v (.string (mkB m)),.v (.string (mkB text))] [] (fun out H=>out=.ret (.tu [.v (.bool r.1),.sl false 1 (r.2.1.map w4),.v (.int .i64 r.2.2)])∧H=[]):=by
 refine xe ⟨_,Try.func9,by kernel_rfl,rfl⟩ rfl fun X vs hX hv hr=> ?_
 have e0:=b9 (hr 0 _ rfl)
 have e1:=b9 (hr 1 _ rfl)
 rw[Cr hv,e0,e1]
 have hnil:∀ {n:Int} {w':World} {X:GW},Below X.w.heap.size X.w w'→(∀b n,X.g b=some n→b < X.w.heap.size)→∃X' r,X'.w=w'∧Ending.returned (.tuple #[.bool false,.slice none 0 0,.int .i64 n])=.returned r∧Rel X' (.tu [.v (.bool false),.sl false 1 (([] :List (List UInt8)).map w4),.v (.int .i64 n)]) r∧Below X.w.heap.size X.w w'∧(∀b n,X'.g b=some n→b < w'.heap.size)∧∀b,b < X.w.heap.size→X'.g b=X.g b:=fun {n w' X} hb hX=>⟨⟨w',X.g⟩,_,rfl,rfl,B3 (.nil false 1),hb,fun b n hq=>Nat.lt_of_lt_of_le (hX b n hq) hb.size,fun b _=>rfl⟩
 unfold kH at h
 split at h
 ·cases h
 ·rename_i p hc
  split at h
  ·cases h
  ·rename_i hp
   cases h
   refine(GO hc hp text X.w).mono ?_
   rintro e w' ⟨rfl,hb⟩
   exact hnil hb hX
 ·rename_i mk hc
  split at h
  ·rename_i ht
   cases h
   refine(E4 hc text ht X.w).mono ?_
   rintro e w' ⟨rfl,hb⟩
   exact hnil hb hX
  ·rename_i ht
   split at h
   ·rename_i b ls mk2 hf
    cases h
    refine(LA hc text (by omega) hf X.w).mono ?_
    rintro e w' ⟨X',lv,rfl,rfl,hx,hrl,hgb⟩
    have hb:=fR (B:=X.w.heap.size) hx fun b hb=>hb
    refine⟨⟨X'.w,fun q=>match X.g q with|some n=>some n|none=>X'.g q⟩,_,rfl,rfl,B3 (hrl.mono fun q n hq=>⟨n,Nat.le_refl _,?_,fun j _=>rfl⟩),hb,fun q n hq=> ?_,fun q hq=> ?_⟩
    ·show(match X.g q with|some n=>some n|none=>X'.g q)=some n
     cases hg:X.g q with
     |none=>exact hq
     |some k=>
      have h1:=(hx.frame q (hX q k hg)).2
      rw[hq] at h1
      cases h1
    ·have hq':(match X.g q with|some n=>some n|none=>X'.g q)=some n:=hq
     cases hg:X.g q with
     |none=>rw[hg] at hq';exact hgb q n hq'
     |some k=>exact Nat.lt_of_lt_of_le (hX q k hg) hb.size
    ·show(match X.g q with|some n=>some n|none=>X'.g q)=X.g q
     cases hg:X.g q with
     |none=>exact(hx.frame q hq).2
     |some k=>rfl
   ·cases h
def nc(N:Nat):List (TV EE.T)→PV EE.T
 | [u0,u1] =>match lp .str u0,lp .str u1 with
   |some x0,some x1=>.opt (kH N x0 x1) Bl
   |_,_=>.bad
 |_=>.bad
theorem wU(N:Nat)(us:List (TV EE.T)):(nc N us).ok fun u=>∀ρ,aE Try.prog 9 (us.map (TV.to EE.toEnc ρ)) [] (fun out H=>out=.ret (u.to EE.toEnc ρ)∧H=[]):=by
 unfold nc
 split
 ·split
  ·rename_i u0 u1 x0 x1 h0 h1
   intro z hz ρ
   refine eU (us':=([.a (.d .str x0),.a (.d .str x1)] :List (TV EE.T))) ⟨ec h0 ρ,ec h1 ρ,trivial⟩ ?_
   exact Ny x0 x1 hz
  ·trivial
 ·trivial
set_option maxRecDepth 1000000
theorem ixn{α:Type}(l:List α)(i:Nat):cg l (i:Int)=l[i]? :=by
 unfold cg
 rw[if_pos (by omega),Int.toNat_natCast]
theorem qS{z:Int}(h1: -9223372036854775808≤z)(h2:z≤9223372036854775807):w64 z=z:=by
 unfold w64;rw[IntKind.wrap_i64];omega
theorem i5{i:Nat}(h:i≤10000000):w64 ((i:Int)+1)=((i+1:Nat):Int):=by rw[qS (by omega) (by omega)];omega
def flt(q:Int × Int):Value:=faultV q.1 q.2
def bM(m:List UInt8)(c:UInt8)(i:Nat):Bool:=match m[i]? with
 |some b=>b2i b==b2i c
 |none=>false
def jL(b:Bool)(i:Nat):Nat:=bif b then i+1 else i
theorem rI(N:Nat){m:List UInt8}{i:Nat}{b:UInt8}(h:m[i]? =some b)(g:Int)(n:Nat)(l:List Vstep):aK N m i g n l=some (.ok (b,true,m,(i:Int),g,n,l)):=by
 have hl:=(List.getElem?_eq_some_iff.1 h).1
 unfold aK
 rw[decide_eq_true (by omega),cond_true,ixn,h,Option.bind_some]
theorem pe(N:Nat){m:List UInt8}{i:Nat}(h:m[i]? =none)(g:Int)(n:Nat)(l:List Vstep):aK N m i g n l=some (.ok (0,false,m,(i:Int),g,n,l)):=by
 have hl:=List.getElem?_eq_none_iff.1 h
 unfold aK
 rw[decide_eq_false (by omega),cond_false]
theorem sS(N:Nat)(c:UInt8)(m:List UInt8){i:Nat}(hi:i≤1000000)(g:Int)(n:Nat)(l:List Vstep):bc N c m i g n l=some (.ok (bM m c i,m,((jL (bM m c i) i:Nat):Int),g,n,l)):=by
 unfold bc bM
 cases h:m[i]? with
 |none=>rw[pe N h,Option.bind_some];rfl
 |some b=>
  rw[rI N h,Option.bind_some]
  dsimp only
  cases hb:(b2i b==b2i c) with
  |true=>rw[cond_true,cond_true,i5 (by omega)];rfl
  |false=>rw[cond_true,cond_false];rfl
theorem jm(N:Nat)(x:Vstep)(m:List UInt8)(at_ g:Int)(l:List Vstep)(h:l.length≤1000000):ap N x m at_ g l.length l=some (.ok ((l.length:Int),m,at_,g,(l++ [x]).length,l++ [x])):=by
 unfold ap
 have hv:oz 32 l.length l [x] =some (l++ [x]):=by
  unfold oz
  rw[if_pos ⟨rfl,by simp,by simp;omega⟩]
 rw[hv,Option.bind_some]
 have:w64 (((l++ [x]).length:Int) - 1)=(l.length:Int):=by
  rw[qS (by simp only[List.length_append,List.length_singleton];omega) (by simp only[List.length_append,List.length_singleton];omega)];simp
 rw[this]
theorem BY(N:Nat)(s:List UInt8)(b:UInt8):∃z,cB N s b=some z∧decide (z≥0)=s.contains b:=by
 refine⟨Lib.indexByte s b,rfl,?_⟩
 induction s with
 |nil=>rfl
 |cons c r ih=>
  have hg:=Lib.indexByte_ge r b
  rw[Lib.indexByte,List.contains_cons]
  cases hc:(c==b) with
  |true=>
   have:(b==c)=true:=by rw[beq_iff_eq] at hc ⊢;exact hc.symm
   rw[this];rfl
  |false=>
   have:(b==c)=false:=by rw[beq_eq_false_iff_ne] at hc ⊢;exact fun e=>hc e.symm
   rw[this,Bool.false_or,← ih]
   cases hi:(Lib.indexByte r b== -1) with
   |true=>
    have:Lib.indexByte r b= -1:=beq_iff_eq.1 hi
    simp[this]
   |false=>
    have:Lib.indexByte r b≠ -1:=beq_eq_false_iff_ne.1 hi
    simp
    omega
def gT(m:List UInt8)(i:Nat):Except (Int × Int) (UInt8 × Nat):=match m[i]? with
 |none=>.error (1,(i:Int))
 |some b=>bif ([91,93,92,94,45] :List UInt8).contains b then .error (1,(i:Int)) else .ok (b,i+1)
theorem CI(N:Nat)(m:List UInt8){i:Nat}(hi:i≤1000000)(g:Int)(n:Nat)(l:List Vstep):bJ N m i g n l=match gT m i with
  |.error q=>some (.pan (flt q))
  |.ok (b,j)=>some (.ok (b,m,(j:Int),g,n,l)):=by
 unfold bJ gT
 cases h:m[i]? with
 |none=>rw[pe N h,Option.bind_some];rfl
 |some b=>
  rw[rI N h,Option.bind_some]
  dsimp only
  obtain⟨z,h1,h2⟩:=BY N [91,93,92,94,45] b
  rw[Bool.not_true,cond_false,h1,Option.bind_some,h2]
  cases ([91,93,92,94,45] :List UInt8).contains b with
  |true=>rfl
  |false=>rw[cond_false,cond_false,i5 (by omega)]
theorem kn{m:List UInt8}{i:Nat}{b:UInt8}{j:Nat}(h:gT m i=.ok (b,j)):j=i+1∧i < m.length:=by
 unfold gT at h
 split at h
 ·cases h
 ·rename_i c hc
  have:=(List.getElem?_eq_some_iff.1 hc).1
  cases hb:([91,93,92,94,45] :List UInt8).contains c with
  |true=>rw[hb,cond_true] at h;cases h
  |false=>rw[hb,cond_false] at h;cases h;exact⟨rfl,this⟩
theorem dP{m:List UInt8}{c:UInt8}{i:Nat}(h:bM m c i=true):i < m.length:=by
 unfold bM at h
 split at h
 ·rename_i b hb
  exact(List.getElem?_eq_some_iff.1 hb).1
 ·cases h
def la(S:List Bool)(a:Nat):Nat→List Bool
 |0=>S
 |c+1=>la (S.set a true) (a+1) c
theorem ic:∀ (c a:Nat) (S:List Bool),(la S a c).length=S.length
 |0,a,S=>rfl
 |c+1,a,S=>by rw[la,ic c];simp
theorem jO(c:UInt8):b2i c=(c.toNat:Int):=rfl
theorem EU(N:Nat){k4:Bool→Bool→(List Bool)→(List UInt8)→Int→Int→Nat→(List Vstep)→Option (PR aj)}(x3:Bool)(x7:UInt8)(m:List UInt8)(at_ g:Int)(n0:Nat)(l:List Vstep):∀ (c n x:Nat) (S:List Bool),S.length=256→x+c=x7.toNat+1→c+1≤n→bv N k4 n x3 x7 (x:Int) S m at_ g n0 l=k4 x3 false (la S x c) m at_ g n0 l
 |c,0,x,S,h1,h2,h3=>by omega
 |0,n+1,x,S,h1,h2,h3=>by
  have hb:=x7.toNat_lt
  rw[bv,jO,qS (by omega) (by omega),decide_eq_false (by omega),cond_false]
  rfl
 |c+1,n+1,x,S,h1,h2,h3=>by
  have hb:=x7.toNat_lt
  have e1:dg 256 (x:Int)=some x:=by
   unfold dg
   rw[if_pos (by omega)];simp
  have e2:gW S (0+x) true=some (S.set x true):=by
   unfold gW
   rw[Nat.zero_add,if_pos (by omega)]
  rw[bv,jO,qS (by omega) (by omega),decide_eq_true (by omega),cond_true,e1,Option.bind_some,e2,Option.bind_some,i5 (by omega),EU N x3 x7 m at_ g n0 l c n (x+1) _ (by simpa using h1) (by omega) (by omega)]
  rfl
def qa(m:List UInt8):Nat→Bool→Nat→List Bool→Except (Int × Int) (List Bool × Nat)
 |0,_,i,_=>.error (0,(i:Int))
 |f+1,first,i,S=>bif !first && bM m 93 i then .ok (S,i+1) else
  match gT m i with
  |.error q=>.error q
  |.ok (a,i1)=>bif bM m 45 i1 then
    match gT m (i1+1) with
    |.error q=>.error q
    |.ok (b,i3)=>bif decide ((b2i b) < (b2i a)) then .error (3,((i1+1:Nat):Int)) else qa m f false i3 (la S a.toNat (b.toNat+1 - a.toNat))
   else qa m f false i1 (la S a.toNat 1)
theorem Kb(N:Nat)(x3:Bool)(m:List UInt8)(at_ g:Int)(n0:Nat)(l:List Vstep)(S0:List Bool)(h0:S0.length=256):∀ (c n i:Nat) (S:List Bool),i+c=256→c+1≤n→S=(S0.take i).map (fun v=> !(v==x3))++S0.drop i→bH N n x3 (i:Int) S m at_ g n0 l=some (.ok (some (S0.map fun v=> !(v==x3)),m,at_,g,n0,l))
 |c,0,i,S,h1,h2,h3=>by omega
 |0,n+1,i,S,h1,h2,h3=>by
  have hi:i=256:=by omega
  subst hi
  have hS:S=S0.map fun v=> !(v==x3):=by
   rw[h3,List.take_of_length_le (by omega),List.drop_eq_nil_of_le (by omega),List.append_nil]
  rw[bH,decide_eq_false (by omega),cond_false]
  unfold nR
  rw[hS,if_pos (by simp[h0]),Option.bind_some]
 |c+1,n+1,i,S,h1,h2,h3=>by
  have hi:i < S0.length:=by omega
  have hl:S.length=256:=by rw[h3];simp;omega
  have e1:dg 256 (i:Int)=some i:=by
   unfold dg
   rw[if_pos (by omega)];simp
  have e2:S[0+i]? =some S0[i] :=by
   have e0:((S0.take i).map fun v=> !(v==x3)).length=i:=by rw[List.length_map,List.length_take];omega
   rw[h3,Nat.zero_add,List.getElem?_append_right (by omega),e0,Nat.sub_self,List.getElem?_drop,Nat.add_zero,List.getElem?_eq_getElem hi]
  have e3:gW S (0+i) (!(S0[i] ==x3))=some (S.set i (!(S0[i] ==x3))):=by
   unfold gW
   rw[Nat.zero_add,if_pos (by omega)]
  rw[bH,decide_eq_true (by omega),cond_true,e1,Option.bind_some,e2,Option.bind_some,Option.bind_some,e3,Option.bind_some,i5 (by omega)]
  refine Kb N x3 m at_ g n0 l S0 h0 c n (i+1) _ (by omega) (by omega) ?_
  have e0:((S0.take i).map fun v=> !(v==x3)).length=i:=by rw[List.length_map,List.length_take];omega
  rw[h3,List.set_append_right _ _ (by omega),e0,Nat.sub_self,List.drop_eq_getElem_cons hi,List.set_cons_zero,List.take_add_one,List.getElem?_eq_getElem hi]
  show _=((S0.take i++ [S0[i]]).map _)++_
  rw[List.map_append,List.append_assoc]
  rfl
theorem wX{m:List UInt8}:∀ (f:Nat) (first:Bool) (i:Nat) (S:List Bool) {T:List Bool} {j:Nat},qa m f first i S=.ok (T,j)→S.length=256→i≤m.length→T.length=256∧i < j∧j≤m.length
 |0,first,i,S,T,j,h,hS,hi=>by cases h
 |f+1,first,i,S,T,j,h,hS,hi=>by
  rw[qa] at h
  cases hb:(!first && bM m 93 i) with
  |true=>
   rw[hb,cond_true] at h
   cases h
   have:=dP (Bool.and_eq_true_iff.1 hb).2
   exact⟨hS,by omega,by omega⟩
  |false=>
   rw[hb,cond_false] at h
   split at h
   ·cases h
   ·rename_i a i1 hp
    obtain⟨e1,e2⟩:=kn hp
    cases hd:bM m 45 i1 with
    |false=>
     rw[hd,cond_false] at h
     have:=wX f false i1 _ h (by rw[ic];exact hS) (by omega)
     omega
    |true=>
     rw[hd,cond_true] at h
     split at h
     ·cases h
     ·rename_i b i3 hp2
      obtain⟨e3,e4⟩:=kn hp2
      cases hl:decide ((b2i b) < (b2i a)) with
      |true=>rw[hl,cond_true] at h;cases h
      |false=>
       rw[hl,cond_false] at h
       have:=wX f false i3 _ h (by rw[ic];exact hS) (by omega)
       omega
theorem Bb{m:List UInt8}(hm:m.length≤60)(x3:Bool)(g:Int)(n0:Nat)(l:List Vstep):∀ (f n:Nat) (first:Bool) (i:Nat) (S:List Bool),i≤m.length→m.length+1≤f+i→f+400≤n→S.length=256→br 3000 n x3 first S m i g n0 l=match qa m f first i S with
  |.error q=>some (.pan (flt q))
  |.ok (T,j)=>some (.ok (some (T.map fun v=> !(v==x3)),m,(j:Int),g,n0,l))
 |0,n,first,i,S,h1,h2,h3,h4=>by omega
 |f+1,n,first,i,S,h1,h2,h3,h4=>by
  obtain⟨n,rfl⟩:∃k,n=k+1:=⟨n - 1,by omega⟩
  have hR:cy 3000 (br 3000 n) n x3 S m (i:Int) g n0 l=match(match gT m i with
    |.error q=>.error q
    |.ok (a,i1)=>bif bM m 45 i1 then
      match gT m (i1+1) with
      |.error q=>.error q
      |.ok (b,i3)=>bif decide ((b2i b) < (b2i a)) then .error (3,((i1+1:Nat):Int)) else qa m f false i3 (la S a.toNat (b.toNat+1 - a.toNat))
     else qa m f false i1 (la S a.toNat 1):Except (Int × Int) (List Bool × Nat)) with
    |.error q=>some (.pan (flt q))
    |.ok (T,j)=>some (.ok (some (T.map fun v=> !(v==x3)),m,(j:Int),g,n0,l)):=by
   unfold cy
   rw[CI _ _ (by omega)]
   cases hp:gT m i with
   |error q=>rfl
   |ok p=>
    obtain⟨a,i1⟩:=p
    obtain⟨e1,e2⟩:=kn hp
    have ha:=a.toNat_lt
    rw[Option.bind_some]
    dsimp only
    rw[sS _ _ _ (by omega),Option.bind_some]
    dsimp only
    cases hd:bM m 45 i1 with
    |false=>
     rw[cond_false,cond_false]
     show bv 3000 _ n x3 a (w64 (b2i a)) S m ((i1:Nat):Int) g n0 l=_
     rw[jO,qS (by omega) (by omega),EU 3000 x3 a m _ g n0 l 1 n a.toNat S h4 rfl (by omega)]
     exact Bb hm x3 g n0 l f n false i1 _ (by omega) (by omega) (by omega) (by rw[ic];exact h4)
    |true=>
     rw[cond_true,cond_true]
     show((bJ 3000 m ((i1+1:Nat):Int) g n0 l).bind _)=_
     rw[CI _ _ (by omega)]
     cases hp2:gT m (i1+1) with
     |error q=>rfl
     |ok p2=>
      obtain⟨b,i3⟩:=p2
      obtain⟨e3,e4⟩:=kn hp2
      have hb:=b.toNat_lt
      rw[Option.bind_some]
      dsimp only
      by_cases hl:(b2i b) < (b2i a)
      ·rw[decide_eq_true hl,cond_true,cond_true]
       rfl
      ·rw[decide_eq_false hl,cond_false,cond_false]
       rw[jO,jO] at hl
       show bv 3000 _ n x3 b (w64 (b2i a)) S m ((i3:Nat):Int) g n0 l=_
       rw[jO,qS (by omega) (by omega),EU 3000 x3 b m _ g n0 l (b.toNat+1 - a.toNat) n a.toNat S h4 (by omega) (by omega)]
       exact Bb hm x3 g n0 l f n false i3 _ (by omega) (by omega) (by omega) (by rw[ic];exact h4)
  rw[br,qa]
  cases first with
  |true=>rw[cond_true,hR];rfl
  |false=>
   rw[cond_false,sS _ _ _ (by omega),Option.bind_some]
   dsimp only
   cases hb:bM m 93 i with
   |false=>exact hR
   |true=>
    show bH 3000 n x3 ((0:Nat):Int) S m ((i+1:Nat):Int) g n0 l=_
    rw[Kb 3000 x3 m _ g n0 l S h4 256 n 0 S rfl (by omega) (by simp)]
    rfl
def xV(m:List UInt8)(i:Nat):Except (Int × Int) (List Bool × Nat):=match qa m (m.length+1) true (jL (bM m 94 i) i) (List.replicate 256 false) with
 |.error q=>.error q
 |.ok (T,j)=>.ok (T.map fun v=> !(v==bM m 94 i),j)
theorem Rp{m:List UInt8}(hm:m.length≤60){i:Nat}(hi:i≤m.length)(g:Int)(n0:Nat)(l:List Vstep):cW 3000 m i g n0 l=match xV m i with
  |.error q=>some (.pan (flt q))
  |.ok (S,j)=>some (.ok (some S,m,(j:Int),g,n0,l)):=by
 unfold cW xV
 rw[sS _ _ _ (by omega),Option.bind_some]
 dsimp only
 have hs:jL (bM m 94 i) i≤m.length∧i≤jL (bM m 94 i) i:=by
  unfold jL
  cases h:bM m 94 i with
  |true=>have:=dP h;exact⟨by simp;omega,by simp⟩
  |false=>exact⟨hi,Nat.le_refl _⟩
 have:=Bb hm (bM m 94 i) g n0 l (m.length+1) 3000 true _ (List.replicate 256 false) hs.1 (by omega) (by omega) (by simp)
 have e:br 3000 3000 (bM m 94 i) true (List.replicate 256 false) m ((jL (bM m 94 i) i:Nat):Int) g n0 l=_:=this
 refine Eq.trans e ?_
 cases qa m (m.length+1) true (jL (bM m 94 i) i) (List.replicate 256 false) with
 |error q=>rfl
 |ok p=>rfl
theorem N0{m:List UInt8}{i:Nat}(hi:i≤m.length){S:List Bool}{j:Nat}(h:xV m i=.ok (S,j)):S.length=256∧i < j∧j≤m.length:=by
 unfold xV at h
 split at h
 ·cases h
 ·rename_i T j' hT
  cases h
  have hs:jL (bM m 94 i) i≤m.length∧i≤jL (bM m 94 i) i:=by
   unfold jL
   cases h:bM m 94 i with
   |true=>have:=dP h;exact⟨by simp;omega,by simp⟩
   |false=>exact⟨hi,Nat.le_refl _⟩
  have:=wX _ _ _ _ hT (by simp) hs.1
  exact⟨by simpa using this.1,by omega,by omega⟩
set_option maxRecDepth 1000000
def oU(c:UInt8):List Bool:=(List.replicate 256 false).set c.toNat true
theorem sE(c:UInt8):(oU c).length=256:=by simp[oU]
theorem II(N:Nat)(c:UInt8):gA N c=some (some (oU c)):=by
 have h1:gA N c=(dg 256 (b2i c)).bind fun z1=>(gW (List.replicate 256 false) (0+z1) true).bind fun z2=>(nR 256 z2).bind fun z3=>some (some z3):=by kernel_rfl
 have hc:=c.toNat_lt
 have e1:dg 256 (b2i c)=some c.toNat:=by
  unfold dg
  rw[jO,if_pos (by omega)];simp
 have e2:gW (List.replicate 256 false) (0+c.toNat) true=some (oU c):=by
  unfold gW
  rw[Nat.zero_add,if_pos (by simp;omega)];rfl
 have e3:nR 256 (oU c)=some (oU c):=by
  unfold nR
  rw[if_pos (sE c).symm]
 rw[h1,e1,Option.bind_some,e2,Option.bind_some,e3,Option.bind_some]
def qz(x:UInt8):Bool:=
 bif decide ((b2i x)≥(b2i 97)) then
  bif decide ((b2i x)≤(b2i 122)) then true
  else bif decide ((b2i x)≥(b2i 65)) then
   bif decide ((b2i x)≤(b2i 90)) then true else bif decide ((b2i x)≥(b2i 48)) then decide ((b2i x)≤(b2i 57)) else false
   else bif decide ((b2i x)≥(b2i 48)) then decide ((b2i x)≤(b2i 57)) else false
 else bif decide ((b2i x)≥(b2i 65)) then
   bif decide ((b2i x)≤(b2i 90)) then true else bif decide ((b2i x)≥(b2i 48)) then decide ((b2i x)≤(b2i 57)) else false
   else bif decide ((b2i x)≥(b2i 48)) then decide ((b2i x)≤(b2i 57)) else false
def nE(m:List UInt8)(i:Nat):Except (Int × Int) (List Bool × Nat):=match m[i]? with
 |none=>.error (0,(i:Int))
 |some c=>bif (b2i c)==(b2i 46) then .ok (List.replicate 256 true,i+1)
  else bif (b2i c)==(b2i 92) then
   match m[i+1]? with
   |none=>.error (1,((i+1:Nat):Int))
   |some x=>bif qz x then .error (1,((i+1:Nat):Int)) else .ok (oU x,i+2)
  else bif (b2i c)==(b2i 91) then xV m (i+1)
  else bif ([42,43,63,41,124,93] :List UInt8).contains c then .error (1,(i:Int)) else .ok (oU c,i+1)
def tkS(S:List Bool):Vstep:=⟨0,0,0,some S⟩
theorem Q0 (NR : RecC) (m : List UInt8) (at_ g : Int) (n : Nat) (l : List Vstep) : cj NR 3000 0 (List.replicate 256 false) m at_ g n l = (ap NR.n (tkS (List.replicate 256 true)) m at_ g n l).bind fun z16 =>
   match z16 with
   |.pan vz16=>some (.pan vz16)
   |.ok z17=>some (.ok (false,z17.2.1,z17.2.2.1,z17.2.2.2.1,z17.2.2.2.2.1,z17.2.2.2.2.2)):=by kernel_rfl
def PO(m:List UInt8)(g:Int)(l:List Vstep):Except (Int × Int) (List Bool × Nat)→Option (PR am)
 |.error q=>some (.pan (flt q))
 |.ok (S,j)=>some (.ok (false,m,(j:Int),g,(l++ [tkS S]).length,l++ [tkS S]))
theorem NE{NR:RecC}(hN:NR.n=3000){m:List UInt8}(hm:m.length≤60){i:Nat}{c:UInt8}(hc:m[i]? =some c)(h40:(b2i c==b2i 40)=false)(g:Int)(l:List Vstep)(hl:l.length≤100000):bz NR m i g l.length l=PO m g l (nE m i):=by
 have hi:=(List.getElem?_eq_some_iff.1 hc).1
 unfold bz nE
 rw[ixn,hc,Option.bind_some,hN]
 dsimp only
 cases h46:(b2i c==b2i 46) with
 |true=>
  rw[cond_true,cond_true]
  show cj NR 3000 0 (List.replicate 256 false) m (w64 ((i:Int)+1)) g l.length l=_
  rw[Q0,jm _ _ _ _ _ _ (by omega),i5 (by omega)]
  rfl
 |false=>
  rw[cond_false,cond_false]
  cases h92:(b2i c==b2i 92) with
  |true=>
   rw[cond_true,cond_true,i5 (by omega)]
   cases hx:m[i+1]? with
   |none=>
    rw[pe _ hx,Option.bind_some]
    show aq NR 3000 0 false false m ((i+1:Nat):Int) g l.length l=_
    unfold aq cC
    rfl
   |some x=>
    rw[rI _ hx,Option.bind_some]
    dsimp only
    have hx':=(List.getElem?_eq_some_iff.1 hx).1
    have key:∀L:Bool,qz x=L→aq NR 3000 x true L m ((i+1:Nat):Int) g l.length l=PO m g l (bif qz x then .error (1,((i+1:Nat):Int)) else .ok (oU x,i+2)):=by
     rintro L rfl
     unfold aq
     rw[Bool.not_true,cond_false]
     cases qz x with
     |true=>rfl
     |false=>
      rw[cond_false,cond_false,II,Option.bind_some,jm _ _ _ _ _ _ (by omega),i5 (by omega)]
      rfl
    cases e1:decide ((b2i x)≥(b2i 97))<;> cases e2:decide ((b2i x)≤(b2i 122))<;> cases e3:decide ((b2i x)≥(b2i 65))<;> cases e4:decide ((b2i x)≤(b2i 90))<;> cases e5:decide ((b2i x)≥(b2i 48))<;> simp only[cond_true,cond_false] <;> refine key _ ?_<;> simp only[qz,e1,e2,e3,e4,e5,cond_true,cond_false]
  |false=>
   rw[cond_false,cond_false]
   cases h91:(b2i c==b2i 91) with
   |true=>
    rw[cond_true,cond_true,i5 (by omega),Rp hm (by omega)]
    cases hs:xV m (i+1) with
    |error q=>rfl
    |ok p=>
     obtain⟨S,j⟩:=p
     rw[Option.bind_some]
     dsimp only
     rw[jm _ _ _ _ _ _ (by omega)]
     rfl
   |false=>
    rw[cond_false,cond_false,h40,cond_false]
    obtain⟨z,h1,h2⟩:=BY 3000 [42,43,63,41,124,93] c
    rw[h1,Option.bind_some,h2]
    cases ([42,43,63,41,124,93] :List UInt8).contains c with
    |true=>rfl
    |false=>
     rw[cond_false,cond_false]
     unfold cL
     rw[II,Option.bind_some,jm _ _ _ _ _ _ (by omega),i5 (by omega)]
     rfl
theorem Cx{m:List UInt8}{i:Nat}{S:List Bool}{j:Nat}(h:nE m i=.ok (S,j)):S.length=256∧i < j∧j≤m.length:=by
 unfold nE at h
 split at h
 ·cases h
 ·rename_i c hc
  have hi:=(List.getElem?_eq_some_iff.1 hc).1
  cases h46:(b2i c==b2i 46) with
  |true=>rw[h46,cond_true] at h;cases h;exact⟨by simp,by omega,by omega⟩
  |false=>
   rw[h46,cond_false] at h
   cases h92:(b2i c==b2i 92) with
   |true=>
    rw[h92,cond_true] at h
    split at h
    ·cases h
    ·rename_i x hx
     have hi2:=(List.getElem?_eq_some_iff.1 hx).1
     cases hl:qz x with
     |true=>rw[hl,cond_true] at h;cases h
     |false=>rw[hl,cond_false] at h;cases h;exact⟨sE _,by omega,by omega⟩
   |false=>
    rw[h92,cond_false] at h
    cases h91:(b2i c==b2i 91) with
    |true=>
     rw[h91,cond_true] at h
     have:=N0 (by omega) h
     exact⟨this.1,by omega,this.2.2⟩
    |false=>
     rw[h91,cond_false] at h
     cases hcn:([42,43,63,41,124,93] :List UInt8).contains c with
     |true=>rw[hcn,cond_true] at h;cases h
     |false=>rw[hcn,cond_false] at h;cases h;exact⟨sE _,by omega,by omega⟩
inductive Nd
 |set (S:List Bool) (sg:UInt8)
 |grp (n:Nat) (M:Nd) (sg:UInt8)
 |nil
 |cons (p r:Nd)
 |alt (r M:Nd)
def sgN(sg:UInt8):Bool:=sg==42 || sg==63
def Nd.null:Nd→Bool
 |.set _ sg=>sgN sg
 |.grp _ M sg=>sgN sg || M.null
 |.nil=>true
 |.cons p r=>p.null && r.null
 |.alt r M=>r.null || M.null
def sgL(sg:UInt8):Nat:=bif sg==42 then 2 else bif sg==43 then 1 else bif sg==63 then 1 else 0
def Nd.len:Nd→Nat
 |.set _ sg=>1+sgL sg
 |.grp _ M sg=>M.len+2+sgL sg
 |.nil=>0
 |.cons p r=>p.len+r.len
 |.alt r M=>r.len+M.len+2
def fkS(a b:Nat):Vstep:=⟨1,(a:Int),(b:Int),none⟩
def jpS(a:Nat):Vstep:=⟨2,(a:Int),0,none⟩
def svS(a:Nat):Vstep:=⟨3,(a:Int),0,none⟩
def i6(b:Nat)(sg:UInt8)(body:Nat→List Vstep)(n:Nat):List Vstep:=
 bif sg==42 then fkS (b+1) (b+n+2)::(body (b+1)++ [jpS b])
 else bif sg==43 then body b++ [fkS b (b+n+1)]
 else bif sg==63 then fkS (b+1) (b+n+1)::body (b+1)
 else body b
def Nd.code:Nd→Nat→List Vstep
 |.set S sg,b=>i6 b sg (fun _=>[tkS S]) 1
 |.grp n M sg,b=>i6 b sg (fun b'=>svS (2 * n)::(M.code (b'+1)++ [svS (2 * n+1)])) (M.len+2)
 |.nil,b=>[]
 |.cons p r,b=>p.code b++r.code (b+p.len)
 |.alt r M,b=>fkS (b+1) (b+r.len+2)::(r.code (b+1)++jpS (b+r.len+2+M.len)::M.code (b+r.len+2))
theorem zl{b:Nat}{sg:UInt8}{body:Nat→List Vstep}{n:Nat}(h:∀b,(body b).length=n):(i6 b sg body n).length=n+sgL sg:=by
 unfold i6 sgL
 cases sg==42
 ·cases sg==43
  ·cases sg==63
   ·simp[h]
   ·simp[h]
  ·simp[h]
 ·simp[h]
theorem Nd.code_len:∀ (x:Nd) (b:Nat),(x.code b).length=x.len
 |.set S sg,b=>zl fun _=>rfl
 |.grp n M sg,b=>by
  show(i6 b sg _ (M.len+2)).length=M.len+2+sgL sg
  exact zl fun b'=>by rw[List.length_cons,List.length_append,M.code_len];rfl
 |.nil,b=>rfl
 |.cons p r,b=>by unfold Nd.code Nd.len;rw[List.length_append,p.code_len,r.code_len]
 |.alt r M,b=>by unfold Nd.code Nd.len;rw[List.length_cons,List.length_append,List.length_cons,r.code_len,M.code_len];omega
def shS(by_:Int)(s:Vstep):Vstep:=bif s.kind==1 then⟨s.kind,w64 (s.a+by_),w64 (s.b+by_),s.set_⟩ else bif s.kind==2 then⟨s.kind,w64 (s.a+by_),s.b,s.set_⟩ else s
theorem BN{k a b:Nat}(h1:a+k≤1000000)(h2:b+k≤1000000):shS k (fkS a b)=fkS (a+k) (b+k):=by
 show(⟨1,w64 ((a:Int)+k),w64 ((b:Int)+k),none⟩:Vstep)=⟨1,((a+k:Nat):Int),((b+k:Nat):Int),none⟩
 rw[qS (by omega) (by omega),qS (by omega) (by omega)];simp
theorem J2{k a:Nat}(h1:a+k≤1000000):shS k (jpS a)=jpS (a+k):=by
 show(⟨2,w64 ((a:Int)+k),0,none⟩:Vstep)=⟨2,((a+k:Nat):Int),0,none⟩
 rw[qS (by omega) (by omega)];simp
theorem JO{k:Int}{a:Nat}:shS k (svS a)=svS a:=rfl
theorem DR{b k:Nat}{sg:UInt8}{body:Nat→List Vstep}{n:Nat}(hb:b+ (n+sgL sg)+k≤1000000)(h:∀b',b≤b'→b'+n≤b+n+sgL sg→(body b').map (shS k)=body (b'+k)):(i6 b sg body n).map (shS k)=i6 (b+k) sg body n:=by
 unfold i6 sgL at *
 cases h1:sg==42
 ·rw[h1,cond_false] at hb h
  cases h2:sg==43
  ·rw[h2,cond_false] at hb h
   cases h3:sg==63
   ·rw[h3,cond_false] at hb h
    simp only[cond_false]
    exact h b (Nat.le_refl _) (by omega)
   ·rw[h3,cond_true] at hb h
    simp only[cond_false,cond_true,List.map_cons]
    rw[BN (by omega) (by omega),h (b+1) (by omega) (by omega),show b+1+k=b+k+1 by omega,show b+n+1+k=b+k+n+1 by omega]
  ·rw[h2,cond_true] at hb h
   simp only[cond_false,cond_true,List.map_append,List.map_cons,List.map_nil]
   rw[BN (by omega) (by omega),h b (Nat.le_refl _) (by omega),show b+n+1+k=b+k+n+1 by omega]
 ·rw[h1,cond_true] at hb h
  simp only[cond_true,List.map_append,List.map_cons,List.map_nil]
  rw[BN (by omega) (by omega),J2 (by omega),h (b+1) (by omega) (by omega),show b+1+k=b+k+1 by omega,show b+n+2+k=b+k+n+2 by omega]
theorem Nd.code_sh:∀ (x:Nd) (b k:Nat),b+x.len+k≤1000000→(x.code b).map (shS k)=x.code (b+k)
 |.set S sg,b,k,hb=>DR hb fun _ _ _=>rfl
 |.grp n M sg,b,k,hb=>by
  unfold Nd.len at hb
  refine DR (by omega) fun b' h1 h2=> ?_
  simp only[List.map_cons,List.map_append,List.map_nil,JO]
  rw[M.code_sh (b'+1) k (by omega),show b'+1+k=b'+k+1 by omega]
 |.nil,b,k,hb=>rfl
 |.cons p r,b,k,hb=>by
  unfold Nd.len at hb
  unfold Nd.code
  rw[List.map_append,p.code_sh b k (by omega),r.code_sh _ k (by omega),show b+p.len+k=b+k+p.len by omega]
 |.alt r M,b,k,hb=>by
  unfold Nd.len at hb
  unfold Nd.code
  rw[List.map_cons,List.map_append,List.map_cons,BN (by omega) (by omega),J2 (by omega),r.code_sh _ k (by omega),M.code_sh _ k (by omega),show b+1+k=b+k+1 by omega,show b+r.len+2+k=b+k+r.len+2 by omega,show b+r.len+2+M.len+k=b+k+r.len+2+M.len by omega]
def dN(m:List UInt8)(i:Nat):UInt8:=bif bM m 42 i then 42 else bif bM m 43 i then 43 else bif bM m 63 i then 63 else 0
def prs(m:List UInt8):Nat→Nat→Nat→Nat→Except (Int × Int) (Nd × Nat × Nat)
 |0,_,_,_=>.error (0,0)
 |f+1,0,i,g=>match prs m f 1 i g with
  |.error q=>.error q
  |.ok (r,j,g1)=>bif bM m 124 j then match prs m f 0 (j+1) g1 with
    |.error q=>.error q
    |.ok (M,k,g2)=>.ok (.alt r M,k,g2)
   else .ok (r,j,g1)
 |f+1,1,i,g=>match m[i]? with
  |none=>.ok (.nil,i,g)
  |some c=>bif (b2i c)==(b2i 124) then .ok (.nil,i,g) else bif (b2i c)==(b2i 41) then .ok (.nil,i,g) else match prs m f 2 i g with
   |.error q=>.error q
   |.ok (p,j,g1)=>match prs m f 1 j g1 with
    |.error q=>.error q
    |.ok (r,k,g2)=>.ok (.cons p r,k,g2)
 |f+1,_+2,i,g=>bif bM m 40 i then
   bif g==9 then .error (2,(i:Int)) else match prs m f 0 (i+1) (g+1) with
   |.error q=>.error q
   |.ok (M,j,g1)=>bif bM m 41 j then
     bif dN m (j+1)==0 then .ok (.grp (g+1) M 0,j+1,g1)
     else bif M.null && !(dN m (j+1)==63) then .error (4,((j+1:Nat):Int)) else .ok (.grp (g+1) M (dN m (j+1)),j+2,g1)
    else .error (1,(j:Int))
  else match nE m i with
   |.error q=>.error q
   |.ok (S,j)=>bif dN m j==0 then .ok (.set S 0,j,g) else .ok (.set S (dN m j),j+1,g)
set_option maxRecDepth 1000000
theorem KV(m:List UInt8)(at_ g:Int)(l L:List Vstep)(h:l.length+L.length≤1000000):ca 3000 (l.length:Int) m at_ g (l++L).length (l++L)=some (.ok (L,m,at_,g,l.length,l)):=by
 have hl:(l++L).length=l.length+L.length:=List.length_append
 unfold ca
 have e1:Bo (l++L).length (l.length:Int) ((l++L).length:Int)=some (l.length,(l++L).length):=by
  unfold Bo
  rw[if_pos (by omega)];simp only[Int.toNat_natCast]
 rw[e1,Option.bind_some]
 dsimp only
 unfold bx
 have e2:Cv l.length ((l++L).length - l.length) (l++L)=some L:=by
  unfold Cv
  rw[if_pos (by omega),List.drop_left,List.take_of_length_le (by omega)]
 have e3:g9 32 ([] :List Vstep) L=some L:=by
  unfold g9
  rw[if_pos (by simp only[List.length_nil];omega)];rfl
 have e4:Ex (l++L).length (l++L) (l.length:Int)=some l:=by
  unfold Ex
  rw[if_pos (by omega)];simp
 rw[e2,Option.bind_some,e3,Option.bind_some,Option.bind_some]
 dsimp only
 rw[e4,Option.bind_some]
theorem DQ(by_:Int)(L:List Vstep)(m:List UInt8)(at_ g:Int)(hL:L.length≤100000):∀ (d i n:Nat) (l:List Vstep),i+d=L.length→d+1≤n→l.length+d≤1000000→ba 3000 n by_ L (L.length:Int) (i:Int) m at_ g l.length l=some (.ok (m,at_,g,(l++ (L.drop i).map (shS by_)).length,l++ (L.drop i).map (shS by_)))
 |d,i,0,l,h1,h2,h3=>by omega
 |0,i,n+1,l,h1,h2,h3=>by
  rw[ba,decide_eq_false (by omega),cond_false,List.drop_eq_nil_of_le (by omega)]
  simp
 |d+1,i,n+1,l,h1,h2,h3=>by
  have hi:i < L.length:=by omega
  rw[ba,decide_eq_true (by omega),cond_true,ixn,List.getElem?_eq_getElem hi,Option.bind_some]
  have key:∀s,s=shS by_ L[i] →bP 3000 (ba 3000 n) n by_ L (L.length:Int) (i:Int) s m at_ g l.length l=some (.ok (m,at_,g,(l++ (L.drop i).map (shS by_)).length,l++ (L.drop i).map (shS by_))):=by
   rintro s rfl
   unfold bP
   rw[jm _ _ _ _ _ _ (by omega),Option.bind_some]
   dsimp only
   rw[i5 (by omega),DQ by_ L m at_ g hL d (i+1) n _ (by omega) (by omega) (by simp only[List.length_append,List.length_singleton];omega),List.drop_eq_getElem_cons hi,List.map_cons]
   simp only[List.append_assoc,List.singleton_append]
  cases h1':L[i].kind==1 with
  |true=>
   rw[cond_true]
   exact key _ (by unfold shS;rw[h1',cond_true])
  |false=>
   rw[cond_false]
   cases h2':L[i].kind==2 with
   |true=>
    rw[cond_true]
    exact key _ (by unfold shS;rw[h1',cond_false,h2',cond_true])
   |false=>
    rw[cond_false]
    exact key _ (by unfold shS;rw[h1',cond_false,h2',cond_false])
theorem Jx(L:List Vstep)(m:List UInt8)(at_ g:Int)(l:List Vstep)(k was:Nat)(hk:was+k=l.length)(h:l.length+L.length≤2000):bi 3000 L (was:Int) m at_ g l.length l=some (.ok (m,at_,g,(l++L.map (shS k)).length,l++L.map (shS k))):=by
 unfold bi
 have e:w64 ((l.length:Int) - (was:Int))=(k:Int):=by rw[qS (by omega) (by omega)];omega
 rw[e]
 have:=DQ k L m at_ g (by omega) L.length 0 3000 l (by omega) (by omega) (by omega)
 rw[List.drop_zero] at this
 exact this
theorem AR(L:List Vstep)(m:List UInt8)(at_ g:Int)(l:List Vstep)(k was n1:Nat)(h1:n1=l.length)(hk:was+k=l.length)(h:l.length+L.length≤2000):bi 3000 L (was:Int) m at_ g n1 l=some (.ok (m,at_,g,(l++L.map (shS k)).length,l++L.map (shS k))):=by
 subst h1
 exact Jx L m at_ g l k was hk h
theorem lH(l r:List Vstep)(x:Vstep):(l++x::r)[l.length]? =some x:=by
 rw[List.getElem?_append_right (Nat.le_refl _),Nat.sub_self];rfl
theorem lF(l r:List Vstep)(x y:Vstep):(l++x::r).set l.length y=l++y::r:=by
 rw[List.set_append_right _ _ (Nat.le_refl _),Nat.sub_self];rfl
theorem jH{a n:Nat}(h:a < n):dg n (a:Int)=some a:=by
 unfold dg
 rw[if_pos (by omega)];simp
theorem OT{NR:RecC}(hN:NR.n=3000)(m:List UInt8){j:Nat}(hj:j≤100000)(g:Int)(l:List Vstep)(n0:Nat){sg:UInt8}(hsg:sg=42∨sg=43∨sg=63)(body:Nat→List Vstep){n:Nat}(hn:∀b,(body b).length=n)(hs:∀k,k≤1→(body l.length).map (shS ((k:Nat):Int))=body (l.length+k))(hl:l.length+n≤1000):
  bg NR n0 (l.length:Int) sg m (j:Int) g (l++body l.length).length (l++body l.length)=some (.ok (sgN sg,m,((j+1:Nat):Int),g,(l++i6 l.length sg body n).length,l++i6 l.length sg body n)):=by
 unfold bg
 rw[hN,KV _ _ _ _ _ (by rw[hn];omega),Option.bind_some,i5 (by omega)]
 dsimp only
 rcases hsg with rfl|rfl|rfl
 ·rw[show(b2i 42==b2i 42)=true from rfl,cond_true,jm _ _ _ _ _ _ (by omega),Option.bind_some]
  dsimp only
  rw[jH (by simp),Option.bind_some,lH,Option.bind_some,lF]
  rw[AR _ _ _ _ _ 1 l.length _ (by simp) (by simp) (by simp only[List.length_append,List.length_singleton,hn];omega),Option.bind_some]
  dsimp only
  rw[hs 1 (Nat.le_refl _),jm _ _ _ _ _ _ (by simp[hn];omega),Option.bind_some]
  dsimp only
  rw[jH (by simp<;> omega),Option.bind_some]
  have e3:∀ (x y:Vstep) (L:List Vstep),l++ [x] ++L++ [y] =l++x::(L++ [y]):=fun x y L=>by simp
  rw[e3,lH,Option.bind_some,lF]
  have e4:∀ (x y:Vstep) (L:List Vstep),(l++x::(L++ [y])).length=l.length+L.length+2:=fun x y L=>by simp;omega
  have hw:i6 l.length 42 body n=fkS (l.length+1) (l.length+n+2)::(body (l.length+1)++ [jpS l.length]):=rfl
  rw[hw]
  simp only[e4,hn]
  simp[fkS,jpS,sgN]
 ·rw[show(b2i 43==b2i 42)=false from rfl,cond_false,show(b2i 43==b2i 43)=true from rfl,cond_true,Jx _ _ _ _ _ 0 l.length rfl (by rw[hn];omega),Option.bind_some]
  dsimp only
  rw[hs 0 (by omega),Nat.add_zero,jm _ _ _ _ _ _ (by simp[hn];omega),Option.bind_some]
  dsimp only
  rw[jH (by simp),Option.bind_some,lH,Option.bind_some,lF]
  have hw:i6 l.length 43 body n=body l.length++ [fkS l.length (l.length+n+1)] :=rfl
  rw[hw]
  simp[fkS,sgN,hn]
  omega
 ·rw[show(b2i 63==b2i 42)=false from rfl,cond_false,show(b2i 63==b2i 43)=false from rfl,cond_false,jm _ _ _ _ _ _ (by omega),Option.bind_some]
  dsimp only
  rw[jH (by simp),Option.bind_some,lH,Option.bind_some,lF]
  rw[AR _ _ _ _ _ 1 l.length _ (by simp) (by simp) (by simp only[List.length_append,List.length_singleton,hn];omega),Option.bind_some]
  dsimp only
  rw[hs 1 (Nat.le_refl _),jH (by simp<;> omega),Option.bind_some]
  have e3:∀ (x:Vstep) (L:List Vstep),l++ [x] ++L=l++x::L:=fun x L=>by simp
  rw[e3,lH,Option.bind_some,lF]
  have e4:∀ (x:Vstep) (L:List Vstep),(l++x::L).length=l.length+L.length+1:=fun x L=>by simp;omega
  have hw:i6 l.length 63 body n=fkS (l.length+1) (l.length+n+1)::body (l.length+1):=rfl
  rw[hw]
  simp only[e4,hn]
  simp[fkS,sgN]
theorem gS{m:List UInt8}:∀ (f mo i g:Nat) {x:Nd} {j g1:Nat},prs m f mo i g=.ok (x,j,g1)→i≤m.length→g≤9→i≤j∧j≤m.length∧x.len≤2 * (j - i)∧g≤g1∧g1≤9∧(2≤mo→i < j)
 |0,mo,i,g,x,j,g1,h,hi,hg=>by cases h
 |f+1,0,i,g,x,j,g1,h,hi,hg=>by
  rw[prs] at h
  split at h
  ·cases h
  ·rename_i r j0 g0 hr
   have h1:=gS f 1 i g hr hi hg
   cases hb:bM m 124 j0 with
   |false=>rw[hb,cond_false] at h;cases h;exact⟨h1.1,h1.2.1,h1.2.2.1,h1.2.2.2.1,h1.2.2.2.2.1,fun h=>by omega⟩
   |true=>
    rw[hb,cond_true] at h
    have hj:=dP hb
    split at h
    ·cases h
    ·rename_i M k g2 hM
     cases h
     have h2:=gS f 0 (j0+1) g0 hM (by omega) h1.2.2.2.2.1
     unfold Nd.len
     exact⟨by omega,by omega,by omega,by omega,by omega,fun h=>by omega⟩
 |f+1,1,i,g,x,j,g1,h,hi,hg=>by
  rw[prs] at h
  split at h
  ·cases h;exact⟨Nat.le_refl _,hi,Nat.zero_le _,Nat.le_refl _,hg,fun h=>by omega⟩
  ·rename_i c hc
   cases h1:(b2i c==b2i 124) with
   |true=>rw[h1,cond_true] at h;cases h;exact⟨Nat.le_refl _,hi,Nat.zero_le _,Nat.le_refl _,hg,fun h=>by omega⟩
   |false=>
    rw[h1,cond_false] at h
    cases h2:(b2i c==b2i 41) with
    |true=>rw[h2,cond_true] at h;cases h;exact⟨Nat.le_refl _,hi,Nat.zero_le _,Nat.le_refl _,hg,fun h=>by omega⟩
    |false=>
     rw[h2,cond_false] at h
     split at h
     ·cases h
     ·rename_i p j0 g0 hp
      have h3:=gS f 2 i g hp hi hg
      split at h
      ·cases h
      ·rename_i r k g2 hr
       cases h
       have h4:=gS f 1 j0 g0 hr h3.2.1 h3.2.2.2.2.1
       unfold Nd.len
       exact⟨by omega,by omega,by omega,by omega,by omega,fun h=>by omega⟩
 |f+1,mo+2,i,g,x,j,g1,h,hi,hg=>by
  rw[prs] at h
  have sl:∀k,dN m k≠0→k < m.length∧sgL (dN m k)≤2:=fun k hk=>by
   unfold dN at hk ⊢
   cases h1:bM m 42 k with
   |true=>exact⟨dP h1,show sgL 42≤2 from by decide⟩
   |false=>
    rw[h1,cond_false] at hk
    cases h2:bM m 43 k with
    |true=>exact⟨dP h2,show sgL 43≤2 from by decide⟩
    |false=>
     rw[h2,cond_false] at hk
     cases h3:bM m 63 k with
     |true=>exact⟨dP h3,show sgL 63≤2 from by decide⟩
     |false=>rw[h3] at hk;exact absurd rfl hk
  cases hb:bM m 40 i with
  |true=>
   rw[hb,cond_true] at h
   have hil:=dP hb
   cases h9:g==9 with
   |true=>rw[h9,cond_true] at h;cases h
   |false=>
    have hg9:g≠9:=beq_eq_false_iff_ne.1 h9
    rw[h9,cond_false] at h
    split at h
    ·cases h
    ·rename_i M j0 g0 hM
     have h1:=gS f 0 (i+1) (g+1) hM (by omega) (by omega)
     cases h41:bM m 41 j0 with
     |false=>rw[h41,cond_false] at h;cases h
     |true=>
      have hj0:=dP h41
      rw[h41,cond_true] at h
      cases hs:(dN m (j0+1)==0) with
      |true=>
       rw[hs,cond_true] at h;cases h
       have e:(Nd.grp (g+1) M 0).len=M.len+2:=rfl
       exact⟨by omega,by omega,by omega,by omega,by omega,fun _=>by omega⟩
      |false=>
       rw[hs,cond_false] at h
       obtain⟨s1,s2⟩:=sl _ (beq_eq_false_iff_ne.1 hs)
       cases hz:(M.null && !(dN m (j0+1)==63)) with
       |true=>rw[hz,cond_true] at h;cases h
       |false=>
       rw[hz,cond_false] at h
       cases h
       have e:(Nd.grp (g+1) M (dN m (j0+1))).len=M.len+2+sgL (dN m (j0+1)):=rfl
       exact⟨by omega,by omega,by omega,by omega,by omega,fun _=>by omega⟩
  |false=>
   rw[hb,cond_false] at h
   split at h
   ·cases h
   ·rename_i S j0 hS
    have h1:=Cx hS
    cases hs:(dN m j0==0) with
    |true=>
     rw[hs,cond_true] at h;cases h
     have e:(Nd.set S 0).len=1:=rfl
     exact⟨by omega,by omega,by omega,by omega,by omega,fun _=>by omega⟩
    |false=>
     rw[hs,cond_false] at h
     obtain⟨s1,s2⟩:=sl _ (beq_eq_false_iff_ne.1 hs)
     cases h
     have e:(Nd.set S (dN m j0)).len=1+sgL (dN m j0):=rfl
     exact⟨by omega,by omega,by omega,by omega,by omega,fun _=>by omega⟩
def nW(e:Bool)(m:List UInt8)(l:List Vstep):Except (Int × Int) (Nd × Nat × Nat)→Option (PR (Bool × (List UInt8) × Int × Int × Nat × (List Vstep)))
 |.error q=>some (.pan (flt q))
 |.ok (x,j,g)=>some (.ok (e && x.null,m,(j:Int),(g:Int),(l++x.code l.length).length,l++x.code l.length))
theorem Gn{b c:UInt8}(h:(b2i b==b2i c)=true):b=c:=by
 have:b2i b=b2i c:=beq_iff_eq.1 h
 rw[jO,jO] at this
 exact UInt8.toNat_inj.1 (by omega)
theorem FU{NR:RecC}(hN:NR.n=3000)(m:List UInt8){j:Nat}(hj:j≤100000)(g:Int)(l:List Vstep)(x4 e0:Bool)(body:Nat→List Vstep){n:Nat}(hn:∀b,(body b).length=n)(hs:∀k,k≤1→(body l.length).map (shS ((k:Nat):Int))=body (l.length+k))(hl:l.length+n≤1000):
  ((aK NR.n m (j:Int) g (l++body l.length).length (l++body l.length)).bind fun z4=>
  match z4 with
  |.pan vz4=>some (.pan vz4)
  |.ok z5=>
   bif !z5.2.1 then
    some (.ok (e0,z5.2.2.1,z5.2.2.2.1,z5.2.2.2.2.1,z5.2.2.2.2.2.1,z5.2.2.2.2.2.2))
   else
    bif (b2i z5.1) != (b2i 42) then
     bif (b2i z5.1) != (b2i 43) then
      bif (b2i z5.1) != (b2i 63) then
       some (.ok (e0,z5.2.2.1,z5.2.2.2.1,z5.2.2.2.2.1,z5.2.2.2.2.2.1,z5.2.2.2.2.2.2))
      else
       a7 NR NR.n (l.length:Int) x4 e0 z5.1 z5.2.2.1 z5.2.2.2.1 z5.2.2.2.2.1 z5.2.2.2.2.2.1 z5.2.2.2.2.2.2
     else
      a7 NR NR.n (l.length:Int) x4 e0 z5.1 z5.2.2.1 z5.2.2.2.1 z5.2.2.2.2.1 z5.2.2.2.2.2.1 z5.2.2.2.2.2.2
    else
     a7 NR NR.n (l.length:Int) x4 e0 z5.1 z5.2.2.1 z5.2.2.2.1 z5.2.2.2.2.1 z5.2.2.2.2.2.1 z5.2.2.2.2.2.2:Option (PR az))=
  bif dN m j==0 then some (.ok (e0,m,(j:Int),g,(l++body l.length).length,l++body l.length))
  else bif (e0 && x4) && !(dN m j==63) then some (.pan (flt (4,(j:Int))))
  else some (.ok (sgN (dN m j),m,((j+1:Nat):Int),g,(l++i6 l.length (dN m j) body n).length,l++i6 l.length (dN m j) body n)):=by
 have h7:∀b,(b=42∨b=43∨b=63)→a7 NR NR.n (l.length:Int) x4 e0 b m (j:Int) g (l++body l.length).length (l++body l.length)=bif (e0 && x4) && !(b==63) then some (.pan (flt (4,(j:Int)))) else some (.ok (sgN b,m,((j+1:Nat):Int),g,(l++i6 l.length b body n).length,l++i6 l.length b body n)):=by
  intro b hb
  have h9:=OT hN m hj g l NR.n hb body hn hs hl
  unfold a7
  cases e0 with
  |false=>rw[cond_false,h9];rfl
  |true=>
   cases x4 with
   |false=>rw[cond_true,cond_false,h9];rfl
   |true=>
    rw[cond_true,cond_true]
    rcases hb with rfl|rfl|rfl
    ·rfl
    ·rfl
    ·rw[show(b2i 63 != b2i 63)=false from rfl,cond_false,h9];rfl
 cases hc:m[j]? with
 |none=>
  have hz:dN m j=0:=by unfold dN bM;rw[hc];rfl
  rw[pe _ hc,Option.bind_some,hz]
  rfl
 |some b=>
  rw[rI _ hc,Option.bind_some]
  dsimp only
  rw[Bool.not_true,cond_false]
  have hz:dN m j=bif b2i b==b2i 42 then 42 else bif b2i b==b2i 43 then 43 else bif b2i b==b2i 63 then 63 else 0:=by unfold dN bM;rw[hc]
  rw[hz,bne,bne,bne]
  cases h1:(b2i b==b2i 42) with
  |true=>
   have:=Gn h1
   subst this
   rw[Bool.not_true,cond_false,h7 _ (.inl rfl)]
   rfl
  |false=>
   rw[Bool.not_false,cond_true,cond_false]
   cases h2:(b2i b==b2i 43) with
   |true=>
    have:=Gn h2
    subst this
    rw[Bool.not_true,cond_false,h7 _ (.inr (.inl rfl))]
    rfl
   |false=>
    rw[Bool.not_false,cond_true,cond_false]
    cases h3:(b2i b==b2i 63) with
    |true=>
     have:=Gn h3
     subst this
     rw[Bool.not_true,cond_false,h7 _ (.inr (.inr rfl))]
     rfl
    |false=>rfl
def vl(n:Nat)(M:Nd)(b:Nat):List Vstep:=svS (2 * n)::(M.code (b+1)++ [svS (2 * n+1)])
theorem Mv(n:Nat)(M:Nd)(b:Nat):(vl n M b).length=M.len+2:=by
 unfold vl
 rw[List.length_cons,List.length_append,M.code_len];rfl
def Kr(m:List UInt8)(n:Nat)(l:List Vstep):Except (Int × Int) (Nd × Nat × Nat)→Option (PR am)
 |.error q=>some (.pan (flt q))
 |.ok (M,j,g1)=>bif bM m 41 j then some (.ok (M.null,m,((j+1:Nat):Int),(g1:Int),(l++vl n M l.length).length,l++vl n M l.length)) else some (.pan (flt (1,(j:Int))))
theorem PD{m:List UInt8}{i:Nat}(hb:bM m 40 i=true):m[i]? =some 40:=by
 unfold bM at hb
 split at hb
 ·rename_i b hbb
  rw[Gn hb] at hbb;exact hbb
 ·cases hb
theorem Ev{NR:RecC}{m:List UInt8}{i:Nat}(hb:bM m 40 i=true)(n:Nat)(l:List Vstep):bz NR m (i:Int) 9 n l=some (.pan (flt (2,(i:Int)))):=by
 unfold bz
 rw[ixn,PD hb,Option.bind_some,show(b2i 40==b2i 46)=false from rfl,cond_false,show(b2i 40==b2i 92)=false from rfl,cond_false,show(b2i 40==b2i 91)=false from rfl,cond_false,show(b2i 40==b2i 40)=true from rfl,cond_true]
 rfl
theorem Jw{NR:RecC}(hN:NR.n=3000){m:List UInt8}(hm:m.length≤60){i:Nat}(hb:bM m 40 i=true){g:Nat}(hg:g≤8)(l:List Vstep)(hl:l.length+2 * (m.length - i)≤400){R:Except (Int × Int) (Nd × Nat × Nat)}(hR:∀ (M:Nd) j g1,R=.ok (M,j,g1)→j≤m.length∧M.len≤2 * (m.length - (i+1)))
  (hk:∀l2:List Vstep,l2.length=l.length+1→NR.k m ((i+1:Nat):Int) ((g+1:Nat):Int) l2.length l2=nW true m l2 R):
  bz NR m (i:Int) (g:Int) l.length l=Kr m (g+1) l R:=by
 have hil:=dP hb
 have hc:=PD hb
 unfold bz
 rw[ixn,hc,Option.bind_some,show(b2i 40==b2i 46)=false from rfl,cond_false,show(b2i 40==b2i 92)=false from rfl,cond_false,show(b2i 40==b2i 91)=false from rfl,cond_false,show(b2i 40==b2i 40)=true from rfl,cond_true]
 ·have h9':((g:Int)==9)=false:=beq_eq_false_iff_ne.2 (by omega)
  rw[h9',cond_false]
  unfold cE
  have e1:w64 ((g:Int)+1)=((g+1:Nat):Int):=i5 (by omega)
  have e2:w64 (2 * ((g+1:Nat):Int))=((2 * (g+1):Nat):Int):=by rw[qS (by omega) (by omega)];omega
  have e3:w64 (((2 * (g+1):Nat):Int)+1)=((2 * (g+1)+1:Nat):Int):=i5 (by omega)
  rw[e1,e2,e3,i5 (by omega),jm _ _ _ _ _ _ (by omega),Option.bind_some]
  dsimp only
  show((NR.k m ((i+1:Nat):Int) ((g+1:Nat):Int) (l++ [svS (2 * (g+1))]).length (l++ [svS (2 * (g+1))])).bind _)=_
  rw[hk _ (by simp)]
  cases R with
  |error q=>rfl
  |ok p=>
   obtain⟨M,j,g1⟩:=p
   obtain⟨hj,hM⟩:=hR M j g1 rfl
   unfold nW
   rw[Option.bind_some]
   dsimp only
   rw[jm _ _ _ _ _ _ (by rw[List.length_append,Nd.code_len];simp;omega),Option.bind_some]
   dsimp only
   rw[sS _ _ _ (by omega),Option.bind_some]
   dsimp only
   unfold Kr
   cases h41:bM m 41 j with
   |false=>simp only[h41];rfl
   |true=>
    simp only[h41,Bool.not_true,cond_false,cond_true]
    have e4:l++ [svS (2 * (g+1))] ++M.code (l++ [svS (2 * (g+1))]).length++ [(⟨3,((2 * (g+1)+1:Nat):Int),0,none⟩:Vstep)] =l++vl (g+1) M l.length:=by
     simp[vl,svS]
    rw[e4]
    rfl
theorem gH(m:List UInt8)(l:List Vstep)(x:Nd)(j g:Nat):nW true m l (.ok (x,j,g))=some (.ok (x.null,m,(j:Int),(g:Int),(l++x.code l.length).length,l++x.code l.length)):=by
 unfold nW
 dsimp only
 rw[Bool.true_and]
def RO(e:Bool)(m:List UInt8)(l:List Vstep)(r:Nd):Except (Int × Int) (Nd × Nat × Nat)→Option (PR (Bool × (List UInt8) × Int × Int × Nat × (List Vstep)))
 |.error q=>some (.pan (flt q))
 |.ok (M,k,g2)=>some (.ok (e || M.null,m,(k:Int),(g2:Int),(l++ (Nd.alt r M).code l.length).length,l++ (Nd.alt r M).code l.length))
theorem Qm{NR:RecC}(hN:NR.n=3000){m:List UInt8}(hm:m.length≤60){j:Nat}(hb:bM m 124 j=true)(g1:Nat)(l:List Vstep)(r:Nd)(e:Bool)(n:Nat)(hl:l.length+r.len+2 * (m.length - j)≤400){R:Except (Int × Int) (Nd × Nat × Nat)}
  (hk:∀l2:List Vstep,l2.length=l.length+r.len+2→NR.k m ((j+1:Nat):Int) (g1:Int) l2.length l2=nW true m l2 R):
  bd NR (n+1) (l.length:Int) e m (j:Int) (g1:Int) (l++r.code l.length).length (l++r.code l.length)=RO e m l r R:=by
 have hj:=dP hb
 rw[bd,sS _ _ _ (by omega),Option.bind_some]
 dsimp only
 rw[hb,cond_true,hN]
 show((ca 3000 (l.length:Int) m ((j+1:Nat):Int) (g1:Int) _ _).bind _)=_
 rw[KV _ _ _ _ _ (by rw[r.code_len];omega),Option.bind_some]
 dsimp only
 rw[jm _ _ _ _ _ _ (by omega),Option.bind_some]
 dsimp only
 rw[jH (by simp),Option.bind_some,lH,Option.bind_some,lF]
 dsimp only
 have hsh:(r.code l.length).map (shS ((1:Nat):Int))=r.code (l.length+1):=r.code_sh _ 1 (by omega)
 rw[AR _ _ _ _ _ 1 l.length _ (by simp) (by simp) (by simp only[List.length_append,List.length_singleton,r.code_len];omega),Option.bind_some,hsh]
 dsimp only
 rw[jm _ _ _ _ _ _ (by simp[Nd.code_len];omega),Option.bind_some]
 dsimp only
 rw[jH (by simp<;> omega),Option.bind_some]
 have e3:∀ (x y:Vstep) (L:List Vstep),l++ [x] ++L++ [y] =l++x::(L++ [y]):=fun x y L=>by simp
 have e4:∀ (x y:Vstep) (L:List Vstep),(l++x::(L++ [y])).length=l.length+L.length+2:=fun x y L=>by simp;omega
 rw[e3,lH,Option.bind_some,lF]
 dsimp only
 unfold dl
 have e5:∀ (x:Vstep) (L:List Vstep),((l++ [x] ++L).length:Int)=((l.length+1+L.length:Nat):Int):=fun x L=>by simp;omega
 rw[e5,r.code_len]
 have kk:∀ (n1:Nat) (l2:List Vstep),n1=l2.length→l2.length=l.length+r.len+2→dC NR m ((j+1:Nat):Int) (g1:Int) n1 l2=nW true m l2 R:=fun n1 l2 h1 h2=>by
  subst h1
  exact hk l2 h2
 rw[kk _ _ (by rw[e4,e4]) (by rw[e4,r.code_len])]
 generalize hl2:l++ (⟨1,_,_,none⟩:Vstep)::(r.code (l.length+1)++ [(⟨2,0,0,none⟩:Vstep)])=l2
 have hlen2:l2.length=l.length+r.len+2:=by rw[← hl2,e4,r.code_len]
 cases R with
 |error q=>rfl
 |ok p=>
  obtain⟨M,k,g2⟩:=p
  rw[gH,Option.bind_some]
  dsimp only
  rw[Option.bind_some]
  dsimp only
  have hr12:∀x4,ci NR (bd NR n) n x4 ((l.length+1+r.len:Nat):Int) m (k:Int) (g2:Int) (l2++M.code l2.length).length (l2++M.code l2.length)=some (.ok (x4,m,(k:Int),(g2:Int),(l++ (Nd.alt r M).code l.length).length,l++ (Nd.alt r M).code l.length)):=by
   intro x4
   unfold ci
   have e6:l2++M.code l2.length=(l++fkS (l.length+1) (l.length+r.len+2)::r.code (l.length+1))++ (⟨2,0,0,none⟩:Vstep)::M.code (l.length+r.len+2):=by
    rw[hlen2,← hl2]
    simp[fkS,r.code_len]
    omega
   have e7:(l++fkS (l.length+1) (l.length+r.len+2)::r.code (l.length+1)).length=l.length+1+r.len:=by
    simp[r.code_len];omega
   rw[e6,← e7,jH (by simp<;> omega),Option.bind_some,lH,Option.bind_some,lF]
   dsimp only
   have e8:(l++fkS (l.length+1) (l.length+r.len+2)::r.code (l.length+1))++ (⟨2,(((l++fkS (l.length+1) (l.length+r.len+2)::r.code (l.length+1))++ (⟨2,0,0,none⟩:Vstep)::M.code (l.length+r.len+2)).length:Int),0,none⟩:Vstep)::M.code (l.length+r.len+2)=l++ (Nd.alt r M).code l.length:=by
    simp[Nd.code,jpS,Nd.code_len]
    omega
   rw[e8]
   simp[Nd.code,Nd.code_len]
  unfold RO
  dsimp only
  cases M.null with
  |true=>rw[cond_true,hr12,Bool.or_true]
  |false=>rw[cond_false,hr12,Bool.or_false]
theorem O8(m:List UInt8)(f i g:Nat):prs m (f+1) 0 i g=match prs m f 1 i g with
  |.error q=>.error q
  |.ok (r,j,g1)=>bif bM m 124 j then match prs m f 0 (j+1) g1 with
    |.error q=>.error q
    |.ok (M,k,g2)=>.ok (.alt r M,k,g2)
   else .ok (r,j,g1):=rfl
theorem Pb(m:List UInt8)(f i g:Nat):prs m (f+1) 1 i g=match m[i]? with
  |none=>.ok (.nil,i,g)
  |some c=>bif (b2i c)==(b2i 124) then .ok (.nil,i,g) else bif (b2i c)==(b2i 41) then .ok (.nil,i,g) else match prs m f 2 i g with
   |.error q=>.error q
   |.ok (p,j,g1)=>match prs m f 1 j g1 with
    |.error q=>.error q
    |.ok (r,k,g2)=>.ok (.cons p r,k,g2):=rfl
theorem P6 (m : List UInt8) (f i g : Nat) : prs m (f + 1) 2 i g = bif bM m 40 i then
   bif g==9 then .error (2,(i:Int)) else match prs m f 0 (i+1) (g+1) with
   |.error q=>.error q
   |.ok (M,j,g1)=>bif bM m 41 j then
     bif dN m (j+1)==0 then .ok (.grp (g+1) M 0,j+1,g1)
     else bif M.null && !(dN m (j+1)==63) then .error (4,((j+1:Nat):Int)) else .ok (.grp (g+1) M (dN m (j+1)),j+2,g1)
    else .error (1,(j:Int))
  else match nE m i with
   |.error q=>.error q
   |.ok (S,j)=>bif dN m j==0 then .ok (.set S 0,j,g) else .ok (.set S (dN m j),j+1,g):=rfl
theorem G5(k:Nat)(m:List UInt8)(at_ g:Int)(n:Nat)(l:List Vstep):bh 3000 (k+1) m at_ g n l=cP ⟨3000,bh 3000 k⟩ m at_ g n l:=rfl
theorem Ek{m:List UInt8}(hm:m.length≤60):∀ (f:Nat),
  (∀ (k i g:Nat) (l:List Vstep),i≤m.length→3 * (m.length - i)+3≤f→m.length - i+1≤k→g≤9→l.length+2 * (m.length - i)≤400→bh 3000 k m (i:Int) (g:Int) l.length l=nW true m l (prs m f 0 i g))∧
  (∀ (k i g:Nat) (l:List Vstep) (e:Bool) (n:Nat),i≤m.length→3 * (m.length - i)+2≤f→m.length - i≤k→g≤9→l.length+2 * (m.length - i)≤400→m.length - i+1≤n→bq ⟨3000,bh 3000 k⟩ n e m (i:Int) (g:Int) l.length l=nW e m l (prs m f 1 i g))∧
  (∀ (k i g:Nat) (l:List Vstep),i < m.length→3 * (m.length - i)+1≤f→m.length - i≤k→g≤9→l.length+2 * (m.length - i)≤400→cH ⟨3000,bh 3000 k⟩ m (i:Int) (g:Int) l.length l=nW true m l (prs m f 2 i g))
 |0=>⟨fun k i g l h1 h2=>by omega,fun k i g l e n h1 h2=>by omega,fun k i g l h1 h2=>by omega⟩
 |f+1=>by
  obtain⟨ihM,ihR,ihP⟩:=Ek hm f
  refine⟨fun k i g l h1 h2 h3 h4 h5=> ?_,fun k i g l e n h1 h2 h3 h4 h5 h6=> ?_,fun k i g l h1 h2 h3 h4 h5=> ?_⟩
  ·obtain⟨k,rfl⟩:∃q,k=q+1:=⟨k - 1,by omega⟩
   rw[G5]
   unfold cP dw
   show((bq ⟨3000,bh 3000 k⟩ 3000 true m (i:Int) (g:Int) l.length l).bind _)=_
   rw[ihR k i g l true 3000 h1 (by omega) (by omega) h4 h5 (by omega),O8]
   cases hr:prs m f 1 i g with
   |error q=>rfl
   |ok p=>
    obtain⟨r,j,g1⟩:=p
    have hk:=gS f 1 i g hr h1 h4
    rw[gH,Option.bind_some]
    dsimp only
    show bd ⟨3000,bh 3000 k⟩ (2999+1) (l.length:Int) r.null m (j:Int) (g1:Int) _ _=_
    cases hb:bM m 124 j with
    |false=>
     rw[bd,sS _ _ _ (by omega),Option.bind_some]
     dsimp only
     rw[hb,cond_false,cond_false,gH]
     rfl
    |true=>
     have hj:=dP hb
     rw[cond_true,Qm (R:=prs m f 0 (j+1) g1) rfl hm hb g1 l r r.null 2999 (by omega) (fun l2 hl2=>ihM k (j+1) g1 l2 (by omega) (by omega) (by omega) (by omega) (by omega))]
     cases prs m f 0 (j+1) g1 with
     |error q=>rfl
     |ok p=>rfl
  ·obtain⟨n,rfl⟩:∃q,n=q+1:=⟨n - 1,by omega⟩
   rw[bq,Pb]
   cases hc:m[i]? with
   |none=>
    rw[pe _ hc,Option.bind_some]
    dsimp only
    rw[Bool.not_false,cond_true]
    unfold nW
    simp[Nd.null,Nd.code]
   |some c=>
    have hil:=(List.getElem?_eq_some_iff.1 hc).1
    rw[rI _ hc,Option.bind_some]
    dsimp only
    rw[Bool.not_true,cond_false]
    cases e1:(b2i c==b2i 124) with
    |true=>rw[cond_true,cond_true];unfold nW;simp[Nd.null,Nd.code]
    |false=>
     rw[cond_false,cond_false]
     cases e2:(b2i c==b2i 41) with
     |true=>rw[cond_true,cond_true];unfold nW;simp[Nd.null,Nd.code]
     |false=>
      rw[cond_false,cond_false,ihP k i g l hil (by omega) h3 h4 h5]
      cases hp:prs m f 2 i g with
      |error q=>rfl
      |ok p=>
       obtain⟨p,j,g1⟩:=p
       have hk:=gS f 2 i g hp h1 h4
       have hij:=hk.2.2.2.2.2 (by omega)
       rw[gH,Option.bind_some]
       dsimp only
       have go:∀e',bq ⟨3000,bh 3000 k⟩ n e' m (j:Int) (g1:Int) (l++p.code l.length).length (l++p.code l.length)=nW e' m (l++p.code l.length) (prs m f 1 j g1):=fun e'=>ihR k j g1 _ e' n (by omega) (by omega) (by omega) (by omega) (by rw[List.length_append,p.code_len];omega) (by omega)
       have fin:∀e',(e'=(e && p.null))→nW e' m (l++p.code l.length) (prs m f 1 j g1)=nW e m l (match prs m f 1 j g1 with
         |.error q=>.error q
         |.ok (r,k,g2)=>.ok (.cons p r,k,g2)):=by
        rintro e' rfl
        cases prs m f 1 j g1 with
        |error q=>rfl
        |ok q=>
         obtain⟨r,k2,g2⟩:=q
         unfold nW
         dsimp only
         simp only[Nd.null,Nd.code,List.length_append,p.code_len,Bool.and_assoc,List.append_assoc]
       cases hpn:p.null with
       |true=>
        rw[Bool.not_true,cond_false,go]
        exact fin e (by rw[hpn,Bool.and_true])
       |false=>
        rw[Bool.not_false,cond_true,go]
        exact fin false (by rw[hpn,Bool.and_false])
  ·rw[P6]
   unfold cH
   have hil:m[i]? =some m[i] :=List.getElem?_eq_getElem h1
   rw[ixn,hil,Option.bind_some]
   cases hb:bM m 40 i with
   |true=>
    have h40:(b2i m[i] ==b2i 40)=true:=by unfold bM at hb;rw[hil] at hb;exact hb
    rw[cond_true]
    by_cases hg9:g=9
    ·subst hg9
     rw[show(((9:Nat):Int))=9 from rfl,Ev hb]
     rfl
    ·rw[beq_eq_false_iff_ne.2 hg9,cond_false,Jw (R:=prs m f 0 (i+1) (g+1)) rfl hm hb (by omega) l h5 (fun M j g1 h=>by
      have:=gS f 0 (i+1) (g+1) h (by omega) (by omega)
      omega) (fun l2 hl2=>ihM k (i+1) (g+1) l2 (by omega) (by omega) (by omega) (by omega) (by omega))]
     cases hM:prs m f 0 (i+1) (g+1) with
     |error q=>rfl
     |ok p=>
      obtain⟨M,j,g1⟩:=p
      have hk:=gS f 0 (i+1) (g+1) hM (by omega) (by omega)
      unfold Kr
      dsimp only
      cases h41:bM m 41 j with
      |false=>rfl
      |true=>
       have hj:=dP h41
       rw[cond_true,cond_true,Option.bind_some]
       dsimp only
       have hgs:∀k,k≤1→(vl (g+1) M l.length).map (shS ((k:Nat):Int))=vl (g+1) M (l.length+k):=fun k hk=>by
        unfold vl
        simp only[List.map_cons,List.map_append,List.map_nil,JO]
        rw[M.code_sh (l.length+1) k (by omega),show l.length+1+k=l.length+k+1 by omega]
       have ht:=FU (NR:=⟨3000,bh 3000 k⟩) rfl m (j:=j+1) (by omega) (g1:Int) l (b2i m[i] ==b2i 40) M.null (vl (g+1) M) (n:=M.len+2) (Mv (g+1) M) hgs (by omega)
       refine Eq.trans ht ?_
       rw[h40,Bool.and_true]
       cases hs:(dN m (j+1)==0) with
       |true=>
        rw[cond_true,cond_true,gH]
        simp only[Nd.null,Nd.code,vl]
        rfl
       |false=>
        rw[cond_false,cond_false]
        cases hz:(M.null && !(dN m (j+1)==63)) with
        |true=>rw[cond_true,cond_true];rfl
        |false=>
         rw[cond_false,cond_false,gH]
         have hnull:(Nd.grp (g+1) M (dN m (j+1))).null=sgN (dN m (j+1)):=by
          unfold Nd.null
          cases hmn:M.null with
          |false=>rw[Bool.or_false]
          |true=>
           rw[hmn,Bool.true_and,Bool.not_eq_false'] at hz
           rw[beq_iff_eq.1 hz];rfl
         rw[hnull]
         rfl
   |false=>
    have h40:(b2i m[i] ==b2i 40)=false:=by unfold bM at hb;rw[hil] at hb;exact hb
    rw[cond_false,NE rfl hm hil h40 _ _ (by omega)]
    cases hS:nE m i with
    |error q=>rfl
    |ok p=>
     obtain⟨S,j⟩:=p
     have hS':=Cx hS
     unfold PO
     rw[Option.bind_some]
     dsimp only
     have ht:=FU (NR:=⟨3000,bh 3000 k⟩) rfl m (j:=j) (by omega) (g:Int) l (b2i m[i] ==b2i 40) false (fun _=>[tkS S]) (n:=1) (fun _=>rfl) (fun _ _=>rfl) (by omega)
     refine Eq.trans ht ?_
     rw[Bool.false_and,Bool.false_and]
     cases hs:(dN m j==0) with
     |true=>
      rw[cond_true,cond_true,gH]
      rfl
     |false=>
      rw[cond_false,cond_false,cond_false,gH]
      rfl
set_option maxRecDepth 1000000
def dnS:Vstep:=⟨4,0,0,none⟩
inductive StOk (n G p:Nat):Vstep→Prop
 |tk {S:List Bool} (h1:S.length=256) (h2:p+1 < n):StOk n G p (tkS S)
 |fk {a b:Nat} (h1:a < n) (h2:b < n):StOk n G p (fkS a b)
 |jp {a:Nat} (h1:a < n):StOk n G p (jpS a)
 |sv {a:Nat} (h1:a < 2 * G+2) (h2:p+1 < n):StOk n G p (svS a)
 |dn:StOk n G p dnS
inductive Eps (st:List Vstep):Nat→Nat→Prop
 |fka {p a b:Nat} (h:st[p]? =some (fkS a b)):Eps st p a
 |fkb {p a b:Nat} (h:st[p]? =some (fkS a b)):Eps st p b
 |jp {p a:Nat} (h:st[p]? =some (jpS a)):Eps st p a
 |sv {p a:Nat} (h:st[p]? =some (svS a)):Eps st p (p+1)
inductive Rch (st:List Vstep):Nat→Nat→Prop
 |refl (p:Nat):Rch st p p
 |step {p q r:Nat} (h:Eps st p q) (h':Rch st q r):Rch st p r
theorem Rch.trans{st:List Vstep}{p q r:Nat}(h:Rch st p q)(h':Rch st q r):Rch st p r:=by
 induction h with
 |refl=>exact h'
 |step h _ ih=>exact .step h (ih h')
def Oj(st:List Vstep)(p:Nat):Prop:=(∃S,st[p]? =some (tkS S))∨st[p]? =some dnS
def qIO(G len:Nat)(sl:List Int):Prop:=sl.length=2 * G+2∧∀v∈sl,-1≤v∧v≤(len:Int)
def inM(met:List (Int × Bool))(q:Nat):Bool:=(tE met (q:Int)).getD false
def cnt(n:Nat)(met:List (Int × Bool)):Nat:=((List.range n).filter fun q=> !inM met q).length
theorem P9(n:Nat)(met:List (Int × Bool)):cnt n met≤n:=by
 unfold cnt
 refine Nat.le_trans (List.length_filter_le _ _) (by simp)
structure AddP (st:List Vstep) (G len:Nat) (p:Nat) (met:List (Int × Bool)) (l2:List Vthread) (met2:List (Int × Bool)):Prop where
 mono:∀q,inM met q=true→inM met2 q=true
 self:inM met2 p=true
 clos:∀q,inM met2 q=true→inM met q=false→q < st.length∧(∀q',Eps st q q'→inM met2 q'=true)∧Rch st p q∧(Oj st q→∃t∈l2,t.at_=(q:Int))
 thr:∀t∈l2,∃q:Nat,t.at_=(q:Int)∧Oj st q∧Rch st p q∧qIO G len t.slots
 size:l2.length+cnt st.length met2≤cnt st.length met
theorem qIO.set{G len:Nat}{sl:List Int}(h:qIO G len sl)(a:Nat){v:Int}(h1: -1≤v)(h2:v≤(len:Int)):qIO G len (sl.set a v):=by
 refine⟨by simpa using h.1,fun x hx=> ?_⟩
 rcases List.mem_or_eq_of_mem_set hx with hx|rfl
 ·exact h.2 x hx
 ·exact⟨h1,h2⟩
theorem l5{st:List Vstep}{p q:Nat}{s:Vstep}(h:Eps st p q)(hs:st[p]? =some s):(∃a b,s=fkS a b∧(q=a∨q=b))∨(∃a,s=jpS a∧q=a)∨(∃a,s=svS a∧q=p+1):=by
 cases h with
 |fka h=>rw[hs] at h;cases h;exact .inl ⟨_,_,rfl,.inl rfl⟩
 |fkb h=>rw[hs] at h;cases h;exact .inl ⟨_,_,rfl,.inr rfl⟩
 |jp h=>rw[hs] at h;cases h;exact .inr (.inl ⟨_,rfl,rfl⟩)
 |sv h=>rw[hs] at h;cases h;exact .inr (.inr ⟨_,rfl,rfl⟩)
theorem Qf{a b a' b':Nat}(h:fkS a b=fkS a' b'):a=a'∧b=b':=by
 have h1:=congrArg Vstep.a h
 have h2:=congrArg Vstep.b h
 simp only[fkS] at h1 h2
 omega
theorem QJ{a a':Nat}(h:jpS a=jpS a'):a=a':=by
 have h1:=congrArg Vstep.a h
 simp only[jpS] at h1
 omega
set_option maxRecDepth 1000000
inductive Acc (st:List Vstep):Nat→List UInt8→Prop
 |dn {p:Nat} (h:st[p]? =some dnS):Acc st p []
 |tk {p:Nat} {S:List Bool} {b:UInt8} {s:List UInt8} (h:st[p]? =some (tkS S)) (hb:BT 256 (some S) (b2i b)=some true) (h':Acc st (p+1) s):Acc st p (b::s)
 |ep {p q:Nat} {s:List UInt8} (h:Eps st p q) (h':Acc st q s):Acc st p s
def Sta(st:List Vstep)(T:List Vthread)(c:UInt8)(j p:Nat):Prop:=∃j' t,j' < j∧T[j']? =some t∧∃ (q:Nat) (S:List Bool),t.at_=(q:Int)∧st[q]? =some (tkS S)∧BT 256 (some S) (b2i c)=some true∧p=q+1
structure RI (st:List Vstep) (G len:Nat) (T:List Vthread) (c:UInt8) (j:Nat) (next:List Vthread) (met:List (Int × Bool)):Prop where
 r1:∀q,inM met q=true→q < st.length∧(∀q',Eps st q q'→inM met q'=true)∧(Oj st q→∃t∈next,t.at_=(q:Int))∧∃p,Sta st T c j p∧Rch st p q
 r2:∀p,Sta st T c j p→inM met p=true
 r3:∀t∈next,∃q:Nat,t.at_=(q:Int)∧Oj st q∧inM met q=true∧qIO G len t.slots
 r4:next.length+cnt st.length met≤st.length
theorem Sta.mono{st:List Vstep}{T:List Vthread}{c:UInt8}{j p:Nat}(h:Sta st T c j p):Sta st T c (j+1) p:=by
 obtain⟨j',t,h1,h2⟩:=h
 exact⟨j',t,by omega,h2⟩
theorem RI.skip{st:List Vstep}{G len:Nat}{T:List Vthread}{c:UInt8}{j:Nat}{next:List Vthread}{met:List (Int × Bool)}(h:RI st G len T c j next met)(hno:∀p,Sta st T c (j+1) p→Sta st T c j p):RI st G len T c (j+1) next met:=
 ⟨fun q hq=>by
  obtain⟨k1,k2,k3,p,k4,k5⟩:=h.r1 q hq
  exact⟨k1,k2,k3,p,k4.mono,k5⟩,fun p hp=>h.r2 p (hno p hp),h.r3,h.r4⟩
theorem RI.add{st:List Vstep}{G len:Nat}{T:List Vthread}{c:UInt8}{j p0:Nat}{next l2:List Vthread}{met met2:List (Int × Bool)}(h:RI st G len T c j next met)(ha:AddP st G len p0 met l2 met2)(h0:Sta st T c (j+1) p0)(hno:∀p,Sta st T c (j+1) p→Sta st T c j p∨p=p0):RI st G len T c (j+1) (next++l2) met2:=
 ⟨fun q hq=>by
  cases hm:inM met q with
  |true=>
   obtain⟨k1,k2,k3,p,k4,k5⟩:=h.r1 q hm
   refine⟨k1,fun q' h'=>ha.mono _ (k2 q' h'),fun hs=> ?_,p,k4.mono,k5⟩
   obtain⟨t,ht,e⟩:=k3 hs
   exact⟨t,List.mem_append_left _ ht,e⟩
  |false=>
   obtain⟨k1,k2,k3,k4⟩:=ha.clos q hq hm
   refine⟨k1,k2,fun hs=> ?_,p0,h0,k3⟩
   obtain⟨t,ht,e⟩:=k4 hs
   exact⟨t,List.mem_append_right _ ht,e⟩,
  fun p hp=>by
   rcases hno p hp with h'|rfl
   ·exact ha.mono _ (h.r2 p h')
   ·exact ha.self,
  fun t ht=>by
   rcases List.mem_append.1 ht with ht|ht
   ·obtain⟨q,k1,k2,k3,k4⟩:=h.r3 t ht
    exact⟨q,k1,k2,ha.mono _ k3,k4⟩
   ·obtain⟨q,k1,k2,k3,k4⟩:=ha.thr t ht
    refine⟨q,k1,k2,?_,k4⟩
    have hcl:∀ {a b:Nat},Rch st a b→inM met2 a=true→(∀q,inM met2 q=true→∀q',Eps st q q'→inM met2 q'=true)→inM met2 b=true:=fun hr=>by
     induction hr with
     |refl=>exact fun h _=>h
     |step he _ ih=>exact fun h hc=>ih (hc _ h _ he) hc
    refine hcl k3 ha.self fun q hq q' he=> ?_
    cases hm:inM met q with
    |true=>exact ha.mono _ ((h.r1 q hm).2.1 q' he)
    |false=>exact(ha.clos q hq hm).2.1 q' he,by
   have:=h.r4
   have:=ha.size
   rw[List.length_append]
   omega⟩
theorem RI.zero{st:List Vstep}{G len:Nat}{T:List Vthread}{c:UInt8}:RI st G len T c 0 [] [] :=
 ⟨(fun q hq=>by cases hq),(fun p ⟨j',t,h,_⟩=>by omega),(fun t ht=>by cases ht),(by have:=P9 st.length [];simpa using this)⟩
set_option maxRecDepth 1000000
inductive Sr (L:List UInt8→Prop):List UInt8→Prop
 |nil:Sr L []
 |cons {a b:List UInt8} (h:L a) (h':Sr L b):Sr L (a++b)
def Cw(sg:UInt8)(L:List UInt8→Prop)(s:List UInt8):Prop:=
 if sg=42 then Sr L s else if sg=43 then ∃a b,s=a++b∧L a∧Sr L b else if sg=63 then s=[] ∨L s else L s
def S8(S:List Bool)(s:List UInt8):Prop:=∃b,s=[b] ∧BT 256 (some S) (b2i b)=some true
def Nd.Lang:Nd→List UInt8→Prop
 |.set S sg=>Cw sg (S8 S)
 |.grp _ M sg=>Cw sg M.Lang
 |.nil=>fun s=>s=[]
 |.cons p r=>fun s=>∃a b,s=a++b∧p.Lang a∧r.Lang b
 |.alt r M=>fun s=>r.Lang s∨M.Lang s
def QB(sg:UInt8):Prop:=sg=0∨sg=42∨sg=43∨sg=63
def Nd.Ok(G:Nat):Nd→Prop
 |.set S sg=>S.length=256∧QB sg
 |.grp n M sg=>M.Ok G∧QB sg∧((sg=42∨sg=43)→M.null=false)∧n≤G
 |.nil=>True
 |.cons p r=>p.Ok G∧r.Ok G
 |.alt r M=>r.Ok G∧M.Ok G
theorem Nd.Ok.mono{G G':Nat}(hG:G≤G'):∀ {x:Nd},x.Ok G→x.Ok G'
 |.set S sg,h=>h
 |.grp n M sg,h=>⟨Nd.Ok.mono hG h.1,h.2.1,h.2.2.1,Nat.le_trans h.2.2.2 hG⟩
 |.nil,h=>trivial
 |.cons p r,h=>⟨Nd.Ok.mono hG h.1,Nd.Ok.mono hG h.2⟩
 |.alt r M,h=>⟨Nd.Ok.mono hG h.1,Nd.Ok.mono hG h.2⟩
theorem xi{sg:UInt8}{L:List UInt8→Prop}(h:Cw sg L [])(hn:sgN sg=false):L [] :=by
 unfold Cw at h
 unfold sgN at hn
 split at h
 ·rename_i e;subst e;cases hn
 ·split at h
  ·obtain⟨a,b,e,h1,_⟩:=h
   rw[(List.append_eq_nil_iff.1 e.symm).1] at h1
   exact h1
  ·split at h
   ·rename_i e;subst e;cases hn
   ·exact h
theorem Nd.lang_nil:∀ (x:Nd),x.Lang [] →x.null=true
 |.set S sg,h=>by
  cases hn:sgN sg with
  |true=>exact hn
  |false=>
   obtain⟨b,e,_⟩:=xi h hn
   cases e
 |.grp n M sg,h=>by
  unfold Nd.null
  cases hn:sgN sg with
  |true=>rfl
  |false=>rw[M.lang_nil (xi h hn)];rfl
 |.nil,h=>rfl
 |.cons p r,h=>by
  obtain⟨a,b,e,h1,h2⟩:=h
  obtain⟨rfl,rfl⟩:=List.append_eq_nil_iff.1 e.symm
  unfold Nd.null
  rw[p.lang_nil h1,r.lang_nil h2];rfl
 |.alt r M,h=>by
  unfold Nd.null
  rcases h with h|h
  ·rw[r.lang_nil h];rfl
  ·rw[M.lang_nil h,Bool.or_true]
section
variable {st:List Vstep}
theorem nj{p a b:Nat}(h:st[p]? =some (fkS a b))(s:List UInt8):Acc st p s ↔ Acc st a s∨Acc st b s:=by
 constructor
 ·intro ha
  cases ha with
  |dn h'=>rw[h] at h';cases h'
  |tk h'=>rw[h] at h';cases h'
  |ep h' h2=>
   rcases l5 h' h with ⟨a',b',e,h3⟩| ⟨a',e,_⟩| ⟨a',e,_⟩
   ·obtain⟨rfl,rfl⟩:=Qf e
    rcases h3 with rfl|rfl
    ·exact .inl h2
    ·exact .inr h2
   ·cases e
   ·cases e
 ·rintro(h'|h')
  ·exact .ep (.fka h) h'
  ·exact .ep (.fkb h) h'
theorem AO{p a:Nat}(h:st[p]? =some (jpS a))(s:List UInt8):Acc st p s ↔ Acc st a s:=by
 constructor
 ·intro ha
  cases ha with
  |dn h'=>rw[h] at h';cases h'
  |tk h'=>rw[h] at h';cases h'
  |ep h' h2=>
   rcases l5 h' h with ⟨a',b',e,h3⟩| ⟨a',e,h3⟩| ⟨a',e,_⟩
   ·cases e
   ·rw[QJ e,← h3];exact h2
   ·cases e
 ·exact fun h'=>.ep (.jp h) h'
theorem E7{p a:Nat}(h:st[p]? =some (svS a))(s:List UInt8):Acc st p s ↔ Acc st (p+1) s:=by
 constructor
 ·intro ha
  cases ha with
  |dn h'=>rw[h] at h';cases h'
  |tk h'=>rw[h] at h';cases h'
  |ep h' h2=>
   rcases l5 h' h with ⟨a',b',e,h3⟩| ⟨a',e,h3⟩| ⟨a',e,h3⟩
   ·cases e
   ·cases e
   ·rw[← h3];exact h2
 ·exact fun h'=>.ep (.sv h) h'
theorem Rv{p:Nat}{S:List Bool}(h:st[p]? =some (tkS S))(s:List UInt8):Acc st p s ↔ ∃b r,s=b::r∧BT 256 (some S) (b2i b)=some true∧Acc st (p+1) r:=by
 constructor
 ·intro ha
  cases ha with
  |dn h'=>rw[h] at h';cases h'
  |tk h' hb h2=>
   rw[h] at h'
   have:=Option.some.inj (congrArg Vstep.set_ (Option.some.inj h'))
   subst this
   exact⟨_,_,rfl,hb,h2⟩
  |ep h' h2=>rcases l5 h' h with ⟨a',b',e,h3⟩| ⟨a',e,h3⟩| ⟨a',e,h3⟩<;> cases e
 ·rintro⟨b,r,rfl,hb,h'⟩
  exact .tk h hb h'
theorem If{p:Nat}(h:st[p]? =some dnS)(s:List UInt8):Acc st p s ↔ s=[] :=by
 constructor
 ·intro ha
  cases ha with
  |dn h'=>rfl
  |tk h'=>rw[h] at h';cases h'
  |ep h' h2=>rcases l5 h' h with ⟨a',b',e,h3⟩| ⟨a',e,h3⟩| ⟨a',e,h3⟩<;> cases e
 ·rintro rfl
  exact .dn h
def At(st:List Vstep)(b:Nat)(L:List Vstep):Prop:=∀i s,L[i]? =some s→st[b+i]? =some s
theorem At.head{b:Nat}{x:Vstep}{L:List Vstep}(h:At st b (x::L)):st[b]? =some x∧At st (b+1) L:=
 ⟨h 0 x rfl,fun i s hi=>by have:=h (i+1) s (by simpa using hi);rw[show b+1+i=b+ (i+1) by omega];exact this⟩
theorem At.app{b:Nat}{L L':List Vstep}(h:At st b (L++L')):At st b L∧At st (b+L.length) L':=by
 refine⟨fun i s hi=>h i s ?_,fun i s hi=> ?_⟩
 ·rw[List.getElem?_append_left (List.getElem?_eq_some_iff.1 hi).1];exact hi
 ·have:=h (L.length+i) s (by rw[List.getElem?_append_right (by omega),show L.length+i - L.length=i by omega];exact hi)
  rw[show b+L.length+i=b+ (L.length+i) by omega];exact this
def Thr(st:List Vstep)(L:List UInt8→Prop)(b e:Nat):Prop:=∀s,Acc st b s ↔ ∃u v,s=u++v∧L u∧Acc st e v
theorem Mh{L:List UInt8→Prop}{b n:Nat}(hb:Thr st L (b+1) (b+1+n))(hne:¬L [])(h1:st[b]? =some (fkS (b+1) (b+n+2)))(h2:st[b+1+n]? =some (jpS b)):Thr st (Sr L) b (b+n+2):=by
 have fwd:∀ (k:Nat) (s:List UInt8),s.length≤k→Acc st b s→∃u v,s=u++v∧Sr L u∧Acc st (b+n+2) v:=by
  intro k
  induction k with
  |zero=>
   intro s hk ha
   have:s=[] :=List.eq_nil_of_length_eq_zero (by omega)
   subst this
   rcases (nj h1 _).1 ha with ha|ha
   ·obtain⟨u,v,e,hu,_⟩:=(hb _).1 ha
    rw[(List.append_eq_nil_iff.1 e.symm).1] at hu
    exact absurd hu hne
   ·exact⟨[],[],rfl,.nil,ha⟩
  |succ k ih=>
   intro s hk ha
   rcases (nj h1 _).1 ha with ha|ha
   ·obtain⟨u,v,rfl,hu,hv⟩:=(hb _).1 ha
    have hu0:0 < u.length:=by
     cases u with
     |nil=>exact absurd hu hne
     |cons c r=>simp
    obtain⟨u2,v2,rfl,hs,hv2⟩:=ih v (by rw[List.length_append] at hk;omega) ((AO h2 _).1 hv)
    exact⟨u++u2,v2,by rw[List.append_assoc],.cons hu hs,hv2⟩
   ·exact⟨[],s,rfl,.nil,ha⟩
 intro s
 refine⟨fwd s.length s (Nat.le_refl _),?_⟩
 rintro⟨u,v,rfl,hu,hv⟩
 induction hu with
 |nil=>exact(nj h1 _).2 (.inr hv)
 |cons ha _ ih=>
  rw[List.append_assoc]
  exact(nj h1 _).2 (.inl ((hb _).2 ⟨_,_,rfl,ha,(AO h2 _).2 ih⟩))
theorem KD{L:List UInt8→Prop}{b n:Nat}(hb:Thr st L b (b+n))(hne:¬L [])(h1:st[b+n]? =some (fkS b (b+n+1))):Thr st (fun s=>∃a c,s=a++c∧L a∧Sr L c) b (b+n+1):=by
 have fwd:∀ (k:Nat) (s:List UInt8),s.length≤k→Acc st b s→∃u v,s=u++v∧(∃a c,u=a++c∧L a∧Sr L c)∧Acc st (b+n+1) v:=by
  intro k
  induction k with
  |zero=>
   intro s hk ha
   have:s=[] :=List.eq_nil_of_length_eq_zero (by omega)
   subst this
   obtain⟨u,v,e,hu,_⟩:=(hb _).1 ha
   rw[(List.append_eq_nil_iff.1 e.symm).1] at hu
   exact absurd hu hne
  |succ k ih=>
   intro s hk ha
   obtain⟨u,v,rfl,hu,hv⟩:=(hb _).1 ha
   have hu0:0 < u.length:=by
    cases u with
    |nil=>exact absurd hu hne
    |cons c r=>simp
   rcases (nj h1 _).1 hv with hv|hv
   ·obtain⟨u2,v2,rfl,⟨a,c,rfl,h3,h4⟩,hv2⟩:=ih v (by rw[List.length_append] at hk;omega) hv
    exact⟨u++ (a++c),v2,by simp,⟨u,a++c,rfl,hu,.cons h3 h4⟩,hv2⟩
   ·exact⟨u,v,rfl,⟨u,[],by simp,hu,.nil⟩,hv⟩
 intro s
 refine⟨fwd s.length s (Nat.le_refl _),?_⟩
 rintro⟨u,v,rfl,⟨a,c,rfl,ha,hc⟩,hv⟩
 rw[List.append_assoc]
 induction hc generalizing a with
 |nil=>exact(hb _).2 ⟨a,v,rfl,ha,(nj h1 _).2 (.inr hv)⟩
 |cons h _ ih=>
  refine(hb _).2 ⟨a,_,rfl,ha,(nj h1 _).2 (.inl ?_)⟩
  rw[List.append_assoc]
  exact ih _ h
theorem Cb{L:List UInt8→Prop}{sg:UInt8}(hsg:QB sg){body:Nat→List Vstep}{n:Nat}(hn:∀b,(body b).length=n)(hb:∀b,At st b (body b)→Thr st L b (b+n))(hne:(sg=42∨sg=43)→¬L []){b:Nat}(hat:At st b (i6 b sg body n)):Thr st (Cw sg L) b (b+ (n+sgL sg)):=by
 rcases hsg with rfl|rfl|rfl|rfl
 ·exact hb b hat
 ·have hat':At st b (fkS (b+1) (b+n+2)::(body (b+1)++ [jpS b])):=hat
  obtain⟨k1,k2⟩:=hat'.head
  obtain⟨k3,k4⟩:=k2.app
  rw[hn] at k4
  exact Mh (hb _ k3) (hne (.inl rfl)) k1 (by have:=k4 0 _ rfl;simpa using this)
 ·have hat':At st b (body b++ [fkS b (b+n+1)]):=hat
  obtain⟨k1,k2⟩:=hat'.app
  rw[hn] at k2
  exact KD (hb _ k1) (hne (.inr rfl)) (by have:=k2 0 _ rfl;simpa using this)
 ·have hat':At st b (fkS (b+1) (b+n+1)::body (b+1)):=hat
  obtain⟨k1,k2⟩:=hat'.head
  have h2:=hb _ k2
  intro s
  have e:b+ (n+sgL 63)=b+n+1:=rfl
  have e2:b+1+n=b+n+1:=by omega
  rw[e,nj k1,h2 s,e2]
  show _ ↔ ∃u v,s=u++v∧(u=[] ∨L u)∧_
  constructor
  ·rintro(⟨u,v,h3,h4,h5⟩|h)
   ·exact⟨u,v,h3,.inr h4,h5⟩
   ·exact⟨[],s,rfl,.inl rfl,h⟩
  ·rintro⟨u,v,rfl,rfl|h4,h5⟩
   ·exact .inr h5
   ·exact .inl ⟨u,v,rfl,h4,h5⟩
theorem Nd.thr{G:Nat}:∀ (x:Nd),x.Ok G→∀b,At st b (x.code b)→Thr st x.Lang b (b+x.len)
 |.set S sg,hok,b,hat=>Cb (n:=1) hok.2 (fun _=>rfl) (fun b' h'=>fun s=>by
   rw[Rv (show st[b']? =some (tkS S) from h' 0 _ rfl)]
   constructor
   ·rintro⟨c,r,rfl,h1,h2⟩
    exact⟨[c],r,rfl,⟨c,rfl,h1⟩,h2⟩
   ·rintro⟨u,v,rfl,⟨c,rfl,h1⟩,h2⟩
    exact⟨c,v,rfl,h1,h2⟩) (fun _ ⟨c,e,_⟩=>by cases e) hat
 |.grp n M sg,hok,b,hat=>by
  refine Cb hok.2.1 (fun b'=>by rw[List.length_cons,List.length_append,M.code_len];rfl) (fun b' h'=>fun s=> ?_) (fun h hl=>by have:=M.lang_nil hl;rw[hok.2.2.1 h] at this;cases this) hat
  obtain⟨k1,k2⟩:=h'.head
  obtain⟨k3,k4⟩:=k2.app
  rw[M.code_len] at k4
  have k5:=k4 0 _ rfl
  rw[Nat.add_zero] at k5
  rw[E7 k1,M.thr hok.1 _ k3 s]
  constructor
  ·rintro⟨u,v,h1,h2,h3⟩
   refine⟨u,v,h1,h2,?_⟩
   have:=(E7 k5 v).1 h3
   rw[show b'+ (M.len+2)=b'+1+M.len+1 by omega];exact this
  ·rintro⟨u,v,h1,h2,h3⟩
   refine⟨u,v,h1,h2,(E7 k5 v).2 ?_⟩
   rw[show b'+1+M.len+1=b'+ (M.len+2) by omega];exact h3
 |.nil,hok,b,hat=>fun s=>by
  constructor
  ·intro h;exact⟨[],s,rfl,rfl,h⟩
  ·rintro⟨u,v,rfl,rfl,h⟩;exact h
 |.cons p r,hok,b,hat=>fun s=>by
  obtain⟨k1,k2⟩:=At.app (show At st b (p.code b++r.code (b+p.len)) from hat)
  rw[p.code_len] at k2
  rw[p.thr hok.1 b k1 s]
  have h2:=r.thr hok.2 _ k2
  have e:b+ (Nd.cons p r).len=b+p.len+r.len:=by show b+ (p.len+r.len)=_;omega
  rw[e]
  constructor
  ·rintro⟨u,v,rfl,h3,h4⟩
   obtain⟨u2,v2,rfl,h5,h6⟩:=(h2 v).1 h4
   exact⟨u++u2,v2,by simp,⟨u,u2,rfl,h3,h5⟩,h6⟩
  ·rintro⟨u,v,rfl,⟨a,c,rfl,h3,h5⟩,h6⟩
   exact⟨a,c++v,by simp,h3,(h2 _).2 ⟨c,v,rfl,h5,h6⟩⟩
 |.alt r M,hok,b,hat=>fun s=>by
  obtain⟨k1,k2⟩:=At.head (show At st b (fkS (b+1) (b+r.len+2)::(r.code (b+1)++jpS (b+r.len+2+M.len)::M.code (b+r.len+2))) from hat)
  obtain⟨k3,k4⟩:=k2.app
  rw[r.code_len] at k4
  obtain⟨k5,k6⟩:=k4.head
  have e1:b+1+r.len+1=b+r.len+2:=by omega
  rw[e1] at k6
  have h1:=r.thr hok.1 _ k3
  have h2:=M.thr hok.2 _ k6
  have e:b+ (Nd.alt r M).len=b+r.len+2+M.len:=by show b+ (r.len+M.len+2)=_;omega
  rw[e,nj k1,h1 s,h2 s]
  constructor
  ·rintro(⟨u,v,h3,h4,h5⟩| ⟨u,v,h3,h4,h5⟩)
   ·exact⟨u,v,h3,.inl h4,(AO k5 v).1 h5⟩
   ·exact⟨u,v,h3,.inr h4,h5⟩
  ·rintro⟨u,v,h3,h4|h4,h5⟩
   ·exact .inl ⟨u,v,h3,h4,(AO k5 v).2 h5⟩
   ·exact .inr ⟨u,v,h3,h4,h5⟩
end
theorem Nd.acc{G:Nat}(x:Nd)(hok:x.Ok G)(s:List UInt8):Acc (x.code 0++ [dnS]) 0 s ↔ x.Lang s:=by
 have hat:At (x.code 0++ [dnS]) 0 (x.code 0):=fun i s h=>by
  rw[Nat.zero_add,List.getElem?_append_left (List.getElem?_eq_some_iff.1 h).1];exact h
 have hd:(x.code 0++ [dnS])[0+x.len]? =some dnS:=by
  rw[Nat.zero_add,List.getElem?_append_right (by rw[x.code_len];exact Nat.le_refl _),x.code_len,Nat.sub_self];rfl
 rw[x.thr hok 0 hat s]
 constructor
 ·rintro⟨u,v,rfl,h1,h2⟩
  rw[(If hd v).1 h2,List.append_nil];exact h1
 ·intro h
  exact⟨s,[],by simp,h,(If hd []).2 rfl⟩
set_option maxRecDepth 1000000
theorem vL{m:List UInt8}{i:Nat}{q:Int × Int}(h:gT m i=.error q):q.1≠0:=by
 unfold gT at h
 split at h
 ·cases h;simp
 ·rename_i b hb
  cases hc:([91,93,92,94,45] :List UInt8).contains b with
  |true=>rw[hc,cond_true] at h;cases h;simp
  |false=>rw[hc,cond_false] at h;cases h
theorem xk{m:List UInt8}:∀ (f:Nat) (first:Bool) (i:Nat) (S:List Bool) {q:Int × Int},qa m f first i S=.error q→i≤m.length→m.length+1≤f+i→q.1≠0
 |0,first,i,S,q,h,hi,hf=>by omega
 |f+1,first,i,S,q,h,hi,hf=>by
  rw[qa] at h
  cases hb:(!first && bM m 93 i) with
  |true=>rw[hb,cond_true] at h;cases h
  |false=>
   rw[hb,cond_false] at h
   split at h
   ·rename_i q' hp;cases h;exact vL hp
   ·rename_i a i1 hp
    obtain⟨e1,e2⟩:=kn hp
    cases hd:bM m 45 i1 with
    |false=>rw[hd,cond_false] at h;exact xk f false i1 _ h (by omega) (by omega)
    |true=>
     rw[hd,cond_true] at h
     split at h
     ·rename_i q' hp2;cases h;exact vL hp2
     ·rename_i b i3 hp2
      obtain⟨e3,e4⟩:=kn hp2
      cases hl:decide ((b2i b) < (b2i a)) with
      |true=>rw[hl,cond_true] at h;cases h;simp
      |false=>rw[hl,cond_false] at h;exact xk f false i3 _ h (by omega) (by omega)
theorem Jf{m:List UInt8}{i:Nat}(hi:i≤m.length){q:Int × Int}(h:xV m i=.error q):q.1≠0:=by
 unfold xV at h
 split at h
 ·rename_i q' hT
  cases h
  have hs:jL (bM m 94 i) i≤m.length∧i≤jL (bM m 94 i) i:=by
   unfold jL
   cases h:bM m 94 i with
   |true=>have:=dP h;exact⟨by simp;omega,by simp⟩
   |false=>exact⟨hi,Nat.le_refl _⟩
  exact xk _ _ _ _ hT hs.1 (by omega)
 ·cases h
theorem zm{m:List UInt8}{i:Nat}(hi:i < m.length){q:Int × Int}(h:nE m i=.error q):q.1≠0:=by
 unfold nE at h
 rw[List.getElem?_eq_getElem hi] at h
 dsimp only at h
 generalize m[i] =c at h
 cases h46:(b2i c==b2i 46) with
 |true=>rw[h46,cond_true] at h;cases h
 |false=>
  rw[h46,cond_false] at h
  cases h92:(b2i c==b2i 92) with
  |true=>
   rw[h92,cond_true] at h
   split at h
   ·cases h;simp
   ·rename_i x hx
    cases hl:qz x with
    |true=>rw[hl,cond_true] at h;cases h;simp
    |false=>rw[hl,cond_false] at h;cases h
  |false=>
   rw[h92,cond_false] at h
   cases h91:(b2i c==b2i 91) with
   |true=>rw[h91,cond_true] at h;exact Jf (by omega) h
   |false=>
    rw[h91,cond_false] at h
    cases hcn:([42,43,63,41,124,93] :List UInt8).contains c with
    |true=>rw[hcn,cond_true] at h;cases h;simp
    |false=>rw[hcn,cond_false] at h;cases h
theorem iJ{m:List UInt8}:∀ (f mo i g:Nat) {q:Int × Int},prs m f mo i g=.error q→i≤m.length→g≤9→3 * (m.length - i)+3≤f+mo→mo≤2→(mo=2→i < m.length)→q.1≠0
 |0,mo,i,g,q,h,hi,hg,hf,hmo,h2=>by omega
 |f+1,0,i,g,q,h,hi,hg,hf,hmo,h2=>by
  rw[O8] at h
  split at h
  ·rename_i q' hr;cases h;exact iJ f 1 i g hr hi hg (by omega) (by omega) (by omega)
  ·rename_i r j0 g0 hr
   have h1:=gS f 1 i g hr hi hg
   cases hb:bM m 124 j0 with
   |false=>rw[hb,cond_false] at h;cases h
   |true=>
    rw[hb,cond_true] at h
    have hj:=dP hb
    split at h
    ·rename_i q' hM;cases h;exact iJ f 0 (j0+1) g0 hM (by omega) h1.2.2.2.2.1 (by omega) (by omega) (by omega)
    ·cases h
 |f+1,1,i,g,q,h,hi,hg,hf,hmo,h2=>by
  rw[Pb] at h
  split at h
  ·cases h
  ·rename_i c hc
   have hil:=(List.getElem?_eq_some_iff.1 hc).1
   cases h1:(b2i c==b2i 124) with
   |true=>rw[h1,cond_true] at h;cases h
   |false=>
    rw[h1,cond_false] at h
    cases h2:(b2i c==b2i 41) with
    |true=>rw[h2,cond_true] at h;cases h
    |false=>
     rw[h2,cond_false] at h
     split at h
     ·rename_i q' hp;cases h;exact iJ f 2 i g hp hi hg (by omega) (by omega) (fun _=>hil)
     ·rename_i p j0 g0 hp
      have h3:=gS f 2 i g hp hi hg
      have h4:=h3.2.2.2.2.2 (by omega)
      split at h
      ·rename_i q' hr;cases h;exact iJ f 1 j0 g0 hr h3.2.1 h3.2.2.2.2.1 (by omega) (by omega) (by omega)
      ·cases h
 |f+1,2,i,g,q,h,hi,hg,hf,hmo,h2=>by
  rw[P6] at h
  have hil:=h2 rfl
  cases hb:bM m 40 i with
  |true=>
   rw[hb,cond_true] at h
   cases h9:g==9 with
   |true=>rw[h9,cond_true] at h;cases h;simp
   |false=>
    have hg9:g≠9:=beq_eq_false_iff_ne.1 h9
    rw[h9,cond_false] at h
    split at h
    ·rename_i q' hM;cases h;exact iJ f 0 (i+1) (g+1) hM (by omega) (by omega) (by omega) (by omega) (by omega)
    ·rename_i M j0 g0 hM
     cases h41:bM m 41 j0 with
     |false=>rw[h41,cond_false] at h;cases h;simp
     |true=>
      rw[h41,cond_true] at h
      cases hs:(dN m (j0+1)==0) with
      |true=>rw[hs,cond_true] at h;cases h
      |false=>
       rw[hs,cond_false] at h
       cases hz:(M.null && !(dN m (j0+1)==63)) with
       |true=>rw[hz,cond_true] at h;cases h;simp
       |false=>rw[hz,cond_false] at h;cases h
  |false=>
   rw[hb,cond_false] at h
   split at h
   ·rename_i q' hS;cases h;exact zm hil hS
   ·rename_i S j0 hS
    cases hs:(dN m j0==0) with
    |true=>rw[hs,cond_true] at h;cases h
    |false=>rw[hs,cond_false] at h;cases h
def rdM(m:List UInt8):Except (Int × Int) (Nd × Nat):=if 60 < m.length then .error (2,0) else match prs m 400 0 0 0 with
 |.error q=>.error q
 |.ok (x,j,g)=>if j < m.length then .error (1,(j:Int)) else .ok (x,g)
theorem I5(m:List UInt8):lY 3000 m=some (match rdM m with
  |.error q=>.error q
  |.ok (x,g)=>.ok ⟨(g:Int),x.code 0++ [dnS]⟩):=by
 unfold lY rdM
 by_cases h:60 < m.length
 ·rw[if_pos h,if_pos h]
 ·rw[if_neg h,if_neg h]
  have hc:yN 3000 m=nW true m [] (prs m 400 0 0 0):=(Ek (by omega) 400).1 3001 0 0 [] (Nat.zero_le _) (by omega) (by omega) (by omega) (by simp;omega)
  rw[hc]
  cases hp:prs m 400 0 0 0 with
  |error q=>
   show(pS (flt q)).map Except.error=some (.error q)
   have:pS (flt q)=some q:=by
    unfold flt faultV pS
    simp
   rw[this];rfl
  |ok p=>
   obtain⟨x,j,g⟩:=p
   rw[gH]
   dsimp only
   by_cases hj:j < m.length
   ·rw[if_pos (by omega),if_pos hj]
   ·rw[if_neg (by omega),if_neg hj]
    have hk:=gS 400 0 0 0 hp (Nat.zero_le _) (by omega)
    have hv:oz 32 ([] ++x.code ([] :List Vstep).length).length ([] ++x.code ([] :List Vstep).length) [doneS] =some (x.code 0++ [dnS]):=by
     unfold oz
     rw[if_pos ⟨rfl,by simp[doneS],by simp[x.code_len,doneS];omega⟩]
     rfl
    rw[hv];rfl
theorem Ov{m:List UInt8}{q:Int × Int}(h:rdM m=.error q):q.1≠0:=by
 unfold rdM at h
 split at h
 ·cases h;simp
 ·split at h
  ·rename_i q' hp;cases h;exact iJ 400 0 0 0 hp (Nat.zero_le _) (by omega) (by omega) (by omega) (by omega)
  ·split at h
   ·cases h;simp
   ·cases h
set_option maxRecDepth 100000
def fi(N:Nat):Nat→(List (List UInt8))→(List (List UInt8))→Int→Option Bool
 |0,_,_,_=>none
 |n+1,x0,x1,x5=>
  bif decide (x5 < (x0.length:Int)) then
   (cg x0 x5).bind fun z1=>
   (cg x1 x5).bind fun z2=>
   bif !decide (z1=z2) then
    some false
   else
    fi N n x0 x1 (w64 (x5+1))
  else
   some true
def gZ(N:Nat)(x0:List (List UInt8))(x1:List (List UInt8)):Option Bool:=
 bif (x0.length:Int) != (x1.length:Int) then
  some false
 else
  fi N N x0 x1 0
def fT(N:Nat):Option Bool:=
 (kH N ([40,97,124,98,41,43,99] :List UInt8) ([97,98,99] :List UInt8)).bind fun z1=>
 (jD N ([60,36,49,62] :List UInt8) ([97,98,99] :List UInt8) z1.2.1).bind fun z2=>
 bif z1.2.2==0 then
  bif z1.1 then
   (gZ N z1.2.1 ([([98] :List UInt8)] :List (List UInt8))).bind fun z3=>
   bif z3 then
    bif z2.2==0 then
     some (decide (z2.1=([60,98,62] :List UInt8)))
    else
     some false
   else
    some false
  else
   some false
 else
  some false
set_option maxRecDepth 100000
def jQ(r:Bool):TV EE.T:=.a (.d .bool r)
def wi(r:Bool):RL EE.T:=.ret (jQ r) []
def Sp:Lvs:=⟨[(6,⟨[(0,false),(1,false),(5,false)],[],[],[]⟩)],[(4,⟨[(0,false),(1,false),(5,false)],[],[],[]⟩)],[],[],false,[],[],[],[]⟩
def Sw:List ResultVar:=[.tmp 4]
def SN(N:Nat):Gam EE:=⟨[],EQT,[],[]⟩
theorem PN(N:Nat):GOk Try.prog TT EE (SN N):=GOk.nil cN
def JP(c:Code):List It2:=atL 4 c
def H5(x0:List (List UInt8))(x1:List (List UInt8))(x5:Int):TS EE.T:=⟨26,[(0,.a (.d (.sl .str) x0)),(1,.a (.d (.sl .str) x1)),(5,.a (.d (.int .i64) x5))],[],[]⟩
def Q6(c:Code):List It2:=[.c c]
def Q8(x0:List (List UInt8))(x1:List (List UInt8)):TS EE.T:=⟨26,[(0,.a (.d (.sl .str) x0)),(1,.a (.d (.sl .str) x1))],[],[]⟩
def JD(c:Code)(f:(List (List UInt8))→(List (List UInt8))→Int→Option Bool)(x0:List (List UInt8))(x1:List (List UInt8))(x5:Int):Tree (Lf EE.T × Option Bool):=.leaf (.go (JP c) (H5 x0 x1 x5),f x0 x1 x5)
abbrev Pu(N:Nat)(r:Bool)(k:List It2)(s:TS EE.T):Prop:=fa (Y:=TT) EE (SN N) Sp Sw (fun u=>u=wi r) k s
def Iw(x:Bool):Tree (Lf EE.T × Option Bool):=.leaf (.done (wi x),some x)
theorem Jc{N:Nat}{r:Bool}:∀ (n:Nat) (x0:List (List UInt8)) (x1:List (List UInt8)) (x5:Int),fi N n x0 x1 x5=some r→Pu N r (JP (aa 0 Try.f13)) (H5 x0 x1 x5)
 |0,_,_,_,h=>by cases h
 |n+1,x0,x1,x5,h=>av (m:=4000) (t:=
  .cond (decide (x5 < (x0.length:Int)))
  (
   .bnd (cg x0 x5) fun z1=>
   .bnd (cg x1 x5) fun z2=>
   .cond (!decide (z1=z2))
   (
    Iw false)
   (
    JD (aa 0 Try.f13) (fi N n) x0 x1 (w64 (x5+1))))
  (
   Iw true)) (by kernel_rfl) (by kernel_rfl) h (⟨fun _=>fun _=>⟨aO (enc:=wi) rfl,fun h=>(Jc n) _ _ _ h⟩,aO (enc:=wi) rfl⟩)
theorem Q4{N:Nat}{r:Bool}(x0:List (List UInt8))(x1:List (List UInt8))(h:gZ N x0 x1=some r):Pu N r (Q6 (aa 0 Try.f13)) (Q8 x0 x1):=
 av (m:=4000) (t:=
 .cond ((x0.length:Int) != (x1.length:Int))
 (
  Iw false)
 (
  JD (aa 0 Try.f13) (fi N N) x0 x1 0)) (by kernel_rfl) (by kernel_rfl) h (⟨aO (enc:=wi) rfl,fun h=>Jc N _ _ _ h⟩)
theorem sN{N:Nat}(x0:List (List UInt8))(x1:List (List UInt8)){r:Bool}(h:gZ N x0 x1=some r)(ρ:Rn):aE Try.prog 13 (([.a (.d (.sl .str) x0),.a (.d (.sl .str) x1)] :List (TV EE.T)).map (TV.to EE.toEnc ρ)) [] (fun out H=>out=.ret ((jQ r).to EE.toEnc ρ)∧H=[]):=
 (rA (aa 0 Try.f13) 26 mixed (PN N) Try.func13 (by kernel_rfl) rfl rfl rfl rfl (Q4 x0 x1 h) ρ).mono fun out H h=>cx.ret rfl h
def jV(N:Nat):List (TV EE.T)→PV EE.T
 | [u0,u1] =>match lp (.sl .str) u0,lp (.sl .str) u1 with
   |some x0,some x1=>.opt (gZ N x0 x1) jQ
   |_,_=>.bad
 |_=>.bad
theorem sk(N:Nat)(us:List (TV EE.T)):(jV N us).ok fun u=>∀ρ,aE Try.prog 13 (us.map (TV.to EE.toEnc ρ)) [] (fun out H=>out=.ret (u.to EE.toEnc ρ)∧H=[]):=by
 unfold jV
 split
 ·split
  ·rename_i h0 h1
   intro z hz ρ;refine eU ?_ (sN _ _ hz ρ);exact⟨ec h0 ρ,ec h1 ρ,trivial⟩
  ·trivial
 ·trivial
def jX(r:Bool):TV EE.T:=.a (.d .bool r)
def qH(r:Bool):RL EE.T:=.ret (jX r) []
def Sk:Lvs:=⟨[],[],[],[],false,[],[],[],[]⟩
def Su:List ResultVar:=[.tmp 0]
def RM(N:Nat):Gam EE:=⟨[⟨13,jV N⟩,⟨14,lK N⟩,⟨9,nc N⟩],EQT,[],[]⟩
theorem Rg(N:Nat):GOk Try.prog TT EE (RM N):=GOk.cons (sk N) (GOk.cons (uw N) (GOk.cons (wU N) (GOk.nil cN)))
def Rb(c:Code):List It2:=[.c c]
def Rs:TS EE.T:=⟨34,[],[],[]⟩
abbrev SC(N:Nat)(r:Bool)(k:List It2)(s:TS EE.T):Prop:=fa (Y:=TT) EE (RM N) Sk Su (fun u=>u=qH r) k s
def Ea(x:Bool):Tree (Lf EE.T × Option Bool):=.leaf (.done (qH x),some x)
theorem Qp{N:Nat}{r:Bool}(h:fT N=some r):SC N r (Rb (aa 0 Try.f11)) (Rs):=
 av (m:=4000) (t:=
 .bnd (kH N ([40,97,124,98,41,43,99] :List UInt8) ([97,98,99] :List UInt8)) fun z1=>
 .bnd (jD N ([60,36,49,62] :List UInt8) ([97,98,99] :List UInt8) z1.2.1) fun z2=>
 .cond (z1.2.2==0)
 (
  .cond (z1.1)
  (
   .bnd (gZ N z1.2.1 ([([98] :List UInt8)] :List (List UInt8))) fun z3=>
   .cond (z3)
   (
    .cond (z2.2==0)
    (
     Ea (decide (z2.1=([60,98,62] :List UInt8))))
    (
     Ea false))
   (
    Ea false))
  (
   Ea false))
 (
  Ea false)) (by kernel_rfl) (by kernel_rfl) h (fun _=>fun _=>⟨⟨fun _=>⟨⟨aO (enc:=qH) rfl,aO (enc:=qH) rfl⟩,aO (enc:=qH) rfl⟩,aO (enc:=qH) rfl⟩,aO (enc:=qH) rfl⟩)
theorem s8{N:Nat}{r:Bool}(h:fT N=some r)(ρ:Rn):aE Try.prog 11 (([] :List (TV EE.T)).map (TV.to EE.toEnc ρ)) [] (fun out H=>out=.ret ((jX r).to EE.toEnc ρ)∧H=[]):=
 (rA (aa 0 Try.f11) 34 mixed (Rg N) Try.func11 (by kernel_rfl) rfl rfl rfl rfl (Qp h) ρ).mono fun out H h=>cx.ret rfl h
def jY(N:Nat):List (TV EE.T)→PV EE.T
 | [] =>.opt (fT N) jX
 |_=>.bad
theorem rV(N:Nat)(us:List (TV EE.T)):(jY N us).ok fun u=>∀ρ,aE Try.prog 11 (us.map (TV.to EE.toEnc ρ)) [] (fun out H=>out=.ret (u.to EE.toEnc ρ)∧H=[]):=by
 unfold jY
 split
 ·intro z hz ρ;exact s8 hz ρ
 ·trivial
set_option maxRecDepth 100000
def aP(N:Nat)(x1:UInt8)(y0:VReader):Option (Bool × VReader):=
 bif decide (y0.At < (y0.M.length:Int)) then
  (cg y0.M y0.At).bind fun z1=>
  some ((b2i z1)==(b2i x1),y0)
 else
  some (false,y0)
def au(N:Nat)(x1:UInt8)(y0:VReader):Option (Bool × VReader):=
 (aP N x1 y0).bind fun z1=>
 bif z1.1 then
  some (z1.1,({ M:=z1.2.M,At:=w64 (z1.2.At+1),Groups:=z1.2.Groups,F:=z1.2.F }:VReader))
 else
  some (z1.1,z1.2)
def fJ(N:Nat)(x0:UInt8):Option Bool:=
 bif decide ((b2i x0)≥(b2i 97)) then
  bif decide ((b2i x0)≤(b2i 122)) then
   some true
  else
   bif decide ((b2i x0)≥(b2i 65)) then
    bif decide ((b2i x0)≤(b2i 90)) then
     some true
    else
     some ((b2i x0)==(b2i 95))
   else
    some ((b2i x0)==(b2i 95))
 else
  bif decide ((b2i x0)≥(b2i 65)) then
   bif decide ((b2i x0)≤(b2i 90)) then
    some true
   else
    some ((b2i x0)==(b2i 95))
  else
   some ((b2i x0)==(b2i 95))
def dE(N:Nat)(x0:UInt8):Option Bool:=
 bif decide ((b2i x0)≥(b2i 48)) then
  some (decide ((b2i x0)≤(b2i 57)))
 else
  some false
def ah(N:Nat)(x1:Int)(x2:Int)(y0:VReader):Option VReader:=
 bif y0.F.Err==0 then
  some ({ M:=y0.M,At:=y0.At,Groups:=y0.Groups,F:=({ Err:=x1,At:=x2 }:VFault) }:VReader)
 else
  some y0
def fO(N:Nat)(x0:UInt8):Option (List Bool):=
 (uq 1 256 256).bind fun z1=>
 (dg z1.1 (b2i x0)).bind fun z2=>
 (gW (List.replicate z1.2 false) (0+z2) true).bind fun z3=>
 (un z1.1 z1.2 z3).bind fun z4=>
 some z4
def cm(N:Nat):Nat→(List UInt8)→Int→VReader→Option (Bool × VReader)
 |0,_,_,_=>none
 |n+1,x1,x5,Tc=>
  bif decide (x5 < (x1.length:Int)) then
   (cg x1 x5).bind fun z1=>
   (aP N z1 Tc).bind fun z2=>
   bif z2.1 then
    some (true,z2.2)
   else
    cm N n x1 (w64 (x5+1)) z2.2
  else
   some (false,Tc)
def aW(N:Nat)(x1:List UInt8)(y0:VReader):Option (Bool × VReader):=
 cm N N x1 0 y0
structure RecC4 where
 n:Nat
 k:(List (List VPiece))→Option (PR (Bool))
def jq(N:RecC4)(x0:List (List VPiece)):Option (PR (Bool)):=N.k x0
def bn(N:RecC4)(k6:(List (List VPiece))→Int→Bool→Int→Option (PR Bool))(k2:(List (List VPiece))→Int→Option (PR Bool))(n:Nat)(x0:List (List VPiece))(x3:Int)(x4:Bool)(x5:Int):Option (PR Bool):=
 k6 x0 x3 x4 (w64 (x5+1))
def aT(N:RecC4)(k2:(List (List VPiece))→Int→Option (PR Bool)):Nat→(List (List VPiece))→Int→Bool→Int→Option (PR Bool)
 |0,_,_,_,_=>none
 |n+1,x0,x3,x4,x5=>
  (cg x0 x3).bind fun z1=>
  bif decide (x5 < (z1.length:Int)) then
   (cg x0 x3).bind fun z2=>
   (cg z2 x5).bind fun z3=>
   bif x4 then
    bif (b2i z3.Sign)==(b2i 42) then
     bn N (aT N k2 n) k2 n x0 x3 true x5
    else
     bif (b2i z3.Sign)==(b2i 63) then
      bn N (aT N k2 n) k2 n x0 x3 true x5
     else
      bif z3.Group then
       (jq N z3.Rows).bind fun z4=>
       match z4 with
       |.pan vz4=>
        some (.pan vz4)
       |.ok z5=>
        bn N (aT N k2 n) k2 n x0 x3 z5 x5
      else
       bn N (aT N k2 n) k2 n x0 x3 false x5
   else
    bn N (aT N k2 n) k2 n x0 x3 false x5
  else
   bif x4 then
    some (.ok true)
   else
    k2 x0 (w64 (x3+1))
def bm(N:RecC4):Nat→(List (List VPiece))→Int→Option (PR Bool)
 |0,_,_=>none
 |n+1,x0,x3=>
  bif decide (x3 < (x0.length:Int)) then
   aT N (bm N n) n x0 x3 true 0
  else
   some (.ok false)
def f9(N:RecC4)(x0:List (List VPiece)):Option (PR Bool):=
 bm N N.n x0 0
def bo(n0:Nat):Nat→(List (List VPiece))→Option (PR (Bool))
 |0,_=>none
 |m+1,x0=>f9 ⟨n0,bo n0 m⟩ x0
def jo(N:Nat)(x0:List (List VPiece)):Option (PR (Bool)):=bo N N x0
structure RecC3 where
 n:Nat
 k:VReader→Option (PR ((List (List VPiece)) × VReader))
def iF(N:RecC3)(y0:VReader):Option (PR ((List (List VPiece)) × VReader)):=N.k y0
abbrev ai:=VPiece × VReader
def dk(N:RecC3):Nat→Nat→Nat→Int→Bool→(List Bool)→Int→(List (List VPiece))→UInt8→(List Bool)→VReader→Option (PR ai)
 |0,_,_,_,_,_,_,_,_,_,_=>none
 |n+1,x4_n,x4_c,x5,b2_0,b2_1,b2_2,b2_3,b2_4,b27,Tc=>
  bif decide (x5 < 256) then
   (dg x4_n x5).bind fun z28=>
   (gW b27 (0+z28) true).bind fun z29=>
   dk N n x4_n x4_c (w64 (x5+1)) b2_0 b2_1 b2_2 b2_3 b2_4 z29 Tc
  else
   (un x4_n x4_c b27).bind fun z30=>
   some (.ok ((VPiece.mk false z30 0 ([] :List (List VPiece)) 0),Tc))
def cq(N:RecC3)(n:Nat)(b2_0:Bool)(b2_1:List Bool)(b2_2:Int)(b2_3:List (List VPiece))(b2_4:UInt8)(Tc:VReader):Option (PR ai):=
 (cg Tc.M (w64 ((w64 (Tc.At+1)) - 1))).bind fun z31=>
 (fO N.n z31).bind fun z32=>
 some (.ok ((VPiece.mk false z32 0 ([] :List (List VPiece)) 0),({ M:=Tc.M,At:=w64 (Tc.At+1),Groups:=Tc.Groups,F:=Tc.F }:VReader)))
def bG(N:RecC3)(k19:Bool→Nat→Nat→Bool→Bool→(List Bool)→Int→(List (List VPiece))→UInt8→(List Bool)→VReader→Option (PR ai)):Nat→Bool→Nat→Nat→Int→Int→Bool→(List Bool)→Int→(List (List VPiece))→UInt8→(List Bool)→VReader→Option (PR ai)
 |0,_,_,_,_,_,_,_,_,_,_,_,_=>none
 |n+1,x6,x7_n,x7_c,x10,x11,b2_0,b2_1,b2_2,b2_3,b2_4,b117,Tc=>
  bif decide (x11≤x10) then
   (dg x7_n x11).bind fun z49=>
   (gW b117 (0+z49) true).bind fun z50=>
   bG N k19 n x6 x7_n x7_c x10 (w64 (x11+1)) b2_0 b2_1 b2_2 b2_3 b2_4 z50 Tc
  else
   k19 x6 x7_n x7_c false b2_0 b2_1 b2_2 b2_3 b2_4 b117 Tc
def dH(N:RecC3)(k19:Bool→Nat→Nat→Bool→Bool→(List Bool)→Int→(List (List VPiece))→UInt8→(List Bool)→VReader→Option (PR ai))(n:Nat)(x6:Bool)(x7_n:Nat)(x7_c:Nat)(x9:Int)(x10:Int)(b2_0:Bool)(b2_1:List Bool)(b2_2:Int)(b2_3:List (List VPiece))(b2_4:UInt8)(b117:List Bool)(Tc:VReader):Option (PR ai):=
 bG N k19 n x6 x7_n x7_c x10 x9 b2_0 b2_1 b2_2 b2_3 b2_4 b117 Tc
def cF(N:RecC3)(k19:Bool→Nat→Nat→Bool→Bool→(List Bool)→Int→(List (List VPiece))→UInt8→(List Bool)→VReader→Option (PR ai))(n:Nat)(x6:Bool)(x7_n:Nat)(x7_c:Nat)(b2_0:Bool)(b2_1:List Bool)(b2_2:Int)(b2_3:List (List VPiece))(b2_4:UInt8)(b117:List Bool)(Tc:VReader):Option (PR ai):=
 bif Tc.At==(Tc.M.length:Int) then
  (ah N.n 1 Tc.At Tc).bind fun z34=>
  some (.ok ((VPiece.mk false ([] :List Bool) 0 ([] :List (List VPiece)) 0),z34))
 else
  (aW N.n ([91,93,92,94,45] :List UInt8) Tc).bind fun z35=>
  bif z35.1 then
   (ah N.n 1 z35.2.At z35.2).bind fun z36=>
   some (.ok ((VPiece.mk false ([] :List Bool) 0 ([] :List (List VPiece)) 0),z36))
  else
   (cg z35.2.M z35.2.At).bind fun z37=>
   (au N.n 45 ({ M:=z35.2.M,At:=w64 (z35.2.At+1),Groups:=z35.2.Groups,F:=z35.2.F }:VReader)).bind fun z38=>
   bif z38.1 then
    bif z38.2.At==(z38.2.M.length:Int) then
     (ah N.n 1 z38.2.At z38.2).bind fun z39=>
     some (.ok ((VPiece.mk false ([] :List Bool) 0 ([] :List (List VPiece)) 0),z39))
    else
     (aW N.n ([91,93,92,94,45] :List UInt8) z38.2).bind fun z40=>
     bif z40.1 then
      (ah N.n 1 z40.2.At z40.2).bind fun z41=>
      some (.ok ((VPiece.mk false ([] :List Bool) 0 ([] :List (List VPiece)) 0),z41))
     else
      (cg z40.2.M z40.2.At).bind fun z42=>
      bif decide ((w64 (b2i z42)) < (w64 (b2i z37))) then
       (ah N.n 3 z40.2.At z40.2).bind fun z43=>
       some (.ok ((VPiece.mk false ([] :List Bool) 0 ([] :List (List VPiece)) 0),z43))
      else
       dH N k19 n x6 x7_n x7_c (w64 (b2i z37)) (w64 (b2i z42)) b2_0 b2_1 b2_2 b2_3 b2_4 b117 ({ M:=z40.2.M,At:=w64 (z40.2.At+1),Groups:=z40.2.Groups,F:=z40.2.F }:VReader)
   else
    dH N k19 n x6 x7_n x7_c (w64 (b2i z37)) (w64 (b2i z37)) b2_0 b2_1 b2_2 b2_3 b2_4 b117 z38.2
def bZ(N:RecC3):Nat→Bool→Nat→Nat→Int→Bool→(List Bool)→Int→(List (List VPiece))→UInt8→(List Bool)→VReader→Option (PR ai)
 |0,_,_,_,_,_,_,_,_,_,_,_=>none
 |n+1,x6,x7_n,x7_c,x12,b2_0,b2_1,b2_2,b2_3,b2_4,b117,Tc=>
  bif decide (x12 < 256) then
   (dg x7_n x12).bind fun z44=>
   (b117[0+z44]?).bind fun z45=>
   (dg x7_n x12).bind fun z46=>
   (gW b117 (0+z46) (!(z45==x6))).bind fun z47=>
   bZ N n x6 x7_n x7_c (w64 (x12+1)) b2_0 b2_1 b2_2 b2_3 b2_4 z47 Tc
  else
   (un x7_n x7_c b117).bind fun z48=>
   some (.ok ((VPiece.mk false z48 0 ([] :List (List VPiece)) 0),Tc))
def bf(N:RecC3):Nat→Bool→Nat→Nat→Bool→Bool→(List Bool)→Int→(List (List VPiece))→UInt8→(List Bool)→VReader→Option (PR ai)
 |0,_,_,_,_,_,_,_,_,_,_,_=>none
 |n+1,x6,x7_n,x7_c,x8,b2_0,b2_1,b2_2,b2_3,b2_4,b117,Tc=>
  bif x8 then
   cF N (bf N n) n x6 x7_n x7_c b2_0 b2_1 b2_2 b2_3 b2_4 b117 Tc
  else
   (au N.n 93 Tc).bind fun z33=>
   bif !z33.1 then
    cF N (bf N n) n x6 x7_n x7_c b2_0 b2_1 b2_2 b2_3 b2_4 b117 z33.2
   else
    bZ N n x6 x7_n x7_c 0 b2_0 b2_1 b2_2 b2_3 b2_4 b117 z33.2
def bw(N:RecC3)(y0:VReader):Option (PR ai):=
 (cg y0.M y0.At).bind fun z1=>
 (au N.n 46 y0).bind fun z2=>
 bif z2.1 then
  (uq 1 256 256).bind fun z3=>
  dk N N.n z3.1 z3.2 0 false ([] :List Bool) 0 ([] :List (List VPiece)) 0 (List.replicate z3.2 false) z2.2
 else
  (au N.n 92 z2.2).bind fun z4=>
  bif z4.1 then
   bif z4.2.At==(z4.2.M.length:Int) then
    (ah N.n 1 z4.2.At z4.2).bind fun z5=>
    some (.ok ((VPiece.mk false ([] :List Bool) 0 ([] :List (List VPiece)) 0),z5))
   else
    (cg z4.2.M z4.2.At).bind fun z6=>
    (fJ N.n z6).bind fun z7=>
    bif z7 then
     (cg z4.2.M z4.2.At).bind fun z8=>
     bif (b2i z8) != (b2i 95) then
      (ah N.n 1 z4.2.At z4.2).bind fun z9=>
      some (.ok ((VPiece.mk false ([] :List Bool) 0 ([] :List (List VPiece)) 0),z9))
     else
      (cg z4.2.M z4.2.At).bind fun z10=>
      (dE N.n z10).bind fun z11=>
      bif z11 then
       (ah N.n 1 z4.2.At z4.2).bind fun z12=>
       some (.ok ((VPiece.mk false ([] :List Bool) 0 ([] :List (List VPiece)) 0),z12))
      else
       cq N N.n false ([] :List Bool) 0 ([] :List (List VPiece)) 0 z4.2
    else
     (cg z4.2.M z4.2.At).bind fun z13=>
     (dE N.n z13).bind fun z14=>
     bif z14 then
      (ah N.n 1 z4.2.At z4.2).bind fun z15=>
      some (.ok ((VPiece.mk false ([] :List Bool) 0 ([] :List (List VPiece)) 0),z15))
     else
      cq N N.n false ([] :List Bool) 0 ([] :List (List VPiece)) 0 z4.2
  else
   (au N.n 91 z4.2).bind fun z16=>
   bif z16.1 then
    (au N.n 94 z16.2).bind fun z17=>
    (uq 1 256 256).bind fun z18=>
    bf N N.n z17.1 z18.1 z18.2 true false ([] :List Bool) 0 ([] :List (List VPiece)) 0 (List.replicate z18.2 false) z17.2
   else
    (aP N.n 40 z16.2).bind fun z19=>
    bif z19.1 then
     bif z19.2.Groups==9 then
      (ah N.n 2 z19.2.At z19.2).bind fun z20=>
      some (.ok ((VPiece.mk false ([] :List Bool) 0 ([] :List (List VPiece)) 0),z20))
     else
      (iF N ({ M:=z19.2.M,At:=w64 (z19.2.At+1),Groups:=w64 (z19.2.Groups+1),F:=z19.2.F }:VReader)).bind fun z21=>
      match z21 with
      |.pan vz21=>
       some (.pan vz21)
      |.ok z22=>
       bif z22.2.F.Err==0 then
        (au N.n 41 z22.2).bind fun z23=>
        bif !z23.1 then
         (ah N.n 1 z23.2.At z23.2).bind fun z24=>
         some (.ok ((VPiece.mk true ([] :List Bool) (w64 (z19.2.Groups+1)) z22.1 0),z24))
        else
         some (.ok ((VPiece.mk true ([] :List Bool) (w64 (z19.2.Groups+1)) z22.1 0),z23.2))
       else
        some (.ok ((VPiece.mk true ([] :List Bool) (w64 (z19.2.Groups+1)) z22.1 0),z22.2))
    else
     (aW N.n ([42,43,63,41,124,93] :List UInt8) z19.2).bind fun z25=>
     bif z25.1 then
      (ah N.n 1 z25.2.At z25.2).bind fun z26=>
      some (.ok ((VPiece.mk false ([] :List Bool) 0 ([] :List (List VPiece)) 0),z26))
     else
      (fO N.n z1).bind fun z27=>
      some (.ok ((VPiece.mk false z27 0 ([] :List (List VPiece)) 0),({ M:=z25.2.M,At:=w64 (z25.2.At+1),Groups:=z25.2.Groups,F:=z25.2.F }:VReader)))
abbrev ae:=(List (List VPiece)) × VReader
def aX(N:RecC3)(k4:(List (List VPiece))→(List VPiece)→VReader→Option (PR ae))(k2:(List (List VPiece))→VReader→Option (PR ae))(n:Nat)(x3:List (List VPiece))(x4:List VPiece)(b5:VPiece)(Tc:VReader):Option (PR ae):=
 (g9 72 x4 ([(VPiece.mk b5.Group b5.Set b5.Number b5.Rows b5.Sign)] :List VPiece)).bind fun z11=>
 k4 x3 z11 Tc
def aF(N:RecC3)(k4:(List (List VPiece))→(List VPiece)→VReader→Option (PR ae))(k2:(List (List VPiece))→VReader→Option (PR ae))(n:Nat)(x3:List (List VPiece))(x4:List VPiece)(b5:VPiece)(Tc:VReader):Option (PR ae):=
 (cg Tc.M Tc.At).bind fun z10=>
 aX N k4 k2 n x3 x4 (VPiece.mk b5.Group b5.Set b5.Number b5.Rows z10) ({ M:=Tc.M,At:=w64 (Tc.At+1),Groups:=Tc.Groups,F:=Tc.F }:VReader)
def aY(N:RecC3)(k2:(List (List VPiece))→VReader→Option (PR ae))(n:Nat)(x3:List (List VPiece))(x4:List VPiece)(Tc:VReader):Option (PR ae):=
 (g9 24 x3 ([x4] :List (List VPiece))).bind fun z12=>
 (au N.n 124 Tc).bind fun z13=>
 bif !z13.1 then
  some (.ok (z12,z13.2))
 else
  k2 z12 z13.2
def aA(N:RecC3)(k2:(List (List VPiece))→VReader→Option (PR ae)):Nat→(List (List VPiece))→(List VPiece)→VReader→Option (PR ae)
 |0,_,_,_=>none
 |n+1,x3,x4,Tc=>
  bif Tc.F.Err==0 then
   bif decide (Tc.At < (Tc.M.length:Int)) then
    (aP N.n 124 Tc).bind fun z1=>
    bif !z1.1 then
     (aP N.n 41 z1.2).bind fun z2=>
     bif !z2.1 then
      (bw N z2.2).bind fun z3=>
      match z3 with
      |.pan vz3=>
       some (.pan vz3)
      |.ok z4=>
       bif z4.2.F.Err==0 then
        (aW N.n ([42,43,63] :List UInt8) z4.2).bind fun z5=>
        bif z5.1 then
         bif z4.1.Group then
          (aP N.n 63 z5.2).bind fun z6=>
          bif !z6.1 then
           (jo N.n z4.1.Rows).bind fun z7=>
           match z7 with
           |.pan vz7=>
            some (.pan vz7)
           |.ok z8=>
            bif z8 then
             (ah N.n 4 z6.2.At z6.2).bind fun z9=>
             aF N (aA N k2 n) k2 n x3 x4 (VPiece.mk z4.1.Group z4.1.Set z4.1.Number z4.1.Rows z4.1.Sign) z9
            else
             aF N (aA N k2 n) k2 n x3 x4 (VPiece.mk z4.1.Group z4.1.Set z4.1.Number z4.1.Rows z4.1.Sign) z6.2
          else
           aF N (aA N k2 n) k2 n x3 x4 (VPiece.mk z4.1.Group z4.1.Set z4.1.Number z4.1.Rows z4.1.Sign) z6.2
         else
          aF N (aA N k2 n) k2 n x3 x4 (VPiece.mk z4.1.Group z4.1.Set z4.1.Number z4.1.Rows z4.1.Sign) z5.2
        else
         aX N (aA N k2 n) k2 n x3 x4 (VPiece.mk z4.1.Group z4.1.Set z4.1.Number z4.1.Rows z4.1.Sign) z5.2
       else
        aX N (aA N k2 n) k2 n x3 x4 (VPiece.mk z4.1.Group z4.1.Set z4.1.Number z4.1.Rows z4.1.Sign) z4.2
     else
      aY N k2 n x3 x4 z2.2
    else
     aY N k2 n x3 x4 z1.2
   else
    aY N k2 n x3 x4 Tc
  else
   aY N k2 n x3 x4 Tc
def bl(N:RecC3):Nat→(List (List VPiece))→VReader→Option (PR ae)
 |0,_,_=>none
 |n+1,x3,Tc=>
  bif Tc.F.Err==0 then
   aA N (bl N n) n x3 ([] :List VPiece) Tc
  else
   some (.ok (x3,Tc))
def fL(N:RecC3)(y0:VReader):Option (PR ae):=
 bl N N.n ([] :List (List VPiece)) y0
def ax(n0:Nat):Nat→VReader→Option (PR ((List (List VPiece)) × VReader))
 |0,_=>none
 |m+1,y0=>fL ⟨n0,ax n0 m⟩ y0
def lC(N:Nat)(y0:VReader):Option (PR ((List (List VPiece)) × VReader)):=ax N N y0
abbrev db:=(List (List VPiece)) × Int × VFault
def dp(N:Nat)(n:Nat)(x6:List (List VPiece))(b4:VFault)(b13:VReader):Option (PR db):=
 bif b13.F.Err != 0 then
  some (.ok (([] :List (List VPiece)),0,b13.F))
 else
  some (.ok (x6,b13.Groups,({ Err:=0,At:=0 }:VFault)))
def ie(N:Nat)(x0:List UInt8):Option (PR db):=
 bif decide ((x0.length:Int) > 60) then
  some (.ok (([] :List (List VPiece)),0,({ Err:=2,At:=0 }:VFault)))
 else
  (lC N ({ M:=x0,At:=0,Groups:=0,F:=({ Err:=0,At:=0 }:VFault) }:VReader)).bind fun z1=>
  match z1 with
  |.pan vz1=>
   some (.pan vz1)
  |.ok z2=>
   bif z2.2.F.Err==0 then
    bif decide (z2.2.At < (x0.length:Int)) then
     (ah N 1 z2.2.At z2.2).bind fun z3=>
     dp N N z2.1 ({ Err:=0,At:=0 }:VFault) z3
    else
     dp N N z2.1 ({ Err:=0,At:=0 }:VFault) z2.2
   else
    dp N N z2.1 ({ Err:=0,At:=0 }:VFault) z2.2
end Go.Proofs.Ytlhjbhgkhpbnfaa
