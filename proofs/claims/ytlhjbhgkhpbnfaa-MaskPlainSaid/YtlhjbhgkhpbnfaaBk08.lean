import Derived.Test.YtlhjbhgkhpbnfaaBk07
import Derived.ProofKit
import Derived.OpenShut
import Derived.Deep.Slices
import Derived.Test.YtlhjbhgkhpbnfaaRows
import Derived.WalkKit
import Derived.WalkSpells
import Derived.WalkLawsBesides
import Derived.Lib.VarintBits
import Derived.Lib.BufferRead
import Derived.Lib.Hide
set_option linter.unusedSimpArgs false
set_option linter.unusedVariables false
namespace Go.Proofs.Ytlhjbhgkhpbnfaa
open Go.RowKit P
set_option linter.unusedVariables false
set_option linter.unusedSimpArgs false
set_option maxRecDepth 1000000
theorem tO(xn:Nat)(t:Vthread)(p:Int)(M:VMask)(l:List Vthread)(met:List (Int × Bool)):bR 3000 xn t p M l met=cy ⟨3000,cG 3000 2999⟩ xn t p M l met:=by kernel_rfl
theorem DR(k xn:Nat)(t:Vthread)(p:Int)(M:VMask)(l:List Vthread)(met:List (Int × Bool)):cG 3000 (k+1) xn t p M l met=cy ⟨3000,cG 3000 k⟩ xn t p M l met:=rfl
theorem sS{q:RecC2}{M:VMask}{t:Vthread}{s:Vstep}{met:List (Int × Bool)}(hm:jv met t.at_=none)(hs:ap M.steps t.at_=some s)(hk:s.kind=0∨s.kind=4)(p:Int):cy q 0 t p M [] met=some (.ok (1,M,[t],aE met t.at_ true)):=by
 unfold cy
 rw [hm,hs,Option.bind_some]
 show ae q q.n 0 p t s M _ [] =_
 unfold ae
 have h2:(s.kind==2)=false:=beq_eq_false_iff_ne.2 (by rcases hk with h|h<;> omega)
 have h1:(s.kind==1)=false:=beq_eq_false_iff_ne.2 (by rcases hk with h|h<;> omega)
 have h3:(s.kind==3)=false:=beq_eq_false_iff_ne.2 (by rcases hk with h|h<;> omega)
 rw [h2,h1,h3]
 rfl
theorem DE{M:VMask}{t:Vthread}{s:Vstep}(hs:ap M.steps t.at_=some s)(hk:s.kind=0∨s.kind=4)(p:Int):cL 3000 t p M [] =some (.ok (1,M,[(t.at_,true)],[t])):=by
 unfold cL
 show((ap M.steps t.at_).bind _)=_
 rw [hs,Option.bind_some]
 unfold ah
 have h2:(s.kind==2)=false:=beq_eq_false_iff_ne.2 (by rcases hk with h|h<;> omega)
 have h1:(s.kind==1)=false:=beq_eq_false_iff_ne.2 (by rcases hk with h|h<;> omega)
 have h3:(s.kind==3)=false:=beq_eq_false_iff_ne.2 (by rcases hk with h|h<;> omega)
 rw [h2,h1,h3]
 rfl
abbrev El:=(List UInt8)→Nat→Int→Int→VMask→(List Vthread)→Option (PR ay)
theorem qq{k4:El}{n:Nat}{x1:List UInt8}{i x30 x31:Int}{M:VMask}{t:Vthread}{l:List Vthread}{nn:Nat}{met:List (Int × Bool)}:cj 3000 (aa 3000 k4 (n+1)) k4 (n+1) x1 i nn x30 x31 1 1 0 met M [t] l=k4 x1 nn x30 (w64 (x31+1)) M l:=by kernel_rfl
theorem Az{k4:El}{n:Nat}{x1:List UInt8}{i x30 x31:Int}{M:VMask}:aa 3000 k4 (n+1) x1 i 0 x30 x31 0 0 0 [] M [] [] =k4 x1 0 x30 (w64 (x31+1)) M [] :=by
 rw [aa]
 rfl
theorem vJ{k4:El}{n:Nat}{x1:List UInt8}{i x30 x31:Int}{M:VMask}{t:Vthread}{S:List Bool}{b:UInt8}(hs:ap M.steps t.at_=some ⟨0,0,0,some S⟩)(hi:ap x1 i=some b)(hb:xi 256 (some S) (b2i b)=some true){nn:Nat}{l:List Vthread}{met:List (Int × Bool)}
  (ha:bR 3000 0 ⟨w64 (t.at_+1),t.slots⟩ (w64 (i+1)) M [] [] =some (.ok (nn,M,l,met))):aa 3000 k4 (n+2) x1 i 0 x30 x31 1 1 0 [] M [t] [] =k4 x1 nn x30 (w64 (x31+1)) M l:=by
 have h1:aa 3000 k4 (n+2) x1 i 0 x30 x31 1 1 0 [] M [t] [] =(ap M.steps t.at_).bind fun s=>ab 3000 (aa 3000 k4 (n+1)) k4 (n+1) x1 i 0 x30 x31 1 1 0 t s [] M [t] [] :=by kernel_rfl
 rw [h1,hs,Option.bind_some]
 unfold ab
 show((ap x1 i).bind _)=_
 rw [hi,Option.bind_some,Option.bind_some,hb,Option.bind_some,cond_true,ha,Option.bind_some]
 exact qq
theorem A3{k4:El}{n:Nat}{x1:List UInt8}{i x30 x31:Int}{M:VMask}{t:Vthread}{S:List Bool}{b:UInt8}(hs:ap M.steps t.at_=some ⟨0,0,0,some S⟩)(hi:ap x1 i=some b)(hb:xi 256 (some S) (b2i b)=some false):aa 3000 k4 (n+2) x1 i 0 x30 x31 1 1 0 [] M [t] [] =k4 x1 0 x30 (w64 (x31+1)) M [] :=by
 have h1:aa 3000 k4 (n+2) x1 i 0 x30 x31 1 1 0 [] M [t] [] =(ap M.steps t.at_).bind fun s=>ab 3000 (aa 3000 k4 (n+1)) k4 (n+1) x1 i 0 x30 x31 1 1 0 t s [] M [t] [] :=by kernel_rfl
 rw [h1,hs,Option.bind_some]
 unfold ab
 show((ap x1 i).bind _)=_
 rw [hi,Option.bind_some,Option.bind_some,hb,Option.bind_some,cond_false]
 exact qq
theorem A4{k4:El}{n:Nat}{x1:List UInt8}{i x30 x31:Int}{M:VMask}{t:Vthread}(hs:ap M.steps t.at_=some ⟨4,0,0,none⟩):aa 3000 k4 (n+2) x1 i 0 x30 x31 1 1 0 [] M [t] [] =k4 x1 0 x30 (w64 (x31+1)) M [] :=by
 have h1:aa 3000 k4 (n+2) x1 i 0 x30 x31 1 1 0 [] M [t] [] =(ap M.steps t.at_).bind fun s=>ab 3000 (aa 3000 k4 (n+1)) k4 (n+1) x1 i 0 x30 x31 1 1 0 t s [] M [t] [] :=by kernel_rfl
 rw [h1,hs,Option.bind_some]
 unfold ab
 exact qq
theorem DF(n:Nat)(s:List UInt8)(M:VMask):bk 3000 (n+1) s 0 0 0 M [] =some (.ok (false,[],M)):=by
 rw [bk]
 rfl
theorem zL(n:Nat)(s:List UInt8){M:VMask}{t:Vthread}{st:Vstep}(hs:ap M.steps t.at_=some st):bk 3000 (n+2) s 1 1 0 M [t] =bif st.kind==4 then((bD 3000 s t.slots M).bind fun z=>some (.ok (true,z.1,z.2))) else some (.ok (false,[],M)):=by
 have h1:bk 3000 (n+2) s 1 1 0 M [t] =(ap M.steps t.at_).bind fun st=>bif st.kind==4 then((bD 3000 s t.slots M).bind fun z=>some (.ok (true,z.1,z.2))) else some (.ok (false,[],M)):=by kernel_rfl
 rw [h1,hs,Option.bind_some]
theorem we(n:Nat)(s:List UInt8)(c:Nat)(x30 x31:Int)(M:VMask)(l:List Vthread):bN 3000 (n+1) s c x30 x31 M l=bif decide (x31 < x30) then aa 3000 (bN 3000 n) n s x31 0 x30 x31 c (c:Int) 0 [] M l [] else bk 3000 n s c (c:Int) 0 M l:=rfl
theorem qw{M:VMask}{s:List UInt8}(hl:s.length≤2000):∀ (d i n:Nat),i+d=s.length→d+3≤n→bN 3000 n s 0 (s.length:Int) (i:Int) M [] =some (.ok (false,[],M))
 |0,i,n,hi,hn=>by
  obtain⟨k,rfl⟩:∃k,n=k+2:=⟨n - 2,by omega⟩
  rw [we,decide_eq_false (by omega),cond_false]
  exact DF k s M
 |d+1,i,n,hi,hn=>by
  obtain⟨k,rfl⟩:∃k,n=k+2:=⟨n - 2,by omega⟩
  rw [we,decide_eq_true (by omega),cond_true]
  show aa 3000 _ (k+1) s i 0 _ _ 0 0 0 [] M [] [] =_
  rw [Az,fk (by omega)]
  exact qw hl d (i+1) (k+1) (by omega) (by omega)
theorem wT{ks:List Nat}{i:Nat}{k:Nat}(h:ks[i]? =some k):ap (fi ks).steps ((i:Nat):Int)=some (tk k):=by
 have hl:=(List.getElem?_eq_some_iff.1 h).1
 rw [gk]
 show(ks.map tk++_)[i]? =_
 rw [List.getElem?_append_left (by simpa using hl),List.getElem?_map,h]
 rfl
theorem sF(ks:List Nat):ap (fi ks).steps ((ks.length:Nat):Int)=some ⟨4,0,0,none⟩:=by
 rw [gk]
 show(ks.map tk++_)[ks.length]? =_
 rw [List.getElem?_append_right (by simp)]
 simp
theorem s9{ks:List Nat}{i:Nat}(h:i≤ks.length):∃s,ap (fi ks).steps ((i:Nat):Int)=some s∧(s.kind=0∨s.kind=4):=by
 by_cases h':i < ks.length
 ·exact⟨_,wT (List.getElem?_eq_getElem h'),.inl rfl⟩
 ·have:i=ks.length:=by omega
  subst this
  exact⟨_,sF ks,.inr rfl⟩
theorem J9{js:List Nat}{i j:Nat}(h:js[i]? =some j):ap (wd js) (i:Int)=some (d9 j):=by
 rw [gk]
 show(js.map d9)[i]? =_
 rw [List.getElem?_map,h]
 rfl
theorem GS(s:List UInt8)(ks:List Nat):bD 3000 s [-1,-1] (fi ks)=some ([],fi ks):=by kernel_rfl
theorem q8{ks js:List Nat}(hk:∀k∈ks,k < 26)(hj:∀k∈js,k < 26)(hkl:ks.length≤40)(hjl:js.length≤40):∀ (d i n:Nat),i+d=js.length→i≤ks.length→d+3≤n→js.take i=ks.take i→
  bN 3000 n (wd js) 1 ((wd js).length:Int) (i:Int) (fi ks) [⟨(i:Int),[-1,-1]⟩] =some (.ok (decide (js=ks),[],fi ks))
 |0,i,n,hi,hik,hn,ht=>by
  obtain⟨k,rfl⟩:∃k,n=k+3:=⟨n - 3,by omega⟩
  have hw:(wd js).length=js.length:=by simp [wd]
  rw [we,decide_eq_false (by omega),cond_false]
  show bk 3000 (k+2) (wd js) 1 1 0 _ _=_
  obtain⟨s,hs,hkd⟩:=s9 (ks:=ks) (i:=i) (by omega)
  have e1:js.take i=js:=List.take_of_length_le (by omega)
  rw [zL _ _ hs]
  by_cases h':i < ks.length
  ·have hs':=wT (ks:=ks) (i:=i) (List.getElem?_eq_getElem h')
   rw [hs] at hs'
   cases hs'
   have hne:js≠ks:=fun e=>by rw [e] at hi;omega
   rw [decide_eq_false hne]
   rfl
  ·have e2:i=ks.length:=by omega
   have hs':=sF ks
   rw [← e2,hs] at hs'
   cases hs'
   have he:js=ks:=by rw [← e1,ht,List.take_of_length_le (by omega)]
   rw [decide_eq_true he]
   rw [show((4:Int)==4)=true from rfl,cond_true]
   dsimp only
   rw [GS]
   rfl
 |d+1,i,n,hi,hik,hn,ht=>by
  obtain⟨q,rfl⟩:∃k,n=k+3:=⟨n - 3,by omega⟩
  have hw:(wd js).length=js.length:=by simp [wd]
  rw [we,decide_eq_true (by omega),cond_true]
  show aa 3000 _ (q+2) (wd js) (i:Int) 0 _ _ 1 1 0 [] _ _ [] =_
  have hij:i < js.length:=by omega
  have ej:=List.getElem?_eq_getElem hij
  have hib:=J9 ej
  have hj':=hj _ (List.getElem_mem hij)
  by_cases h':i < ks.length
  ·have ek:=List.getElem?_eq_getElem h'
   have hs:=wT ek
   have hk':=hk _ (List.getElem_mem h')
   by_cases heq:ks[i] =js[i]
   ·have hb:=Gj hk' hj'
    rw [beq_iff_eq.2 heq] at hb
    obtain⟨s2,hs2,hkd2⟩:=s9 (ks:=ks) (i:=i+1) (by omega)
    have ha:=tO 0 ⟨((i+1:Nat):Int),[-1,-1]⟩ (w64 ((i:Int)+1)) (fi ks) [] []
    rw [sS rfl hs2 hkd2] at ha
    rw [vJ (t:=⟨(i:Int),[-1,-1]⟩) hs hib hb (by rw [fk (by omega)] at ha ⊢;exact ha),fk (by omega)]
    refine q8 hk hj hkl hjl d (i+1) (q+2) (by omega) (by omega) (by omega) ?_
    rw [List.take_add_one,List.take_add_one,ht,ej,ek,heq]
   ·have hb:=Gj hk' hj'
    rw [beq_eq_false_iff_ne.2 heq] at hb
    have hne:js≠ks:=fun e=>heq (by subst e;rfl)
    rw [A3 (t:=⟨(i:Int),[-1,-1]⟩) hs hib hb,fk (by omega),decide_eq_false hne]
    exact qw (by omega) d (i+1) (q+2) (by omega) (by omega)
  ·have e2:i=ks.length:=by omega
   have hs:=sF ks
   rw [← e2] at hs
   have hne:js≠ks:=fun e=>by rw [e] at hij;omega
   rw [A4 (t:=⟨(i:Int),[-1,-1]⟩) hs,fk (by omega),decide_eq_false hne]
   exact qw (by omega) d (i+1) (q+2) (by omega) (by omega)
theorem uv{ks js:List Nat}(hk:∀k∈ks,k < 26)(hj:∀k∈js,k < 26)(hkl:ks.length≤40)(hjl:js.length≤40):dE 3000 (wd ks) (wd js)=some (decide (js=ks),[],0):=by
 have hw:(wd js).length=js.length:=by simp [wd]
 unfold dE
 rw [KZ ks hk hkl]
 show(if 2000 < _ then _ else _)=_
 rw [if_neg (by omega)]
 have hf:cK 3000 (wd js) (fi ks)=some (.ok (decide (js=ks),[],fi ks)):=by
  unfold cK
  have hr:ij 3000 ([-1] :List Int) (w64 (w64 (2 * (fi ks).Groups)+2))=some [-1,-1] :=by kernel_rfl
  obtain⟨s,hs,hkd⟩:=s9 (ks:=ks) (i:=0) (by omega)
  rw [hr,Option.bind_some,DE (t:=⟨0,[-1,-1]⟩) hs hkd,Option.bind_some]
  exact q8 hk hj hkl hjl js.length 0 3000 (by omega) (by omega) (by omega) rfl
 rw [hf]
theorem zU{ks:List Nat}{i:Nat}{k:Nat}(h:ks[i]? =some k):ap (dD ks).steps ((i+1:Nat):Int)=some (tk k):=by
 have hl:=(List.getElem?_eq_some_iff.1 h).1
 rw [gk]
 show(_::(ks.map tk++_))[i+1]? =_
 rw [List.getElem?_cons_succ,List.getElem?_append_left (by simpa using hl),List.getElem?_map,h]
 rfl
theorem Bg(ks:List Nat):ap (dD ks).steps ((ks.length+1:Nat):Int)=some ⟨3,3,0,none⟩:=by
 rw [gk]
 show(_::(ks.map tk++_))[ks.length+1]? =_
 rw [List.getElem?_cons_succ,List.getElem?_append_right (by simp)]
 simp
theorem v6(ks:List Nat):ap (dD ks).steps ((ks.length+2:Nat):Int)=some ⟨4,0,0,none⟩:=by
 rw [gk]
 show(_::(ks.map tk++_))[ks.length+1+1]? =_
 rw [List.getElem?_cons_succ,List.getElem?_append_right (by simp)]
 simp
def xY(ks:List Nat)(i:Nat):Vthread:=if i < ks.length then⟨((i+1:Nat):Int),[-1,-1,0,-1]⟩ else⟨((ks.length+2:Nat):Int),[-1,-1,0,(ks.length:Int)]⟩
theorem t6{k k':Int}(h:k≠k'):∀ (met:List (Int × Bool)),jv met k'=none→jv (aE met k true) k'=none
 | [],_=>by
   rw [aE,jv,if_neg (fun e=>h e.symm),jv]
 | (a,b)::r,hm=>by
   rw [jv] at hm
   by_cases ha:k'=a
   ·rw [if_pos ha] at hm;cases hm
   ·rw [if_neg ha] at hm
    rw [aE]
    by_cases hb:k=a
    ·rw [if_pos hb,jv,if_neg (fun e=>h e.symm)];exact hm
    ·rw [if_neg hb,jv,if_neg ha];exact t6 h r hm
theorem LN{ks:List Nat}{i:Nat}(hkl:ks.length≤40)(h:i≤ks.length)(k:Nat)(met:List (Int × Bool))(h1:jv met ((i+1:Nat):Int)=none)(h2:jv met ((ks.length+2:Nat):Int)=none):
  ∃met',cy ⟨3000,cG 3000 (k+1)⟩ 0 ⟨((i+1:Nat):Int),[-1,-1,0,-1]⟩ (i:Int) (dD ks) [] met=some (.ok (1,dD ks,[xY ks i],met')):=by
 by_cases h':i < ks.length
 ·refine⟨aE met ((i+1:Nat):Int) true,?_⟩
  unfold xY
  rw [if_pos h']
  exact sS (t:=⟨((i+1:Nat):Int),[-1,-1,0,-1]⟩) h1 (zU (List.getElem?_eq_getElem h')) (.inl rfl) _
 ·have e:i=ks.length:=by omega
  subst e
  unfold xY
  rw [if_neg h']
  refine⟨aE (aE met ((ks.length+1:Nat):Int) true) ((ks.length+2:Nat):Int) true,?_⟩
  unfold cy
  rw [h1,Bg ks,Option.bind_some]
  show(((cG 3000 (k+1) 0 ⟨w64 (((ks.length+1:Nat):Int)+1),[-1,-1,0,(ks.length:Int)]⟩ (ks.length:Int) (dD ks) [] (aE met ((ks.length+1:Nat):Int) true))).bind _)=_
  rw [DR]
  have hw:w64 (((ks.length+1:Nat):Int)+1)=((ks.length+2:Nat):Int):=fk (by omega)
  rw [hw,sS (t:=⟨((ks.length+2:Nat):Int),[-1,-1,0,(ks.length:Int)]⟩) (t6 (k:=((ks.length+1:Nat):Int)) (k':=((ks.length+2:Nat):Int)) (by omega) _ h2) (v6 ks) (.inr rfl)]
  rfl
theorem Ep(ks:List Nat)(s:List UInt8)(hs:s.length=ks.length)(hl:s.length≤40):bD 3000 s [-1,-1,0,(ks.length:Int)] (dD ks)=some ([s],dD ks):=by
 have h1:bD 3000 s [-1,-1,0,(ks.length:Int)] (dD ks)=bif decide ((ks.length:Int)≥0) then(kn s 0 (ks.length:Int)).bind fun z=>br 3000 (bg 3000 2999) 2999 s [-1,-1,0,(ks.length:Int)] [] 1 z (dD ks) else br 3000 (bg 3000 2999) 2999 s [-1,-1,0,(ks.length:Int)] [] 1 [] (dD ks):=by kernel_rfl
 have h2:kn s 0 (ks.length:Int)=some s:=by
  unfold kn
  rw [if_pos (by omega)]
  simp [← hs]
 have h3:br 3000 (bg 3000 2999) 2999 s [-1,-1,0,(ks.length:Int)] [] 1 s (dD ks)=some ([s],dD ks):=by kernel_rfl
 rw [h1,decide_eq_true (by omega),cond_true,h2,Option.bind_some,h3]
theorem u6{ks:List Nat}(hk:∀k∈ks,k < 26)(hkl:ks.length≤40):∀ (d i n:Nat),i+d=ks.length→d+3≤n→
  bN 3000 n (wd ks) 1 ((wd ks).length:Int) (i:Int) (dD ks) [xY ks i] =some (.ok (true,[wd ks],dD ks))
 |0,i,n,hi,hn=>by
  obtain⟨k,rfl⟩:∃k,n=k+3:=⟨n - 3,by omega⟩
  have hw:(wd ks).length=ks.length:=by simp [wd]
  rw [we,decide_eq_false (by omega),cond_false]
  show bk 3000 (k+2) (wd ks) 1 1 0 _ _=_
  have hg:xY ks i=⟨((ks.length+2:Nat):Int),[-1,-1,0,(ks.length:Int)]⟩:=by unfold xY;rw [if_neg (by omega)]
  rw [hg,zL (t:=⟨((ks.length+2:Nat):Int),[-1,-1,0,(ks.length:Int)]⟩) _ _ (v6 ks)]
  show((bD 3000 (wd ks) [-1,-1,0,(ks.length:Int)] (dD ks)).bind _)=_
  rw [Ep ks (wd ks) hw (by omega)]
  rfl
 |d+1,i,n,hi,hn=>by
  obtain⟨q,rfl⟩:∃k,n=k+3:=⟨n - 3,by omega⟩
  have hw:(wd ks).length=ks.length:=by simp [wd]
  rw [we,decide_eq_true (by omega),cond_true]
  show aa 3000 _ (q+2) (wd ks) (i:Int) 0 _ _ 1 1 0 [] _ _ [] =_
  have h':i < ks.length:=by omega
  have ek:=List.getElem?_eq_getElem h'
  have hk':=hk _ (List.getElem_mem h')
  have hb:=Gj hk' hk'
  rw [beq_iff_eq.2 rfl] at hb
  have hg:xY ks i=⟨((i+1:Nat):Int),[-1,-1,0,-1]⟩:=by unfold xY;rw [if_pos (by omega)]
  obtain⟨met',hm⟩:=LN (ks:=ks) (i:=i+1) hkl (by omega) 2998 [] rfl rfl
  have ha:=tO 0 ⟨((i+1+1:Nat):Int),[-1,-1,0,-1]⟩ ((i+1:Nat):Int) (dD ks) [] []
  rw [hm] at ha
  rw [hg,vJ (t:=⟨((i+1:Nat):Int),[-1,-1,0,-1]⟩) (zU ek) (J9 ek) hb (by rw [fk (by omega),fk (by omega)];exact ha),fk (by omega)]
  exact u6 hk hkl d (i+1) (q+2) (by omega) (by omega)
theorem zh{ks:List Nat}(hk:∀k∈ks,k < 26)(hkl:ks.length≤40):dE 3000 (40::(wd ks++ [41])) (wd ks)=some (true,[wd ks],0):=by
 have hw:(wd ks).length=ks.length:=by simp [wd]
 unfold dE
 rw [IS ks hk hkl]
 show(if 2000 < _ then _ else _)=_
 rw [if_neg (by omega)]
 have hf:cK 3000 (wd ks) (dD ks)=some (.ok (true,[wd ks],dD ks)):=by
  unfold cK
  have hr:ij 3000 ([-1] :List Int) (w64 (w64 (2 * (dD ks).Groups)+2))=some [-1,-1,-1,-1] :=by kernel_rfl
  obtain⟨met',hm⟩:=LN (ks:=ks) (i:=0) hkl (by omega) 2998 [(0,true)] rfl (by rw [jv,if_neg (by omega)];rfl)
  have ha:=tO 0 ⟨((0+1:Nat):Int),[-1,-1,0,-1]⟩ ((0:Nat):Int) (dD ks) [] [(0,true)]
  rw [hm] at ha
  have h6:cL 3000 ⟨0,[-1,-1,-1,-1]⟩ 0 (dD ks) [] =some (.ok (1,dD ks,met',[xY ks 0])):=by
   have h7:cL 3000 ⟨0,[-1,-1,-1,-1]⟩ 0 (dD ks) [] =(bR 3000 0 ⟨((0+1:Nat):Int),[-1,-1,0,-1]⟩ ((0:Nat):Int) (dD ks) [] [(0,true)]).bind fun z132=>
     match z132 with
     |.pan vz132=>some (.pan vz132)
     |.ok z133=>some (.ok (z133.1,z133.2.1,z133.2.2.2,z133.2.2.1)):=by kernel_rfl
   rw [h7,ha]
   rfl
  rw [hr,Option.bind_some,h6,Option.bind_some]
  exact u6 hk hkl ks.length 0 3000 (by omega) (by omega)
 rw [hf]
theorem yb{x:List Int}(hx:∀y∈x,-9223372036854775808≤y∧y≤9223372036854775807):∀ (d i n:Nat) (ks:List Nat),i+d=40→ks.length=i→i≤x.length→d+2≤n→(∀k∈ks,k < 26)→∃js,(∀k∈js,k < 26)∧js.length≤40∧cr 3000 n x (wd ks) (i:Int)=some (wd js)
 |0,i,n,ks,hi,hl,hxl,hn,hk=>by
  obtain⟨q,rfl⟩:∃q,n=q+1:=⟨n - 1,by omega⟩
  refine⟨ks,hk,by omega,?_⟩
  rw [cr,show decide ((i:Int) < 40)=false from decide_eq_false (by omega)]
  cases decide ((i:Int) < (x.length:Int))<;> rfl
 |d+1,i,n,ks,hi,hl,hxl,hn,hk=>by
  obtain⟨q,rfl⟩:∃q,n=q+1:=⟨n - 1,by omega⟩
  by_cases h:i < x.length
  ·have ex:=List.getElem?_eq_getElem h
   obtain⟨z,ez,a,b⟩:=CG (hx _ (List.getElem_mem h)) (m:=26) (by omega) 3000
   obtain⟨el,hz⟩:=Br a b
   obtain⟨js,h1,h2,h3⟩:=yb hx d (i+1) q (ks++ [z.toNat]) (by omega) (by simp;omega) (by omega) (by omega) (fun k hk'=>by
    rcases List.mem_append.1 hk' with h'|h'
    ·exact hk k h'
    ·simp at h';omega)
   refine⟨js,h1,h2,?_⟩
   have hc:nW (wd ks) [d9 z.toNat] =some (wd (ks++ [z.toNat])):=by
    unfold nW
    rw [if_pos (by simp [wd];omega)]
    simp [wd]
   rw [cr,decide_eq_true (by omega),cond_true,decide_eq_true (by omega),cond_true,gk,ex,Option.bind_some,ez,Option.bind_some,el,hc,Option.bind_some,fk (by omega)]
   exact h3
  ·refine⟨ks,hk,by omega,?_⟩
   rw [cr,decide_eq_false (by omega),cond_false]
theorem A0{a b:Nat}(ha:a < 26)(hb:b < 26)(h:d9 a=d9 b):a=b:=by
 have h1:=GI ha
 rw [h,GI hb] at h1
 omega
theorem Hz:∀ {ks js:List Nat},(∀k∈ks,k < 26)→(∀k∈js,k < 26)→wd ks=wd js→ks=js
 | [],[],_,_,_=>rfl
 | [],_::_,_,_,h=>by cases h
 |_::_,[],_,_,h=>by cases h
 |k::r,j::s,hk,hj,h=>by
  have h1:d9 k=d9 j:=(List.cons.inj h).1
  have h2:wd r=wd s:=(List.cons.inj h).2
  rw [A0 (hk k List.mem_cons_self) (hj j List.mem_cons_self) h1,Hz (fun x hx=>hk x (List.mem_cons_of_mem _ hx)) (fun x hx=>hj x (List.mem_cons_of_mem _ hx)) h2]
theorem Gt(s:List UInt8):dI 3000 [s] [s] =some true:=by
 have h1:dI 3000 [s] [s] =bif !decide (s=s) then some false else some true:=by kernel_rfl
 rw [h1,decide_eq_true rfl]
 rfl
theorem xD{x0 x1:List Int}(h0:∀y∈x0,-9223372036854775808≤y∧y≤9223372036854775807)(h1:∀y∈x1,-9223372036854775808≤y∧y≤9223372036854775807):iq 3000 x0 x1=some true:=by
 obtain⟨ks,hk,hkl,ek⟩:=yb h0 40 0 3000 [] rfl rfl (by omega) (by omega) (fun k hk=>by cases hk)
 obtain⟨js,hj,hjl,ej⟩:=yb h1 40 0 3000 [] rfl rfl (by omega) (by omega) (fun k hk=>by cases hk)
 have ek':da 3000 x0=some (wd ks):=ek
 have ej':da 3000 x1=some (wd js):=ej
 have c1:nW ([40] :List UInt8) (wd ks)=some (40::wd ks):=by
  unfold nW
  rw [if_pos (by simp [wd];omega)]
  rfl
 have c2:nW (40::wd ks) ([41] :List UInt8)=some (40::(wd ks++ [41])):=by
  unfold nW
  rw [if_pos (by simp [wd];omega)]
  rfl
 have hd:decide (wd ks=wd js)=decide (js=ks):=by
  by_cases h:js=ks
  ·subst h;simp
  ·rw [decide_eq_false h,decide_eq_false fun e=>h (Hz hj hk e.symm)]
 unfold iq
 rw [F8,Option.bind_some]
 simp only [Bool.not_true,cond_false]
 rw [ek',Option.bind_some,ej',Option.bind_some,uv hk hj hkl hjl,Option.bind_some,c1,Option.bind_some,c2,Option.bind_some,zh hk hkl,Option.bind_some]
 simp only [hd]
 rw [Gt]
 cases decide (js=ks)<;> rfl
end Go.Proofs.Ytlhjbhgkhpbnfaa
namespace Go.Proofs.Ytlhjbhgkhpbnfaa
open Go.RowKit Go.Deep Go.ChangeShapes Go.WideShapes Go.ChangeAt P
set_option linter.unusedSimpArgs false
set_option linter.unusedVariables false
def Cx(w:World)(us:List AV)(cs:List Value):Prop:=us.length=cs.length∧∀ (i:Nat) u v,us[i]? =some u→cs[i]? =some v→Rel (qy w) u v
def Ct(w:World)(us:List AV)(off:Nat)(cs:List Value):Prop:=∀ (i:Nat) u v,us[i]? =some u→cs[off+i]? =some v→Rel (qy w) u v
theorem Ct.nil{w:World}{off:Nat}{cs:List Value}:Ct w [] off cs:=fun i u v hu=>by simp at hu
theorem Ct.whole{w:World}{us:List AV}{cs:List Value}(h:Ct w us 0 cs)(e:us.length=cs.length):Cx w us cs:=⟨e,fun i u v hu hv=>h i u v hu (by simpa using hv)⟩
section
variable {H:Type} {enc:TypeId × Value→H} {Pr:Program} {w:World} {base:Nat} {spare:Nat→Bool} {held:Bool}
def zH{H:Type}(enc:TypeId × Value→H)(Pr:Program)(w:World)(base:Nat)(spare:Nat→Bool)(held:Bool)(t:TypeId){α:Type}(ec:α→List AV)(Wf:α→Prop):Prop:=
 ∀ (fuel:Nat) (cs:List Value) (x:DataW H × List MemPlace),DataW.trod enc Pr w base spare held fuel t cs=some x→(∀n∈x.1.weights Pr t,n≤reachBytes)→∃z,Wf z∧Cx w (ec z) cs
theorem CO{t:TypeId}{k:IntKind}(ht:Pr.underlying t=some (.int k)):zH enc Pr w base spare held t (fun n:Int=>[.v (.int k n)]) (fun n=>(Lit.int k n).wf=true):=by
 intro fuel cs x h hw
 obtain⟨n,rfl,rfl,hwf⟩:=DataW.trod_int ht h
 refine⟨n,hwf,rfl,fun i u v hu hv=> ?_⟩
 match i,hu,hv with
 |0,hu,hv=>simp at hu hv;subst hu hv;exact .v _
 |i+1,hu,hv=>simp at hu
theorem lS{e:TypeId}:∀ {l:List (DataW H)} {d:DataW H},d∈l→∀n∈d.weights Pr e,n∈DataW.weightsAll Pr e l
 | [],_,h,_,_=>by cases h
 |x::l,d,h,n,hn=>by
  simp only [DataW.weightsAll,List.mem_append]
  rcases List.mem_cons.1 h with rfl|h
  ·exact .inl hn
  ·exact .inr (lS h n hn)
theorem Dl{a:Addr}{n:Nat}{cs:List Value}(h:w.cells? base a n=some cs):cs.length=n∧∀j,j < n→w.cell? (a.add j)=cs[j]? :=by
 unfold World.cells? at h
 split at h
 ·refine⟨by simpa using mapM_some_length h,fun j hj=> ?_⟩
  exact mapM_some_get h j j (by simp [hj])
 ·cases h
theorem yB{t e:TypeId}{α:Type}{ec:α→List AV}{Wf:α→Prop}{sz:Nat}(ht:Pr.underlying t=some (.slice e))(hc:Pr.cellsOf e=sz)(h1:1≤sz)(hb:1≤Pr.bytesOf e)(hlen:∀z,(ec z).length=sz)(ho:zH enc Pr w base spare held e ec Wf):
  zH enc Pr w base spare held t (fun l:List α=>[.sl false sz (l.map ec)]) (fun l=>l.length≤reachBytes∧∀z∈l,Wf z):=by
 intro fuel cs x h hw
 have one:∀ (l:List α) (v:Value),Rel (qy w) (.sl false sz (l.map ec)) v→Cx w [.sl false sz (l.map ec)] [v] :=fun l v hr=>⟨rfl,fun i u v' hu hv=>by
  match i,hu,hv with
  |0,hu,hv=>simp at hu hv;subst hu hv;exact hr
  |i+1,hu,hv=>simp at hu⟩
 rcases open_slice ht h with ⟨rfl,rfl⟩| ⟨a,len,cap,m,n,D,Pl,rfl,hba,hl,hm,hmm,rfl,hel⟩
 ·exact⟨[],⟨Nat.zero_le _,fun z hz=>by cases hz⟩,one [] _ (.nl _ _ _ _)⟩
 ·have hlm:len≤m:=by rw [hmm];split<;> omega
  have hlr:len≤reachBytes:=by
   have:=hw ((((List.range len).map D).length+ ((List.range (m - len)).map fun j=>D (len+j)).length) * Pr.bytesOf e) (by simp only [DataW.weights,ht];exact List.mem_cons_self ..)
   simp only [List.length_map,List.length_range] at this
   have h2:(len+ (m - len)) * 1≤(len+ (m - len)) * Pr.bytesOf e:=Nat.mul_le_mul_left _ hb
   omega
  have hwt:∀i,i < len→∀k∈(D i).weights Pr e,k≤reachBytes:=fun i hi k hk=>by
   refine hw k ?_
   simp only [DataW.weights,ht]
   refine List.mem_cons_of_mem _ (List.mem_append.2 (.inl ?_))
   exact lS (List.mem_map.2 ⟨i,List.mem_range.2 hi,rfl⟩) k hk
  rcases Nat.eq_zero_or_pos len with h0|hpos
  ·subst h0
   exact⟨[],⟨Nat.zero_le _,fun z hz=>by cases hz⟩,one [] _ (.nl _ _ _ _)⟩
  have each:∀i,i < len→∃y:α × List Value,Wf y.1∧Cx w (ec y.1) y.2∧y.2.length=sz∧∀j,j < sz→w.cell? ((a.add (i * sz)).add j)=y.2[j]? :=fun i hi=>by
   obtain⟨cs',h2,h3⟩:=hel i (by omega)
   rw [hc] at h2
   obtain⟨z,hz,hr⟩:=ho _ _ _ h3 (hwt i hi)
   obtain⟨k1,k2⟩:=Dl h2
   exact⟨(z,cs'),hz,hr,k1,k2⟩
  obtain⟨y0,_⟩:=each 0 hpos
  haveI:Inhabited (α × List Value):=⟨y0⟩
  obtain⟨f,hf⟩:=choose_lt each
  have hspot:a.spot=none:=by
   obtain⟨_,_,k1,k2⟩:=hf 0 hpos
   have:=k2 0 (by omega)
   rw [List.getElem?_eq_getElem (by omega)] at this
   obtain⟨b,off,spot⟩:=a
   simpa [Addr.add] using World.cell?_spot this
  obtain⟨b,off,spot⟩:=a
  simp only at hspot
  subst hspot
  have hcell:∀i,i < len→∀j,j < sz→w.cell? ⟨b,off+i * sz+j,none⟩=(f i).2[j]? :=fun i hi j hj=>by
   have:=(hf i hi).2.2.2 j hj
   rw [dA,dA] at this
   exact this
  have hblk:∃cs e' fr,w.heap[b]? =some (.cells cs e' fr)∧off+ (len - 1) * sz+ (sz - 1) < cs.size:=by
   have c2:=hcell (len - 1) (by omega) (sz - 1) (by omega)
   rw [List.getElem?_eq_getElem (by have:=(hf (len - 1) (by omega)).2.2.1;omega)] at c2
   unfold World.cell? at c2
   split at c2
   ·rename_i cs e' fr hb'
    exact⟨cs,e',fr,hb',(Array.getElem?_eq_some_iff.1 c2).1⟩
   all_goals cases c2
  obtain⟨cs,e',fr,hb',hsz⟩:=hblk
  have hg:(qy w).g b=some cs.size:=by simp only [qy,hb']
  have hsum:(len - 1) * sz+sz=len * sz:=by rw [← Nat.succ_mul];congr 1;omega
  refine⟨(List.range len).map fun i=>(f i).1,⟨by simpa using hlr,fun z hz=> ?_⟩,one _ _ ?_⟩
  ·obtain⟨i,hi,rfl⟩:=List.mem_map.1 hz
   exact(hf i (List.mem_range.1 hi)).1
  ·have hL:(((List.range len).map fun i=>(f i).1).map ec).length=len:=by simp
   have hrow:∀ (i:Nat) r,(((List.range len).map fun i=>(f i).1).map ec)[i]? =some r→i < len∧r=ec (f i).1:=fun i r hr=>by
    have hi:i < len:=by have:=(List.getElem?_eq_some_iff.1 hr).1;simpa using this
    refine⟨hi,?_⟩
    simp [hi] at hr
    exact hr.symm
   have:=Rel.sl (X:=qy w) false sz (((List.range len).map fun i=>(f i).1).map ec) b off cap cs.size (fun i j=>((f i).2[j]?).getD undef) hg (by rw [hL];omega) (by rw [hL];exact hl) (fun i r hr=>by rw [(hrow i r hr).2];exact hlen _) (fun i j r u hr hu=>by
    obtain⟨hi,rfl⟩:=hrow i r hr
    have hj:j < sz:=by have:=(List.getElem?_eq_some_iff.1 hu).1;rw [hlen] at this;exact this
    have hjl:j < (f i).2.length:=by rw [(hf i hi).2.2.1];exact hj
    show w.cell? _=_
    rw [hcell i hi j hj,List.getElem?_eq_getElem hjl];rfl) (fun i j r u hr hu=>by
    obtain⟨hi,rfl⟩:=hrow i r hr
    have hj:j < sz:=by have:=(List.getElem?_eq_some_iff.1 hu).1;rw [hlen] at this;exact this
    have hjl:j < (f i).2.length:=by rw [(hf i hi).2.2.1];exact hj
    refine(hf i hi).2.1.2 j u _ hu ?_
    rw [List.getElem?_eq_getElem hjl];rfl)
   rw [hL] at this
   exact this
theorem GF{r:Reach}{b0:Nat}{t e:TypeId}{v:Value}{d:DataW H}{ps:List MemPlace}{α:Type}{u:α→AV}{Wf:α→Prop}(ho:zH enc Pr w base spare held t (fun z=>[u z]) Wf)(ht:Pr.underlying t=some (.slice e))(hval:Value.okWide Pr w r b0 t v)(hd:DataW.Trod enc Pr w base spare held t v d ps)(hw:∀n∈d.weights Pr t,n≤reachBytes):
  ∃z,Wf z∧Rel (qy w) (u z) v:=by
 obtain⟨oa,ln,cp,rfl⟩:=okWide_slice ht hval
 obtain⟨fuel,hf⟩:=hd
 obtain⟨z,hz,hr⟩:=ho _ _ _ hf hw
 exact⟨z,hz,hr.2 0 _ _ rfl (by simp [Value.cells])⟩
end
end Go.Proofs.Ytlhjbhgkhpbnfaa
namespace Go.Proofs.Ytlhjbhgkhpbnfaa
open Go.RowKit Go.Deep Go.ChangeShapes Go.WideShapes Go.ChangeAt P
set_option linter.unusedVariables false
set_option linter.unusedSimpArgs false
theorem Try.own:ownKnob Try.prog.godebug=none:=by kernel_rfl
theorem Try.laidOut:laidOutB Try.prog=true:=by kernel_rfl
theorem q7{H:Type}{enc:TypeId × Value→H}{w:World}{base:Nat}{spare:Nat→Bool}{held:Bool}:zH enc Try.prog w base spare held 38 (fun l:List Int=>[AV.sl false 1 (l.map (fun n:Int=>[AV.v (.int .i64 n)]))]) (fun l=>l.length≤reachBytes∧∀y∈l,(Lit.int .i64 y).wf=true):=
 yB Try.underlying38 (by kernel_rfl) (by decide) (of_decide_eq_true (by kernel_rfl)) (fun z=>by rfl) (CO Try.underlying3)
end Go.Proofs.Ytlhjbhgkhpbnfaa
namespace Go.Proofs.Ytlhjbhgkhpbnfaa
open Go.RowKit P
section
variable {Pr:Program}
end
def J0(n:Nat):Prop:=n≤140737488351232
theorem J0.le{n:Nat}(h:J0 n):n≤140737488351232:=h
end Go.Proofs.Ytlhjbhgkhpbnfaa
