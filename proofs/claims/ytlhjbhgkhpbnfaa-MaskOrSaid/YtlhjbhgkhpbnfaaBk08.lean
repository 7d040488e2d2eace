import Derived.Test.YtlhjbhgkhpbnfaaBk07
import Derived.ProofKit
import Derived.OpenShut
import Derived.Deep.Slices
import Derived.Test.YtlhjbhgkhpbnfaaRows
import Derived.WalkKit
import Derived.WalkSpells
import Derived.WalkLawsBesides
import Derived.Lib.VarintBits
import Derived.Lib.BufferRead
import Derived.Lib.Hide
set_option linter.unusedSimpArgs false
set_option linter.unusedVariables false
namespace Go.Proofs.Ytlhjbhgkhpbnfaa
open Go.RowKit P
set_option maxRecDepth 1000000
theorem G3(m:List UInt8)(at_ g:Int)(l L:List Vstep)(h:l.length+L.length≤1000000):bR 3000 (l.length:Int) m at_ g (l++L).length (l++L)=some (.ok (L,m,at_,g,l.length,l)):=by
 have hl:(l++L).length=l.length+L.length:=List.length_append
 unfold bR
 have e1:xx (l++L).length (l.length:Int) ((l++L).length:Int)=some (l.length,(l++L).length):=by
  unfold xx
  rw[if_pos (by omega)];simp only[Int.toNat_natCast]
 rw[e1,Option.bind_some]
 dsimp only
 unfold br
 have e2:AP l.length ((l++L).length - l.length) (l++L)=some L:=by
  unfold AP
  rw[if_pos (by omega),List.drop_left,List.take_of_length_le (by omega)]
 have e3:iQ 32 ([] :List Vstep) L=some L:=by
  unfold iQ
  rw[if_pos (by simp only[List.length_nil];omega)];rfl
 have e4:BJ (l++L).length (l++L) (l.length:Int)=some l:=by
  unfold BJ
  rw[if_pos (by omega)];simp
 rw[e2,Option.bind_some,e3,Option.bind_some,Option.bind_some]
 dsimp only
 rw[e4,Option.bind_some]
theorem zk(by_:Int)(L:List Vstep)(m:List UInt8)(at_ g:Int)(hL:L.length≤100000):∀ (d i n:Nat) (l:List Vstep),i+d=L.length→d+1≤n→l.length+d≤1000000→a7 3000 n by_ L (L.length:Int) (i:Int) m at_ g l.length l=some (.ok (m,at_,g,(l++ (L.drop i).map (shS by_)).length,l++ (L.drop i).map (shS by_)))
 |d,i,0,l,h1,h2,h3=>by omega
 |0,i,n+1,l,h1,h2,h3=>by
  rw[a7,decide_eq_false (by omega),cond_false,List.drop_eq_nil_of_le (by omega)]
  simp
 |d+1,i,n+1,l,h1,h2,h3=>by
  have hi:i < L.length:=by omega
  rw[a7,decide_eq_true (by omega),cond_true,ixn,List.getElem?_eq_getElem hi,Option.bind_some]
  have key:∀s,s=shS by_ L[i] →bE 3000 (a7 3000 n) n by_ L (L.length:Int) (i:Int) s m at_ g l.length l=some (.ok (m,at_,g,(l++ (L.drop i).map (shS by_)).length,l++ (L.drop i).map (shS by_))):=by
   rintro s rfl
   unfold bE
   rw[iF _ _ _ _ _ _ (by omega),Option.bind_some]
   dsimp only
   rw[jD (by omega),zk by_ L m at_ g hL d (i+1) n _ (by omega) (by omega) (by simp only[List.length_append,List.length_singleton];omega),List.drop_eq_getElem_cons hi,List.map_cons]
   simp only[List.append_assoc,List.singleton_append]
  cases h1':L[i].kind==1 with
  |true=>
   rw[cond_true]
   exact key _ (by unfold shS;rw[h1',cond_true])
  |false=>
   rw[cond_false]
   cases h2':L[i].kind==2 with
   |true=>
    rw[cond_true]
    exact key _ (by unfold shS;rw[h1',cond_false,h2',cond_true])
   |false=>
    rw[cond_false]
    exact key _ (by unfold shS;rw[h1',cond_false,h2',cond_false])
theorem FK(L:List Vstep)(m:List UInt8)(at_ g:Int)(l:List Vstep)(k was:Nat)(hk:was+k=l.length)(h:l.length+L.length≤2000):bk 3000 L (was:Int) m at_ g l.length l=some (.ok (m,at_,g,(l++L.map (shS k)).length,l++L.map (shS k))):=by
 unfold bk
 have e:w64 ((l.length:Int) - (was:Int))=(k:Int):=by rw[pR (by omega) (by omega)];omega
 rw[e]
 have:=zk k L m at_ g (by omega) L.length 0 3000 l (by omega) (by omega) (by omega)
 rw[List.drop_zero] at this
 exact this
theorem xM(L:List Vstep)(m:List UInt8)(at_ g:Int)(l:List Vstep)(k was n1:Nat)(h1:n1=l.length)(hk:was+k=l.length)(h:l.length+L.length≤2000):bk 3000 L (was:Int) m at_ g n1 l=some (.ok (m,at_,g,(l++L.map (shS k)).length,l++L.map (shS k))):=by
 subst h1
 exact FK L m at_ g l k was hk h
theorem kl(l r:List Vstep)(x:Vstep):(l++x::r)[l.length]? =some x:=by
 rw[List.getElem?_append_right (Nat.le_refl _),Nat.sub_self];rfl
theorem kh(l r:List Vstep)(x y:Vstep):(l++x::r).set l.length y=l++y::r:=by
 rw[List.set_append_right _ _ (Nat.le_refl _),Nat.sub_self];rfl
theorem fj{a n:Nat}(h:a < n):dP n (a:Int)=some a:=by
 unfold dP
 rw[if_pos (by omega)];simp
theorem KB{NR:RecC}(hN:NR.n=3000)(m:List UInt8){j:Nat}(hj:j≤100000)(g:Int)(l:List Vstep)(n0:Nat){sg:UInt8}(hsg:sg=42∨sg=43∨sg=63)(body:Nat→List Vstep){n:Nat}(hn:∀b,(body b).length=n)(hs:∀k,k≤1→(body l.length).map (shS ((k:Nat):Int))=body (l.length+k))(hl:l.length+n≤1000):
  bi NR n0 (l.length:Int) sg m (j:Int) g (l++body l.length).length (l++body l.length)=some (.ok (sgN sg,m,((j+1:Nat):Int),g,(l++ie l.length sg body n).length,l++ie l.length sg body n)):=by
 unfold bi
 rw[hN,G3 _ _ _ _ _ (by rw[hn];omega),Option.bind_some,jD (by omega)]
 dsimp only
 rcases hsg with rfl|rfl|rfl
 ·rw[show(b2i 42==b2i 42)=true from rfl,cond_true,iF _ _ _ _ _ _ (by omega),Option.bind_some]
  dsimp only
  rw[fj (by simp),Option.bind_some,kl,Option.bind_some,kh]
  rw[xM _ _ _ _ _ 1 l.length _ (by simp) (by simp) (by simp only[List.length_append,List.length_singleton,hn];omega),Option.bind_some]
  dsimp only
  rw[hs 1 (Nat.le_refl _),iF _ _ _ _ _ _ (by simp[hn];omega),Option.bind_some]
  dsimp only
  rw[fj (by simp<;> omega),Option.bind_some]
  have e3:∀ (x y:Vstep) (L:List Vstep),l++ [x] ++L++ [y] =l++x::(L++ [y]):=fun x y L=>by simp
  rw[e3,kl,Option.bind_some,kh]
  have e4:∀ (x y:Vstep) (L:List Vstep),(l++x::(L++ [y])).length=l.length+L.length+2:=fun x y L=>by simp;omega
  have hw:ie l.length 42 body n=fkS (l.length+1) (l.length+n+2)::(body (l.length+1)++ [jpS l.length]):=rfl
  rw[hw]
  simp only[e4,hn]
  simp[fkS,jpS,sgN]
 ·rw[show(b2i 43==b2i 42)=false from rfl,cond_false,show(b2i 43==b2i 43)=true from rfl,cond_true,FK _ _ _ _ _ 0 l.length rfl (by rw[hn];omega),Option.bind_some]
  dsimp only
  rw[hs 0 (by omega),Nat.add_zero,iF _ _ _ _ _ _ (by simp[hn];omega),Option.bind_some]
  dsimp only
  rw[fj (by simp),Option.bind_some,kl,Option.bind_some,kh]
  have hw:ie l.length 43 body n=body l.length++ [fkS l.length (l.length+n+1)] :=rfl
  rw[hw]
  simp[fkS,sgN,hn]
  omega
 ·rw[show(b2i 63==b2i 42)=false from rfl,cond_false,show(b2i 63==b2i 43)=false from rfl,cond_false,iF _ _ _ _ _ _ (by omega),Option.bind_some]
  dsimp only
  rw[fj (by simp),Option.bind_some,kl,Option.bind_some,kh]
  rw[xM _ _ _ _ _ 1 l.length _ (by simp) (by simp) (by simp only[List.length_append,List.length_singleton,hn];omega),Option.bind_some]
  dsimp only
  rw[hs 1 (Nat.le_refl _),fj (by simp<;> omega),Option.bind_some]
  have e3:∀ (x:Vstep) (L:List Vstep),l++ [x] ++L=l++x::L:=fun x L=>by simp
  rw[e3,kl,Option.bind_some,kh]
  have e4:∀ (x:Vstep) (L:List Vstep),(l++x::L).length=l.length+L.length+1:=fun x L=>by simp;omega
  have hw:ie l.length 63 body n=fkS (l.length+1) (l.length+n+1)::body (l.length+1):=rfl
  rw[hw]
  simp only[e4,hn]
  simp[fkS,sgN]
theorem dS{m:List UInt8}:∀ (f mo i g:Nat) {x:Nd} {j g1:Nat},prs m f mo i g=.ok (x,j,g1)→i≤m.length→g≤9→i≤j∧j≤m.length∧x.len≤2 * (j - i)∧g≤g1∧g1≤9∧(2≤mo→i < j)
 |0,mo,i,g,x,j,g1,h,hi,hg=>by cases h
 |f+1,0,i,g,x,j,g1,h,hi,hg=>by
  rw[prs] at h
  split at h
  ·cases h
  ·rename_i r j0 g0 hr
   have h1:=dS f 1 i g hr hi hg
   cases hb:bL m 124 j0 with
   |false=>rw[hb,cond_false] at h;cases h;exact⟨h1.1,h1.2.1,h1.2.2.1,h1.2.2.2.1,h1.2.2.2.2.1,fun h=>by omega⟩
   |true=>
    rw[hb,cond_true] at h
    have hj:=dl hb
    split at h
    ·cases h
    ·rename_i M k g2 hM
     cases h
     have h2:=dS f 0 (j0+1) g0 hM (by omega) h1.2.2.2.2.1
     unfold Nd.len
     exact⟨by omega,by omega,by omega,by omega,by omega,fun h=>by omega⟩
 |f+1,1,i,g,x,j,g1,h,hi,hg=>by
  rw[prs] at h
  split at h
  ·cases h;exact⟨Nat.le_refl _,hi,Nat.zero_le _,Nat.le_refl _,hg,fun h=>by omega⟩
  ·rename_i c hc
   cases h1:(b2i c==b2i 124) with
   |true=>rw[h1,cond_true] at h;cases h;exact⟨Nat.le_refl _,hi,Nat.zero_le _,Nat.le_refl _,hg,fun h=>by omega⟩
   |false=>
    rw[h1,cond_false] at h
    cases h2:(b2i c==b2i 41) with
    |true=>rw[h2,cond_true] at h;cases h;exact⟨Nat.le_refl _,hi,Nat.zero_le _,Nat.le_refl _,hg,fun h=>by omega⟩
    |false=>
     rw[h2,cond_false] at h
     split at h
     ·cases h
     ·rename_i p j0 g0 hp
      have h3:=dS f 2 i g hp hi hg
      split at h
      ·cases h
      ·rename_i r k g2 hr
       cases h
       have h4:=dS f 1 j0 g0 hr h3.2.1 h3.2.2.2.2.1
       unfold Nd.len
       exact⟨by omega,by omega,by omega,by omega,by omega,fun h=>by omega⟩
 |f+1,mo+2,i,g,x,j,g1,h,hi,hg=>by
  rw[prs] at h
  have sl:∀k,ea m k≠0→k < m.length∧sgL (ea m k)≤2:=fun k hk=>by
   unfold ea at hk ⊢
   cases h1:bL m 42 k with
   |true=>exact⟨dl h1,show sgL 42≤2 from by decide⟩
   |false=>
    rw[h1,cond_false] at hk
    cases h2:bL m 43 k with
    |true=>exact⟨dl h2,show sgL 43≤2 from by decide⟩
    |false=>
     rw[h2,cond_false] at hk
     cases h3:bL m 63 k with
     |true=>exact⟨dl h3,show sgL 63≤2 from by decide⟩
     |false=>rw[h3] at hk;exact absurd rfl hk
  cases hb:bL m 40 i with
  |true=>
   rw[hb,cond_true] at h
   have hil:=dl hb
   cases h9:g==9 with
   |true=>rw[h9,cond_true] at h;cases h
   |false=>
    have hg9:g≠9:=beq_eq_false_iff_ne.1 h9
    rw[h9,cond_false] at h
    split at h
    ·cases h
    ·rename_i M j0 g0 hM
     have h1:=dS f 0 (i+1) (g+1) hM (by omega) (by omega)
     cases h41:bL m 41 j0 with
     |false=>rw[h41,cond_false] at h;cases h
     |true=>
      have hj0:=dl h41
      rw[h41,cond_true] at h
      cases hs:(ea m (j0+1)==0) with
      |true=>
       rw[hs,cond_true] at h;cases h
       have e:(Nd.grp (g+1) M 0).len=M.len+2:=rfl
       exact⟨by omega,by omega,by omega,by omega,by omega,fun _=>by omega⟩
      |false=>
       rw[hs,cond_false] at h
       obtain⟨s1,s2⟩:=sl _ (beq_eq_false_iff_ne.1 hs)
       cases hz:(M.null && !(ea m (j0+1)==63)) with
       |true=>rw[hz,cond_true] at h;cases h
       |false=>
       rw[hz,cond_false] at h
       cases h
       have e:(Nd.grp (g+1) M (ea m (j0+1))).len=M.len+2+sgL (ea m (j0+1)):=rfl
       exact⟨by omega,by omega,by omega,by omega,by omega,fun _=>by omega⟩
  |false=>
   rw[hb,cond_false] at h
   split at h
   ·cases h
   ·rename_i S j0 hS
    have h1:=qA hS
    cases hs:(ea m j0==0) with
    |true=>
     rw[hs,cond_true] at h;cases h
     have e:(Nd.set S 0).len=1:=rfl
     exact⟨by omega,by omega,by omega,by omega,by omega,fun _=>by omega⟩
    |false=>
     rw[hs,cond_false] at h
     obtain⟨s1,s2⟩:=sl _ (beq_eq_false_iff_ne.1 hs)
     cases h
     have e:(Nd.set S (ea m j0)).len=1+sgL (ea m j0):=rfl
     exact⟨by omega,by omega,by omega,by omega,by omega,fun _=>by omega⟩
def mR(e:Bool)(m:List UInt8)(l:List Vstep):Except (Int × Int) (Nd × Nat × Nat)→Option (PR (Bool × (List UInt8) × Int × Int × Nat × (List Vstep)))
 |.error q=>some (.pan (flt q))
 |.ok (x,j,g)=>some (.ok (e && x.null,m,(j:Int),(g:Int),(l++x.code l.length).length,l++x.code l.length))
theorem Dx{b c:UInt8}(h:(b2i b==b2i c)=true):b=c:=by
 have:b2i b=b2i c:=beq_iff_eq.1 h
 rw[oN,oN] at this
 exact UInt8.toNat_inj.1 (by omega)
theorem Cr{NR:RecC}(hN:NR.n=3000)(m:List UInt8){j:Nat}(hj:j≤100000)(g:Int)(l:List Vstep)(x4 e0:Bool)(body:Nat→List Vstep){n:Nat}(hn:∀b,(body b).length=n)(hs:∀k,k≤1→(body l.length).map (shS ((k:Nat):Int))=body (l.length+k))(hl:l.length+n≤1000):
  ((aP NR.n m (j:Int) g (l++body l.length).length (l++body l.length)).bind fun z4=>
  match z4 with
  |.pan vz4=>some (.pan vz4)
  |.ok z5=>
   bif !z5.2.1 then
    some (.ok (e0,z5.2.2.1,z5.2.2.2.1,z5.2.2.2.2.1,z5.2.2.2.2.2.1,z5.2.2.2.2.2.2))
   else
    bif (b2i z5.1) != (b2i 42) then
     bif (b2i z5.1) != (b2i 43) then
      bif (b2i z5.1) != (b2i 63) then
       some (.ok (e0,z5.2.2.1,z5.2.2.2.1,z5.2.2.2.2.1,z5.2.2.2.2.2.1,z5.2.2.2.2.2.2))
      else
       a6 NR NR.n (l.length:Int) x4 e0 z5.1 z5.2.2.1 z5.2.2.2.1 z5.2.2.2.2.1 z5.2.2.2.2.2.1 z5.2.2.2.2.2.2
     else
      a6 NR NR.n (l.length:Int) x4 e0 z5.1 z5.2.2.1 z5.2.2.2.1 z5.2.2.2.2.1 z5.2.2.2.2.2.1 z5.2.2.2.2.2.2
    else
     a6 NR NR.n (l.length:Int) x4 e0 z5.1 z5.2.2.1 z5.2.2.2.1 z5.2.2.2.2.1 z5.2.2.2.2.2.1 z5.2.2.2.2.2.2:Option (PR aI))=
  bif ea m j==0 then some (.ok (e0,m,(j:Int),g,(l++body l.length).length,l++body l.length))
  else bif (e0 && x4) && !(ea m j==63) then some (.pan (flt (4,(j:Int))))
  else some (.ok (sgN (ea m j),m,((j+1:Nat):Int),g,(l++ie l.length (ea m j) body n).length,l++ie l.length (ea m j) body n)):=by
 have h7:∀b,(b=42∨b=43∨b=63)→a6 NR NR.n (l.length:Int) x4 e0 b m (j:Int) g (l++body l.length).length (l++body l.length)=bif (e0 && x4) && !(b==63) then some (.pan (flt (4,(j:Int)))) else some (.ok (sgN b,m,((j+1:Nat):Int),g,(l++ie l.length b body n).length,l++ie l.length b body n)):=by
  intro b hb
  have h9:=KB hN m hj g l NR.n hb body hn hs hl
  unfold a6
  cases e0 with
  |false=>rw[cond_false,h9];rfl
  |true=>
   cases x4 with
   |false=>rw[cond_true,cond_false,h9];rfl
   |true=>
    rw[cond_true,cond_true]
    rcases hb with rfl|rfl|rfl
    ·rfl
    ·rfl
    ·rw[show(b2i 63 != b2i 63)=false from rfl,cond_false,h9];rfl
 cases hc:m[j]? with
 |none=>
  have hz:ea m j=0:=by unfold ea bL;rw[hc];rfl
  rw[my _ hc,Option.bind_some,hz]
  rfl
 |some b=>
  rw[p8 _ hc,Option.bind_some]
  dsimp only
  rw[Bool.not_true,cond_false]
  have hz:ea m j=bif b2i b==b2i 42 then 42 else bif b2i b==b2i 43 then 43 else bif b2i b==b2i 63 then 63 else 0:=by unfold ea bL;rw[hc]
  rw[hz,bne,bne,bne]
  cases h1:(b2i b==b2i 42) with
  |true=>
   have:=Dx h1
   subst this
   rw[Bool.not_true,cond_false,h7 _ (.inl rfl)]
   rfl
  |false=>
   rw[Bool.not_false,cond_true,cond_false]
   cases h2:(b2i b==b2i 43) with
   |true=>
    have:=Dx h2
    subst this
    rw[Bool.not_true,cond_false,h7 _ (.inr (.inl rfl))]
    rfl
   |false=>
    rw[Bool.not_false,cond_true,cond_false]
    cases h3:(b2i b==b2i 63) with
    |true=>
     have:=Dx h3
     subst this
     rw[Bool.not_true,cond_false,h7 _ (.inr (.inr rfl))]
     rfl
    |false=>rfl
def tp(n:Nat)(M:Nd)(b:Nat):List Vstep:=svS (2 * n)::(M.code (b+1)++ [svS (2 * n+1)])
theorem FH(n:Nat)(M:Nd)(b:Nat):(tp n M b).length=M.len+2:=by
 unfold tp
 rw[List.length_cons,List.length_append,M.code_len];rfl
def Fi(m:List UInt8)(n:Nat)(l:List Vstep):Except (Int × Int) (Nd × Nat × Nat)→Option (PR ay)
 |.error q=>some (.pan (flt q))
 |.ok (M,j,g1)=>bif bL m 41 j then some (.ok (M.null,m,((j+1:Nat):Int),(g1:Int),(l++tp n M l.length).length,l++tp n M l.length)) else some (.pan (flt (1,(j:Int))))
theorem Lk{m:List UInt8}{i:Nat}(hb:bL m 40 i=true):m[i]? =some 40:=by
 unfold bL at hb
 split at hb
 ·rename_i b hbb
  rw[Dx hb] at hbb;exact hbb
 ·cases hb
theorem Bu{NR:RecC}{m:List UInt8}{i:Nat}(hb:bL m 40 i=true)(n:Nat)(l:List Vstep):bu NR m (i:Int) 9 n l=some (.pan (flt (2,(i:Int)))):=by
 unfold bu
 rw[ixn,Lk hb,Option.bind_some,show(b2i 40==b2i 46)=false from rfl,cond_false,show(b2i 40==b2i 92)=false from rfl,cond_false,show(b2i 40==b2i 91)=false from rfl,cond_false,show(b2i 40==b2i 40)=true from rfl,cond_true]
 rfl
theorem He{NR:RecC}(hN:NR.n=3000){m:List UInt8}(hm:m.length≤60){i:Nat}(hb:bL m 40 i=true){g:Nat}(hg:g≤8)(l:List Vstep)(hl:l.length+2 * (m.length - i)≤400){R:Except (Int × Int) (Nd × Nat × Nat)}(hR:∀ (M:Nd) j g1,R=.ok (M,j,g1)→j≤m.length∧M.len≤2 * (m.length - (i+1)))
  (hk:∀l2:List Vstep,l2.length=l.length+1→NR.k m ((i+1:Nat):Int) ((g+1:Nat):Int) l2.length l2=mR true m l2 R):
  bu NR m (i:Int) (g:Int) l.length l=Fi m (g+1) l R:=by
 have hil:=dl hb
 have hc:=Lk hb
 unfold bu
 rw[ixn,hc,Option.bind_some,show(b2i 40==b2i 46)=false from rfl,cond_false,show(b2i 40==b2i 92)=false from rfl,cond_false,show(b2i 40==b2i 91)=false from rfl,cond_false,show(b2i 40==b2i 40)=true from rfl,cond_true]
 ·have h9':((g:Int)==9)=false:=beq_eq_false_iff_ne.2 (by omega)
  rw[h9',cond_false]
  unfold cv
  have e1:w64 ((g:Int)+1)=((g+1:Nat):Int):=jD (by omega)
  have e2:w64 (2 * ((g+1:Nat):Int))=((2 * (g+1):Nat):Int):=by rw[pR (by omega) (by omega)];omega
  have e3:w64 (((2 * (g+1):Nat):Int)+1)=((2 * (g+1)+1:Nat):Int):=jD (by omega)
  rw[e1,e2,e3,jD (by omega),iF _ _ _ _ _ _ (by omega),Option.bind_some]
  dsimp only
  show((NR.k m ((i+1:Nat):Int) ((g+1:Nat):Int) (l++ [svS (2 * (g+1))]).length (l++ [svS (2 * (g+1))])).bind _)=_
  rw[hk _ (by simp)]
  cases R with
  |error q=>rfl
  |ok p=>
   obtain⟨M,j,g1⟩:=p
   obtain⟨hj,hM⟩:=hR M j g1 rfl
   unfold mR
   rw[Option.bind_some]
   dsimp only
   rw[iF _ _ _ _ _ _ (by rw[List.length_append,Nd.code_len];simp;omega),Option.bind_some]
   dsimp only
   rw[rO _ _ _ (by omega),Option.bind_some]
   dsimp only
   unfold Fi
   cases h41:bL m 41 j with
   |false=>simp only[h41];rfl
   |true=>
    simp only[h41,Bool.not_true,cond_false,cond_true]
    have e4:l++ [svS (2 * (g+1))] ++M.code (l++ [svS (2 * (g+1))]).length++ [(⟨3,((2 * (g+1)+1:Nat):Int),0,none⟩:Vstep)] =l++tp (g+1) M l.length:=by
     simp[tp,svS]
    rw[e4]
    rfl
theorem fU(m:List UInt8)(l:List Vstep)(x:Nd)(j g:Nat):mR true m l (.ok (x,j,g))=some (.ok (x.null,m,(j:Int),(g:Int),(l++x.code l.length).length,l++x.code l.length)):=by
 unfold mR
 dsimp only
 rw[Bool.true_and]
def M9(e:Bool)(m:List UInt8)(l:List Vstep)(r:Nd):Except (Int × Int) (Nd × Nat × Nat)→Option (PR (Bool × (List UInt8) × Int × Int × Nat × (List Vstep)))
 |.error q=>some (.pan (flt q))
 |.ok (M,k,g2)=>some (.ok (e || M.null,m,(k:Int),(g2:Int),(l++ (Nd.alt r M).code l.length).length,l++ (Nd.alt r M).code l.length))
theorem LH{NR:RecC}(hN:NR.n=3000){m:List UInt8}(hm:m.length≤60){j:Nat}(hb:bL m 124 j=true)(g1:Nat)(l:List Vstep)(r:Nd)(e:Bool)(n:Nat)(hl:l.length+r.len+2 * (m.length - j)≤400){R:Except (Int × Int) (Nd × Nat × Nat)}
  (hk:∀l2:List Vstep,l2.length=l.length+r.len+2→NR.k m ((j+1:Nat):Int) (g1:Int) l2.length l2=mR true m l2 R):
  bd NR (n+1) (l.length:Int) e m (j:Int) (g1:Int) (l++r.code l.length).length (l++r.code l.length)=M9 e m l r R:=by
 have hj:=dl hb
 rw[bd,rO _ _ _ (by omega),Option.bind_some]
 dsimp only
 rw[hb,cond_true,hN]
 show((bR 3000 (l.length:Int) m ((j+1:Nat):Int) (g1:Int) _ _).bind _)=_
 rw[G3 _ _ _ _ _ (by rw[r.code_len];omega),Option.bind_some]
 dsimp only
 rw[iF _ _ _ _ _ _ (by omega),Option.bind_some]
 dsimp only
 rw[fj (by simp),Option.bind_some,kl,Option.bind_some,kh]
 dsimp only
 have hsh:(r.code l.length).map (shS ((1:Nat):Int))=r.code (l.length+1):=r.code_sh _ 1 (by omega)
 rw[xM _ _ _ _ _ 1 l.length _ (by simp) (by simp) (by simp only[List.length_append,List.length_singleton,r.code_len];omega),Option.bind_some,hsh]
 dsimp only
 rw[iF _ _ _ _ _ _ (by simp[Nd.code_len];omega),Option.bind_some]
 dsimp only
 rw[fj (by simp<;> omega),Option.bind_some]
 have e3:∀ (x y:Vstep) (L:List Vstep),l++ [x] ++L++ [y] =l++x::(L++ [y]):=fun x y L=>by simp
 have e4:∀ (x y:Vstep) (L:List Vstep),(l++x::(L++ [y])).length=l.length+L.length+2:=fun x y L=>by simp;omega
 rw[e3,kl,Option.bind_some,kh]
 dsimp only
 unfold cW
 have e5:∀ (x:Vstep) (L:List Vstep),((l++ [x] ++L).length:Int)=((l.length+1+L.length:Nat):Int):=fun x L=>by simp;omega
 rw[e5,r.code_len]
 have kk:∀ (n1:Nat) (l2:List Vstep),n1=l2.length→l2.length=l.length+r.len+2→dk NR m ((j+1:Nat):Int) (g1:Int) n1 l2=mR true m l2 R:=fun n1 l2 h1 h2=>by
  subst h1
  exact hk l2 h2
 rw[kk _ _ (by rw[e4,e4]) (by rw[e4,r.code_len])]
 generalize hl2:l++ (⟨1,_,_,none⟩:Vstep)::(r.code (l.length+1)++ [(⟨2,0,0,none⟩:Vstep)])=l2
 have hlen2:l2.length=l.length+r.len+2:=by rw[← hl2,e4,r.code_len]
 cases R with
 |error q=>rfl
 |ok p=>
  obtain⟨M,k,g2⟩:=p
  rw[fU,Option.bind_some]
  dsimp only
  rw[Option.bind_some]
  dsimp only
  have hr12:∀x4,b7 NR (bd NR n) n x4 ((l.length+1+r.len:Nat):Int) m (k:Int) (g2:Int) (l2++M.code l2.length).length (l2++M.code l2.length)=some (.ok (x4,m,(k:Int),(g2:Int),(l++ (Nd.alt r M).code l.length).length,l++ (Nd.alt r M).code l.length)):=by
   intro x4
   unfold b7
   have e6:l2++M.code l2.length=(l++fkS (l.length+1) (l.length+r.len+2)::r.code (l.length+1))++ (⟨2,0,0,none⟩:Vstep)::M.code (l.length+r.len+2):=by
    rw[hlen2,← hl2]
    simp[fkS,r.code_len]
    omega
   have e7:(l++fkS (l.length+1) (l.length+r.len+2)::r.code (l.length+1)).length=l.length+1+r.len:=by
    simp[r.code_len];omega
   rw[e6,← e7,fj (by simp<;> omega),Option.bind_some,kl,Option.bind_some,kh]
   dsimp only
   have e8:(l++fkS (l.length+1) (l.length+r.len+2)::r.code (l.length+1))++ (⟨2,(((l++fkS (l.length+1) (l.length+r.len+2)::r.code (l.length+1))++ (⟨2,0,0,none⟩:Vstep)::M.code (l.length+r.len+2)).length:Int),0,none⟩:Vstep)::M.code (l.length+r.len+2)=l++ (Nd.alt r M).code l.length:=by
    simp[Nd.code,jpS,Nd.code_len]
    omega
   rw[e8]
   simp[Nd.code,Nd.code_len]
  unfold M9
  dsimp only
  cases M.null with
  |true=>rw[cond_true,hr12,Bool.or_true]
  |false=>rw[cond_false,hr12,Bool.or_false]
theorem uU(m:List UInt8)(f i g:Nat):prs m (f+1) 0 i g=match prs m f 1 i g with
  |.error q=>.error q
  |.ok (r,j,g1)=>bif bL m 124 j then match prs m f 0 (j+1) g1 with
    |.error q=>.error q
    |.ok (M,k,g2)=>.ok (.alt r M,k,g2)
   else .ok (r,j,g1):=rfl
theorem vM(m:List UInt8)(f i g:Nat):prs m (f+1) 1 i g=match m[i]? with
  |none=>.ok (.nil,i,g)
  |some c=>bif (b2i c)==(b2i 124) then .ok (.nil,i,g) else bif (b2i c)==(b2i 41) then .ok (.nil,i,g) else match prs m f 2 i g with
   |.error q=>.error q
   |.ok (p,j,g1)=>match prs m f 1 j g1 with
    |.error q=>.error q
    |.ok (r,k,g2)=>.ok (.cons p r,k,g2):=rfl
theorem Nv (m : List UInt8) (f i g : Nat) : prs m (f + 1) 2 i g = bif bL m 40 i then
   bif g==9 then .error (2,(i:Int)) else match prs m f 0 (i+1) (g+1) with
   |.error q=>.error q
   |.ok (M,j,g1)=>bif bL m 41 j then
     bif ea m (j+1)==0 then .ok (.grp (g+1) M 0,j+1,g1)
     else bif M.null && !(ea m (j+1)==63) then .error (4,((j+1:Nat):Int)) else .ok (.grp (g+1) M (ea m (j+1)),j+2,g1)
    else .error (1,(j:Int))
  else match io m i with
   |.error q=>.error q
   |.ok (S,j)=>bif ea m j==0 then .ok (.set S 0,j,g) else .ok (.set S (ea m j),j+1,g):=rfl
theorem El(k:Nat)(m:List UInt8)(at_ g:Int)(n:Nat)(l:List Vstep):bj 3000 (k+1) m at_ g n l=cF ⟨3000,bj 3000 k⟩ m at_ g n l:=rfl
theorem zY{m:List UInt8}(hm:m.length≤60):∀ (f:Nat),
  (∀ (k i g:Nat) (l:List Vstep),i≤m.length→3 * (m.length - i)+3≤f→m.length - i+1≤k→g≤9→l.length+2 * (m.length - i)≤400→bj 3000 k m (i:Int) (g:Int) l.length l=mR true m l (prs m f 0 i g))∧
  (∀ (k i g:Nat) (l:List Vstep) (e:Bool) (n:Nat),i≤m.length→3 * (m.length - i)+2≤f→m.length - i≤k→g≤9→l.length+2 * (m.length - i)≤400→m.length - i+1≤n→bo ⟨3000,bj 3000 k⟩ n e m (i:Int) (g:Int) l.length l=mR e m l (prs m f 1 i g))∧
  (∀ (k i g:Nat) (l:List Vstep),i < m.length→3 * (m.length - i)+1≤f→m.length - i≤k→g≤9→l.length+2 * (m.length - i)≤400→cx ⟨3000,bj 3000 k⟩ m (i:Int) (g:Int) l.length l=mR true m l (prs m f 2 i g))
 |0=>⟨fun k i g l h1 h2=>by omega,fun k i g l e n h1 h2=>by omega,fun k i g l h1 h2=>by omega⟩
 |f+1=>by
  obtain⟨ihM,ihR,ihP⟩:=zY hm f
  refine⟨fun k i g l h1 h2 h3 h4 h5=> ?_,fun k i g l e n h1 h2 h3 h4 h5 h6=> ?_,fun k i g l h1 h2 h3 h4 h5=> ?_⟩
  ·obtain⟨k,rfl⟩:∃q,k=q+1:=⟨k - 1,by omega⟩
   rw[El]
   unfold cF dc
   show((bo ⟨3000,bj 3000 k⟩ 3000 true m (i:Int) (g:Int) l.length l).bind _)=_
   rw[ihR k i g l true 3000 h1 (by omega) (by omega) h4 h5 (by omega),uU]
   cases hr:prs m f 1 i g with
   |error q=>rfl
   |ok p=>
    obtain⟨r,j,g1⟩:=p
    have hk:=dS f 1 i g hr h1 h4
    rw[fU,Option.bind_some]
    dsimp only
    show bd ⟨3000,bj 3000 k⟩ (2999+1) (l.length:Int) r.null m (j:Int) (g1:Int) _ _=_
    cases hb:bL m 124 j with
    |false=>
     rw[bd,rO _ _ _ (by omega),Option.bind_some]
     dsimp only
     rw[hb,cond_false,cond_false,fU]
     rfl
    |true=>
     have hj:=dl hb
     rw[cond_true,LH (R:=prs m f 0 (j+1) g1) rfl hm hb g1 l r r.null 2999 (by omega) (fun l2 hl2=>ihM k (j+1) g1 l2 (by omega) (by omega) (by omega) (by omega) (by omega))]
     cases prs m f 0 (j+1) g1 with
     |error q=>rfl
     |ok p=>rfl
  ·obtain⟨n,rfl⟩:∃q,n=q+1:=⟨n - 1,by omega⟩
   rw[bo,vM]
   cases hc:m[i]? with
   |none=>
    rw[my _ hc,Option.bind_some]
    dsimp only
    rw[Bool.not_false,cond_true]
    unfold mR
    simp[Nd.null,Nd.code]
   |some c=>
    have hil:=(List.getElem?_eq_some_iff.1 hc).1
    rw[p8 _ hc,Option.bind_some]
    dsimp only
    rw[Bool.not_true,cond_false]
    cases e1:(b2i c==b2i 124) with
    |true=>rw[cond_true,cond_true];unfold mR;simp[Nd.null,Nd.code]
    |false=>
     rw[cond_false,cond_false]
     cases e2:(b2i c==b2i 41) with
     |true=>rw[cond_true,cond_true];unfold mR;simp[Nd.null,Nd.code]
     |false=>
      rw[cond_false,cond_false,ihP k i g l hil (by omega) h3 h4 h5]
      cases hp:prs m f 2 i g with
      |error q=>rfl
      |ok p=>
       obtain⟨p,j,g1⟩:=p
       have hk:=dS f 2 i g hp h1 h4
       have hij:=hk.2.2.2.2.2 (by omega)
       rw[fU,Option.bind_some]
       dsimp only
       have go:∀e',bo ⟨3000,bj 3000 k⟩ n e' m (j:Int) (g1:Int) (l++p.code l.length).length (l++p.code l.length)=mR e' m (l++p.code l.length) (prs m f 1 j g1):=fun e'=>ihR k j g1 _ e' n (by omega) (by omega) (by omega) (by omega) (by rw[List.length_append,p.code_len];omega) (by omega)
       have fin:∀e',(e'=(e && p.null))→mR e' m (l++p.code l.length) (prs m f 1 j g1)=mR e m l (match prs m f 1 j g1 with
         |.error q=>.error q
         |.ok (r,k,g2)=>.ok (.cons p r,k,g2)):=by
        rintro e' rfl
        cases prs m f 1 j g1 with
        |error q=>rfl
        |ok q=>
         obtain⟨r,k2,g2⟩:=q
         unfold mR
         dsimp only
         simp only[Nd.null,Nd.code,List.length_append,p.code_len,Bool.and_assoc,List.append_assoc]
       cases hpn:p.null with
       |true=>
        rw[Bool.not_true,cond_false,go]
        exact fin e (by rw[hpn,Bool.and_true])
       |false=>
        rw[Bool.not_false,cond_true,go]
        exact fin false (by rw[hpn,Bool.and_false])
  ·rw[Nv]
   unfold cx
   have hil:m[i]? =some m[i] :=List.getElem?_eq_getElem h1
   rw[ixn,hil,Option.bind_some]
   cases hb:bL m 40 i with
   |true=>
    have h40:(b2i m[i] ==b2i 40)=true:=by unfold bL at hb;rw[hil] at hb;exact hb
    rw[cond_true]
    by_cases hg9:g=9
    ·subst hg9
     rw[show(((9:Nat):Int))=9 from rfl,Bu hb]
     rfl
    ·rw[beq_eq_false_iff_ne.2 hg9,cond_false,He (R:=prs m f 0 (i+1) (g+1)) rfl hm hb (by omega) l h5 (fun M j g1 h=>by
      have:=dS f 0 (i+1) (g+1) h (by omega) (by omega)
      omega) (fun l2 hl2=>ihM k (i+1) (g+1) l2 (by omega) (by omega) (by omega) (by omega) (by omega))]
     cases hM:prs m f 0 (i+1) (g+1) with
     |error q=>rfl
     |ok p=>
      obtain⟨M,j,g1⟩:=p
      have hk:=dS f 0 (i+1) (g+1) hM (by omega) (by omega)
      unfold Fi
      dsimp only
      cases h41:bL m 41 j with
      |false=>rfl
      |true=>
       have hj:=dl h41
       rw[cond_true,cond_true,Option.bind_some]
       dsimp only
       have hgs:∀k,k≤1→(tp (g+1) M l.length).map (shS ((k:Nat):Int))=tp (g+1) M (l.length+k):=fun k hk=>by
        unfold tp
        simp only[List.map_cons,List.map_append,List.map_nil,Iy]
        rw[M.code_sh (l.length+1) k (by omega),show l.length+1+k=l.length+k+1 by omega]
       have ht:=Cr (NR:=⟨3000,bj 3000 k⟩) rfl m (j:=j+1) (by omega) (g1:Int) l (b2i m[i] ==b2i 40) M.null (tp (g+1) M) (n:=M.len+2) (FH (g+1) M) hgs (by omega)
       refine Eq.trans ht ?_
       rw[h40,Bool.and_true]
       cases hs:(ea m (j+1)==0) with
       |true=>
        rw[cond_true,cond_true,fU]
        simp only[Nd.null,Nd.code,tp]
        rfl
       |false=>
        rw[cond_false,cond_false]
        cases hz:(M.null && !(ea m (j+1)==63)) with
        |true=>rw[cond_true,cond_true];rfl
        |false=>
         rw[cond_false,cond_false,fU]
         have hnull:(Nd.grp (g+1) M (ea m (j+1))).null=sgN (ea m (j+1)):=by
          unfold Nd.null
          cases hmn:M.null with
          |false=>rw[Bool.or_false]
          |true=>
           rw[hmn,Bool.true_and,Bool.not_eq_false'] at hz
           rw[beq_iff_eq.1 hz];rfl
         rw[hnull]
         rfl
   |false=>
    have h40:(b2i m[i] ==b2i 40)=false:=by unfold bL at hb;rw[hil] at hb;exact hb
    rw[cond_false,JC rfl hm hil h40 _ _ (by omega)]
    cases hS:io m i with
    |error q=>rfl
    |ok p=>
     obtain⟨S,j⟩:=p
     have hS':=qA hS
     unfold LO
     rw[Option.bind_some]
     dsimp only
     have ht:=Cr (NR:=⟨3000,bj 3000 k⟩) rfl m (j:=j) (by omega) (g:Int) l (b2i m[i] ==b2i 40) false (fun _=>[tkS S]) (n:=1) (fun _=>rfl) (fun _ _=>rfl) (by omega)
     refine Eq.trans ht ?_
     rw[Bool.false_and,Bool.false_and]
     cases hs:(ea m j==0) with
     |true=>
      rw[cond_true,cond_true,fU]
      rfl
     |false=>
      rw[cond_false,cond_false,cond_false,fU]
      rfl
set_option maxRecDepth 1000000
def dnS:Vstep:=⟨4,0,0,none⟩
inductive StOk (n G p:Nat):Vstep→Prop
 |tk {S:List Bool} (h1:S.length=256) (h2:p+1 < n):StOk n G p (tkS S)
 |fk {a b:Nat} (h1:a < n) (h2:b < n):StOk n G p (fkS a b)
 |jp {a:Nat} (h1:a < n):StOk n G p (jpS a)
 |sv {a:Nat} (h1:a < 2 * G+2) (h2:p+1 < n):StOk n G p (svS a)
 |dn:StOk n G p dnS
def MOk(st:List Vstep)(G:Nat):Prop:=(∀p s,st[p]? =some s→StOk st.length G p s)∧st.length≤200∧G≤9
inductive Eps (st:List Vstep):Nat→Nat→Prop
 |fka {p a b:Nat} (h:st[p]? =some (fkS a b)):Eps st p a
 |fkb {p a b:Nat} (h:st[p]? =some (fkS a b)):Eps st p b
 |jp {p a:Nat} (h:st[p]? =some (jpS a)):Eps st p a
 |sv {p a:Nat} (h:st[p]? =some (svS a)):Eps st p (p+1)
inductive Rch (st:List Vstep):Nat→Nat→Prop
 |refl (p:Nat):Rch st p p
 |step {p q r:Nat} (h:Eps st p q) (h':Rch st q r):Rch st p r
theorem Rch.trans{st:List Vstep}{p q r:Nat}(h:Rch st p q)(h':Rch st q r):Rch st p r:=by
 induction h with
 |refl=>exact h'
 |step h _ ih=>exact .step h (ih h')
def vr(st:List Vstep)(p:Nat):Prop:=(∃S,st[p]? =some (tkS S))∨st[p]? =some dnS
def rF(G len:Nat)(sl:List Int):Prop:=sl.length=2 * G+2∧∀v∈sl,-1≤v∧v≤(len:Int)
def inM(met:List (Int × Bool))(q:Nat):Bool:=(kH met (q:Int)).getD false
theorem zN{k k':Int}:∀ (met:List (Int × Bool)),(kH (aF met k true) k').getD false=(decide (k'=k)|| (kH met k').getD false)
 | [] =>by
   by_cases h:k'=k
   ·subst h;simp[aF,kH]
   ·simp[aF,kH,h]
 | (a,b)::r=>by
   rw[aF]
   by_cases h:k=a
   ·rw[if_pos h,kH,kH]
    by_cases h':k'=k
    ·rw[if_pos h'];simp[h']
    ·rw[if_neg h',if_neg (by rw[← h];exact h')];simp[h']
   ·rw[if_neg h,kH,kH]
    by_cases h':k'=a
    ·have:¬k'=k:=fun e=>h (e.symm.trans h')
     rw[if_pos h',if_pos h'];simp[this]
    ·rw[if_neg h',if_neg h',zN r]
theorem gP(met:List (Int × Bool))(p q:Nat):inM (aF met (p:Int) true) q=(decide (q=p)|| inM met q):=by
 unfold inM
 rw[zN]
 congr 1
 rw[decide_eq_decide]
 omega
def cnt(n:Nat)(met:List (Int × Bool)):Nat:=((List.range n).filter fun q=> !inM met q).length
theorem oM{α:Type}{p q:α→Bool}:∀ (l:List α),(∀x∈l,p x=true→q x=true)→(l.filter p).length≤(l.filter q).length
 | [],_=>Nat.le_refl _
 |a::r,h=>by
  have ih:=oM r fun x hx=>h x (List.mem_cons_of_mem _ hx)
  have ha:=h a List.mem_cons_self
  rw[List.filter_cons,List.filter_cons]
  cases hp:p a with
  |false=>
   cases hq:q a with
   |false=>simpa using ih
   |true=>simp;omega
  |true=>rw[ha hp];simpa using ih
theorem oO{α:Type}{p q:α→Bool}{a:α}:∀ (l:List α),(∀x∈l,p x=true→q x=true)→a∈l→p a=false→q a=true→(l.filter p).length < (l.filter q).length
 | [],_,h,_,_=>by cases h
 |b::r,h,ha,hp,hq=>by
  have hr:=oM r fun x hx=>h x (List.mem_cons_of_mem _ hx)
  rw[List.filter_cons,List.filter_cons]
  rcases List.mem_cons.1 ha with rfl|ha
  ·rw[hp,hq];simp;omega
  ·have ih:=oO r (fun x hx=>h x (List.mem_cons_of_mem _ hx)) ha hp hq
   have hb:=h b List.mem_cons_self
   cases hpb:p b with
   |false=>
    cases hqb:q b with
    |false=>simpa using ih
    |true=>simp;omega
   |true=>rw[hb hpb];simpa using ih
theorem pS{n:Nat}{met:List (Int × Bool)}{p:Nat}(hp:p < n)(h:inM met p=false):cnt n (aF met (p:Int) true) < cnt n met:=by
 unfold cnt
 refine oO (a:=p) _ (fun q hq h1=> ?_) (List.mem_range.2 hp) (by rw[gP];simp) (by rw[h];rfl)
 rw[gP] at h1
 cases hm:inM met q with
 |false=>rfl
 |true=>rw[hm] at h1;simp at h1
theorem tA(n:Nat)(met:List (Int × Bool)):cnt n met≤n:=by
 unfold cnt
 refine Nat.le_trans (List.length_filter_le _ _) (by simp)
structure AddP (st:List Vstep) (G len:Nat) (p:Nat) (met:List (Int × Bool)) (l2:List Vthread) (met2:List (Int × Bool)):Prop where
 mono:∀q,inM met q=true→inM met2 q=true
 self:inM met2 p=true
 clos:∀q,inM met2 q=true→inM met q=false→q < st.length∧(∀q',Eps st q q'→inM met2 q'=true)∧Rch st p q∧(vr st q→∃t∈l2,t.at_=(q:Int))
 thr:∀t∈l2,∃q:Nat,t.at_=(q:Int)∧vr st q∧Rch st p q∧rF G len t.slots
 size:l2.length+cnt st.length met2≤cnt st.length met
theorem Ek{st:List Vstep}{G len p:Nat}{met:List (Int × Bool)}(h:inM met p=true):AddP st G len p met [] met:=
 ⟨fun q h=>h,h,(fun q h1 h2=>by rw[h1] at h2;cases h2),(fun t ht=>by cases ht),(by simp)⟩
theorem n6{st:List Vstep}{G len p:Nat}{met:List (Int × Bool)}{sl:List Int}(hp:p < st.length)(h:inM met p=false)(hs:vr st p)(hne:∀q,¬Eps st p q)(hsl:rF G len sl):AddP st G len p met [⟨(p:Int),sl⟩] (aF met (p:Int) true):=by
 refine⟨fun q h=>by rw[gP,h,Bool.or_true],by rw[gP];simp,fun q h1 h2=> ?_,fun t ht=> ?_,?_⟩
 ·rw[gP,h2,Bool.or_false] at h1
  have:q=p:=of_decide_eq_true h1
  subst this
  exact⟨hp,fun q' he=>absurd he (hne q'),.refl _,fun _=>⟨_,List.mem_singleton.2 rfl,rfl⟩⟩
 ·rw[List.mem_singleton] at ht
  subst ht
  exact⟨p,rfl,hs,.refl _,hsl⟩
 ·have:=pS (n:=st.length) hp h
  simp;omega
theorem qt{st:List Vstep}{G len p a:Nat}{met met2:List (Int × Bool)}{l2:List Vthread}(hp:p < st.length)(h:inM met p=false)(hs:¬vr st p)(he:Eps st p a)(hne:∀q,Eps st p q→q=a)(ha:AddP st G len a (aF met (p:Int) true) l2 met2):AddP st G len p met l2 met2:=by
 have hc:=pS (n:=st.length) hp h
 refine⟨fun q h=>ha.mono q (by rw[gP,h,Bool.or_true]),ha.mono p (by rw[gP];simp),fun q h1 h2=> ?_,fun t ht=> ?_,by have:=ha.size;omega⟩
 ·by_cases e:q=p
  ·subst e
   exact⟨hp,fun q' h'=>by rw[hne q' h'];exact ha.self,.refl _,fun h'=>absurd h' hs⟩
  ·obtain⟨k1,k2,k3,k4⟩:=ha.clos q h1 (by rw[gP,h2];simp[e])
   exact⟨k1,k2,.step he k3,k4⟩
 ·obtain⟨q,k1,k2,k3,k4⟩:=ha.thr t ht
  exact⟨q,k1,k2,.step he k3,k4⟩
theorem Ae{st:List Vstep}{G len p a b:Nat}{met met1 met2:List (Int × Bool)}{l1 l2:List Vthread}(hp:p < st.length)(h:inM met p=false)(hs:¬vr st p)(hea:Eps st p a)(heb:Eps st p b)(hne:∀q,Eps st p q→q=a∨q=b)(ha:AddP st G len a (aF met (p:Int) true) l1 met1)(hb:AddP st G len b met1 l2 met2):AddP st G len p met (l1++l2) met2:=by
 have hc:=pS (n:=st.length) hp h
 refine⟨fun q h=>hb.mono q (ha.mono q (by rw[gP,h,Bool.or_true])),hb.mono p (ha.mono p (by rw[gP];simp)),fun q h1 h2=> ?_,fun t ht=> ?_,by have:=ha.size;have:=hb.size;rw[List.length_append];omega⟩
 ·by_cases e:q=p
  ·subst e
   exact⟨hp,fun q' h'=>by rcases hne q' h' with rfl|rfl;exact hb.mono _ ha.self;exact hb.self,.refl _,fun h'=>absurd h' hs⟩
  ·cases hm:inM met1 q with
   |true=>
    obtain⟨k1,k2,k3,k4⟩:=ha.clos q hm (by rw[gP,h2];simp[e])
    refine⟨k1,fun q' h'=>hb.mono _ (k2 q' h'),.step hea k3,fun h'=> ?_⟩
    obtain⟨t,ht,e⟩:=k4 h'
    exact⟨t,List.mem_append_left _ ht,e⟩
   |false=>
    obtain⟨k1,k2,k3,k4⟩:=hb.clos q h1 hm
    refine⟨k1,k2,.step heb k3,fun h'=> ?_⟩
    obtain⟨t,ht,e⟩:=k4 h'
    exact⟨t,List.mem_append_right _ ht,e⟩
 ·rcases List.mem_append.1 ht with ht|ht
  ·obtain⟨q,k1,k2,k3,k4⟩:=ha.thr t ht
   exact⟨q,k1,k2,.step hea k3,k4⟩
  ·obtain⟨q,k1,k2,k3,k4⟩:=hb.thr t ht
   exact⟨q,k1,k2,.step heb k3,k4⟩
theorem zA(N:Nat){sl:List Int}(h1:0 < sl.length)(h2:sl.length≤1000):f0 N sl=some (.ok (sl.length,sl)):=by
 cases sl with
 |nil=>simp at h1
 |cons a r=>
  show(if r.length < 1000000 then _ else _)=_
  rw[if_pos (by simp at h2;omega)];rfl
theorem rF.set{G len:Nat}{sl:List Int}(h:rF G len sl)(a:Nat){v:Int}(h1: -1≤v)(h2:v≤(len:Int)):rF G len (sl.set a v):=by
 refine⟨by simpa using h.1,fun x hx=> ?_⟩
 rcases List.mem_or_eq_of_mem_set hx with hx|rfl
 ·exact h.2 x hx
 ·exact⟨h1,h2⟩
theorem cX{st:List Vstep}{p q:Nat}{s:Vstep}(h:Eps st p q)(hs:st[p]? =some s):(∃a b,s=fkS a b∧(q=a∨q=b))∨(∃a,s=jpS a∧q=a)∨(∃a,s=svS a∧q=p+1):=by
 cases h with
 |fka h=>rw[hs] at h;cases h;exact .inl ⟨_,_,rfl,.inl rfl⟩
 |fkb h=>rw[hs] at h;cases h;exact .inl ⟨_,_,rfl,.inr rfl⟩
 |jp h=>rw[hs] at h;cases h;exact .inr (.inl ⟨_,rfl,rfl⟩)
 |sv h=>rw[hs] at h;cases h;exact .inr (.inr ⟨_,rfl,rfl⟩)
theorem Bx{a b a' b':Nat}(h:fkS a b=fkS a' b'):a=a'∧b=b':=by
 have h1:=congrArg Vstep.a h
 have h2:=congrArg Vstep.b h
 simp only[fkS] at h1 h2
 omega
theorem Bv{a a':Nat}(h:jpS a=jpS a'):a=a':=by
 have h1:=congrArg Vstep.a h
 simp only[jpS] at h1
 omega
theorem jm{st:List Vstep}{p:Nat}{s:Vstep}(h:vr st p)(hs:st[p]? =some s):s.kind=0∨s.kind=4:=by
 rcases h with ⟨S,h⟩|h
 ·rw[hs] at h;cases h;exact .inl rfl
 ·rw[hs] at h;cases h;exact .inr rfl
theorem qFS(k xn:Nat)(t:Vthread)(p:Int)(M:VMask)(l:List Vthread)(met:List (Int × Bool)):ca 3000 (k+1) xn t p M l met=ew ⟨3000,ca 3000 k⟩ xn t p M l met:=rfl
theorem yh{st:List Vstep}{Gi:Int}{G len:Nat}(hM:MOk st G)(place:Nat)(hpl:place≤len):∀ (k:Nat) (p:Nat) (sl:List Int) (l:List Vthread) (met:List (Int × Bool)),p < st.length→rF G len sl→cnt st.length met < k→l.length+cnt st.length met≤1000→
  ∃l2 met2,ca 3000 k l.length ⟨(p:Int),sl⟩ (place:Int) ⟨Gi,st⟩ l met=some (.ok ((l++l2).length,⟨Gi,st⟩,l++l2,met2))∧AddP st G len p met l2 met2
 |0,p,sl,l,met,h1,h2,h3,h4=>by omega
 |k+1,p,sl,l,met,h1,h2,h3,h4=>by
  obtain⟨hst,hn,hG⟩:=hM
  rw[qFS]
  unfold ew
  show ∃l2 met2,(bif inM met p then _ else _)=_∧_
  cases hm:inM met p with
  |true=>
   refine⟨[],met,?_,Ek hm⟩
   rw[cond_true,List.append_nil]
  |false=>
   have hs:=List.getElem?_eq_getElem h1
   have hok:=hst p _ hs
   have hc:=pS (n:=st.length) h1 hm
   rw[cond_false,ixn,hs,Option.bind_some]
   dsimp only
   generalize st[p] =s at hs hok
   unfold ae
   have hmet:∀q (l':List Vthread) sl',q < st.length→rF G len sl'→l'.length+cnt st.length (aF met (p:Int) true)≤1000→∃l2 met2,bU ⟨3000,ca 3000 k⟩ l'.length ⟨(q:Int),sl'⟩ (place:Int) ⟨Gi,st⟩ l' (aF met (p:Int) true)=some (.ok ((l'++l2).length,⟨Gi,st⟩,l'++l2,met2))∧AddP st G len q (aF met (p:Int) true) l2 met2:=fun q l' sl' hq hsl hl=>yh ⟨hst,hn,hG⟩ place hpl k q sl' l' _ hq hsl (by omega) hl
   cases hok with
   | @tk S g1 g2=>
     rw[show((tkS S).kind==2)=false from rfl,show((tkS S).kind==1)=false from rfl,show((tkS S).kind==3)=false from rfl,cond_false,cond_false,cond_false]
     have hv:kA 32 l.length l [(⟨(p:Int),sl⟩:Vthread)] =some (l++ [⟨(p:Int),sl⟩]):=by
      unfold kA
      rw[if_pos ⟨rfl,by simp,by simp;omega⟩]
     rw[hv,Option.bind_some]
     refine⟨_,_,rfl,n6 h1 hm (.inl ⟨_,hs⟩) (fun q he=> ?_) h2⟩
     rcases cX he hs with ⟨a,b,e,_⟩| ⟨a,e,_⟩| ⟨a,e,_⟩<;> cases e
   | @fk a b g1 g2=>
     rw[show((fkS a b).kind==2)=false from rfl,show((fkS a b).kind==1)=true from rfl,cond_false,cond_true]
     obtain⟨l1,met1,e1,a1⟩:=hmet a l sl g1 h2 (by omega)
     have s1:=a1.size
     obtain⟨l2,met2,e2,a2⟩:=yh (Gi:=Gi) ⟨hst,hn,hG⟩ place hpl k b sl (l++l1) met1 g2 h2 (by omega) (by rw[List.length_append];omega)
     show ∃l2 met2,((bU ⟨3000,ca 3000 k⟩ l.length ⟨(a:Int),sl⟩ (place:Int) ⟨Gi,st⟩ l (aF met (p:Int) true)).bind _)=_∧_
     rw[e1,Option.bind_some]
     dsimp only
     have e2':bU ⟨3000,ca 3000 k⟩ (l++l1).length ⟨(b:Int),sl⟩ (place:Int) ⟨Gi,st⟩ (l++l1) met1=_:=e2
     refine⟨l1++l2,met2,?_,Ae h1 hm (fun hstp=>by have:=jm hstp hs;rcases this with h|h<;> cases h) (.fka hs) (.fkb hs) (fun q he=> ?_) a1 a2⟩
     ·show((bU ⟨3000,ca 3000 k⟩ (l++l1).length ⟨(b:Int),sl⟩ (place:Int) ⟨Gi,st⟩ (l++l1) met1).bind _)=_
      rw[e2',Option.bind_some,List.append_assoc]
     ·rcases cX he hs with ⟨a',b',e,h⟩| ⟨a',e,_⟩| ⟨a',e,_⟩
      ·obtain⟨rfl,rfl⟩:=Bx e;exact h
      ·cases e
      ·cases e
   | @jp a g1=>
     rw[show((jpS a).kind==2)=true from rfl,cond_true]
     obtain⟨l1,met1,e1,a1⟩:=hmet a l sl g1 h2 (by omega)
     refine⟨l1,met1,?_,qt h1 hm (fun hstp=>by have:=jm hstp hs;rcases this with h|h<;> cases h) (.jp hs) (fun q he=> ?_) a1⟩
     ·show((bU ⟨3000,ca 3000 k⟩ l.length ⟨(a:Int),sl⟩ (place:Int) ⟨Gi,st⟩ l (aF met (p:Int) true)).bind _)=_
      rw[e1,Option.bind_some]
     ·rcases cX he hs with ⟨a',b',e,_⟩| ⟨a',e,h⟩| ⟨a',e,_⟩
      ·cases e
      ·rw[h];exact(Bv e).symm
      ·cases e
   | @sv a g1 g2=>
     rw[show((svS a).kind==2)=false from rfl,show((svS a).kind==1)=false from rfl,show((svS a).kind==3)=true from rfl,cond_false,cond_false,cond_true]
     have hsl:=h2.1
     obtain⟨l1,met1,e1,a1⟩:=hmet (p+1) l (sl.set a (place:Int)) g2 (h2.set a (by omega) (by omega)) (by omega)
     refine⟨l1,met1,?_,qt h1 hm (fun hstp=>by have:=jm hstp hs;rcases this with h|h<;> cases h) (.sv hs) (fun q he=> ?_) a1⟩
     ·show((f0 3000 sl).bind _)=_
      rw[zA 3000 (by omega) (by omega),Option.bind_some]
      dsimp only
      have e3:dP sl.length ((svS a).a)=some a:=fj (by omega)
      have e4:sl[a]? =some sl[a] :=List.getElem?_eq_getElem (by omega)
      have e5:j8 sl.length (sl.set a (place:Int))=some (sl.set a (place:Int)):=by
       unfold j8
       rw[if_pos (by simp)]
      rw[e3,Option.bind_some,e4,Option.bind_some,e5,Option.bind_some,jD (by omega),e1,Option.bind_some]
     ·rcases cX he hs with ⟨a',b',e,_⟩| ⟨a',e,h⟩| ⟨a',e,h⟩
      ·cases e
      ·cases e
      ·exact h
   |dn=>
    rw[show(dnS.kind==2)=false from rfl,show(dnS.kind==1)=false from rfl,show(dnS.kind==3)=false from rfl,cond_false,cond_false,cond_false]
    have hv:kA 32 l.length l [(⟨(p:Int),sl⟩:Vthread)] =some (l++ [⟨(p:Int),sl⟩]):=by
     unfold kA
     rw[if_pos ⟨rfl,by simp,by simp;omega⟩]
    rw[hv,Option.bind_some]
    refine⟨_,_,rfl,n6 h1 hm (.inr hs) (fun q he=> ?_) h2⟩
    rcases cX he hs with ⟨a,b,e,_⟩| ⟨a,e,_⟩| ⟨a,e,_⟩<;> cases e
set_option maxRecDepth 1000000
inductive Acc (st:List Vstep):Nat→List UInt8→Prop
 |dn {p:Nat} (h:st[p]? =some dnS):Acc st p []
 |tk {p:Nat} {S:List Bool} {b:UInt8} {s:List UInt8} (h:st[p]? =some (tkS S)) (hb:rH 256 (some S) (b2i b)=some true) (h':Acc st (p+1) s):Acc st p (b::s)
 |ep {p q:Nat} {s:List UInt8} (h:Eps st p q) (h':Acc st q s):Acc st p s
theorem zp{st:List Vstep}{p:Nat}{s:List UInt8}(h:Acc st p s):∃q,Rch st p q∧vr st q∧Acc st q s:=by
 induction h with
 |dn h=>exact⟨_,.refl _,.inr h,.dn h⟩
 |tk h hb h' _=>exact⟨_,.refl _,.inl ⟨_,h⟩,.tk h hb h'⟩
 |ep h _ ih=>
  obtain⟨q,h1,h2,h3⟩:=ih
  exact⟨q,.step h h1,h2,h3⟩
theorem C7{st:List Vstep}{p q:Nat}{s:List UInt8}(h:Rch st p q)(h':Acc st q s):Acc st p s:=by
 induction h with
 |refl=>exact h'
 |step h _ ih=>exact .ep h (ih h')
theorem Fd{S:List Bool}(b:UInt8):∃v,rH 256 (some S) (b2i b)=some v:=by
 have hb:=b.toNat_lt
 unfold rH dP
 rw[Option.bind_some,oN,if_pos (by omega)]
 exact⟨_,rfl⟩
def TOk(st:List Vstep)(G len:Nat)(T:List Vthread):Prop:=T.length≤200∧∀t∈T,∃q:Nat,t.at_=(q:Int)∧vr st q∧q < st.length∧rF G len t.slots
def Sta(st:List Vstep)(T:List Vthread)(c:UInt8)(j p:Nat):Prop:=∃j' t,j' < j∧T[j']? =some t∧∃ (q:Nat) (S:List Bool),t.at_=(q:Int)∧st[q]? =some (tkS S)∧rH 256 (some S) (b2i c)=some true∧p=q+1
structure RI (st:List Vstep) (G len:Nat) (T:List Vthread) (c:UInt8) (j:Nat) (next:List Vthread) (met:List (Int × Bool)):Prop where
 r1:∀q,inM met q=true→q < st.length∧(∀q',Eps st q q'→inM met q'=true)∧(vr st q→∃t∈next,t.at_=(q:Int))∧∃p,Sta st T c j p∧Rch st p q
 r2:∀p,Sta st T c j p→inM met p=true
 r3:∀t∈next,∃q:Nat,t.at_=(q:Int)∧vr st q∧inM met q=true∧rF G len t.slots
 r4:next.length+cnt st.length met≤st.length
theorem Sta.mono{st:List Vstep}{T:List Vthread}{c:UInt8}{j p:Nat}(h:Sta st T c j p):Sta st T c (j+1) p:=by
 obtain⟨j',t,h1,h2⟩:=h
 exact⟨j',t,by omega,h2⟩
theorem RI.skip{st:List Vstep}{G len:Nat}{T:List Vthread}{c:UInt8}{j:Nat}{next:List Vthread}{met:List (Int × Bool)}(h:RI st G len T c j next met)(hno:∀p,Sta st T c (j+1) p→Sta st T c j p):RI st G len T c (j+1) next met:=
 ⟨fun q hq=>by
  obtain⟨k1,k2,k3,p,k4,k5⟩:=h.r1 q hq
  exact⟨k1,k2,k3,p,k4.mono,k5⟩,fun p hp=>h.r2 p (hno p hp),h.r3,h.r4⟩
theorem RI.add{st:List Vstep}{G len:Nat}{T:List Vthread}{c:UInt8}{j p0:Nat}{next l2:List Vthread}{met met2:List (Int × Bool)}(h:RI st G len T c j next met)(ha:AddP st G len p0 met l2 met2)(h0:Sta st T c (j+1) p0)(hno:∀p,Sta st T c (j+1) p→Sta st T c j p∨p=p0):RI st G len T c (j+1) (next++l2) met2:=
 ⟨fun q hq=>by
  cases hm:inM met q with
  |true=>
   obtain⟨k1,k2,k3,p,k4,k5⟩:=h.r1 q hm
   refine⟨k1,fun q' h'=>ha.mono _ (k2 q' h'),fun hs=> ?_,p,k4.mono,k5⟩
   obtain⟨t,ht,e⟩:=k3 hs
   exact⟨t,List.mem_append_left _ ht,e⟩
  |false=>
   obtain⟨k1,k2,k3,k4⟩:=ha.clos q hq hm
   refine⟨k1,k2,fun hs=> ?_,p0,h0,k3⟩
   obtain⟨t,ht,e⟩:=k4 hs
   exact⟨t,List.mem_append_right _ ht,e⟩,
  fun p hp=>by
   rcases hno p hp with h'|rfl
   ·exact ha.mono _ (h.r2 p h')
   ·exact ha.self,
  fun t ht=>by
   rcases List.mem_append.1 ht with ht|ht
   ·obtain⟨q,k1,k2,k3,k4⟩:=h.r3 t ht
    exact⟨q,k1,k2,ha.mono _ k3,k4⟩
   ·obtain⟨q,k1,k2,k3,k4⟩:=ha.thr t ht
    refine⟨q,k1,k2,?_,k4⟩
    have hcl:∀ {a b:Nat},Rch st a b→inM met2 a=true→(∀q,inM met2 q=true→∀q',Eps st q q'→inM met2 q'=true)→inM met2 b=true:=fun hr=>by
     induction hr with
     |refl=>exact fun h _=>h
     |step he _ ih=>exact fun h hc=>ih (hc _ h _ he) hc
    refine hcl k3 ha.self fun q hq q' he=> ?_
    cases hm:inM met q with
    |true=>exact ha.mono _ ((h.r1 q hm).2.1 q' he)
    |false=>exact(ha.clos q hq hm).2.1 q' he,by
   have:=h.r4
   have:=ha.size
   rw[List.length_append]
   omega⟩
abbrev NQ:=(List UInt8)→Nat→Int→Int→VMask→(List Vthread)→Option (PR az)
theorem uY{st:List Vstep}{Gi:Int}{G:Nat}(hM:MOk st G){text:List UInt8}(htx:text.length≤2000){T:List Vthread}(hT:TOk st G text.length T){i:Nat}{c:UInt8}(hc:text[i]? =some c){k4:NQ}(x30 x31:Int):∀ (d j n:Nat) (next:List Vthread) (met:List (Int × Bool)),j+d=T.length→d+1≤n→RI st G text.length T c j next met→
  ∃next' met',ab 3000 k4 n text (i:Int) next.length x30 x31 T.length (T.length:Int) (j:Int) met ⟨Gi,st⟩ T next=k4 text next'.length x30 (w64 (x31+1)) ⟨Gi,st⟩ next'∧RI st G text.length T c T.length next' met'
 |d,j,0,next,met,h1,h2,hI=>by omega
 |0,j,n+1,next,met,h1,h2,hI=>by
  have hj:j=T.length:=by omega
  subst hj
  refine⟨next,met,?_,hI⟩
  rw[ab,decide_eq_false (by omega),cond_false]
 |d+1,j,n+1,next,met,h1,h2,hI=>by
  have hil:=(List.getElem?_eq_some_iff.1 hc).1
  have hjl:j < T.length:=by omega
  have hTj:=List.getElem?_eq_getElem hjl
  obtain⟨q,hq,hstop,hqn,hsl⟩:=hT.2 T[j] (List.getElem_mem hjl)
  rw[ab,decide_eq_true (by omega),cond_true,fj hjl,Option.bind_some,hTj,Option.bind_some,hq,ixn]
  have hTl:=hT.1
  have hno:∀p,Sta st T c (j+1) p→Sta st T c j p∨∃S,st[q]? =some (tkS S)∧rH 256 (some S) (b2i c)=some true∧p=q+1:=by
   rintro p ⟨j',t,k1,k2,q',S,k3,k4',k5,rfl⟩
   by_cases e:j'=j
   ·subst e
    rw[hTj] at k2;cases k2
    have:q'=q:=by rw[hq] at k3;omega
    subst this
    exact .inr ⟨S,k4',k5,rfl⟩
   ·exact .inl ⟨j',t,by omega,k2,q',S,k3,k4',k5,rfl⟩
  have skip:(∀p,Sta st T c (j+1) p→Sta st T c j p)→∃next' met',bQ 3000 (ab 3000 k4 n) k4 n text (i:Int) next.length x30 x31 T.length (T.length:Int) (j:Int) met ⟨Gi,st⟩ T next=k4 text next'.length x30 (w64 (x31+1)) ⟨Gi,st⟩ next'∧RI st G text.length T c T.length next' met':=fun hn=>by
   unfold bQ
   rw[jD (by omega)]
   exact uY hM htx hT hc x30 x31 d (j+1) n next met (by omega) (by omega) (hI.skip hn)
  rcases hstop with ⟨S,hs⟩|hs
  ·rw[hs,Option.bind_some]
   unfold aa
   rw[show((tkS S).kind==0)=true from rfl,cond_true,ixn,hc,Option.bind_some]
   show ∃next' met',((rH 256 (some S) (b2i c)).bind _)=_∧_
   obtain⟨v,hv⟩:=Fd (S:=S) c
   rw[hv,Option.bind_some]
   have hsame:∀S',st[q]? =some (tkS S')→S'=S:=fun S' h=>by
    rw[hs] at h
    have:=congrArg Vstep.set_ (Option.some.inj h)
    exact(Option.some.inj this).symm
   cases v with
   |false=>
    rw[cond_false]
    exact skip fun p hp=>by
     rcases hno p hp with h| ⟨S',k1,k2,_⟩
     ·exact h
     ·rw[hsame S' k1,hv] at k2;cases k2
   |true=>
    rw[cond_true]
    have hok:=hM.1 q _ hs
    have hq1:q+1 < st.length:=by
     generalize hg:tkS S=sg at hok
     cases hok with
     |tk _ h=>exact h
     |fk _ _=>cases hg
     |jp _=>cases hg
     |sv _ _=>cases hg
     |dn=>cases hg
    have hsz:=hM.2.1
    have h4:=hI.r4
    have hcn:=tA st.length met
    obtain⟨l2,met2,e,a⟩:=yh (Gi:=Gi) (len:=text.length) hM (i+1) (by omega) 3000 (q+1) T[j].slots next met hq1 hsl (by omega) (by omega)
    have e':bz 3000 next.length ⟨((q+1:Nat):Int),T[j].slots⟩ ((i+1:Nat):Int) ⟨Gi,st⟩ next met=_:=e
    rw[hq,jD (by omega),jD (by omega),e',Option.bind_some]
    dsimp only
    unfold bQ
    rw[jD (by omega)]
    exact uY hM htx hT hc x30 x31 d (j+1) n (next++l2) met2 (by omega) (by omega) (hI.add a ⟨j,T[j],by omega,hTj,q,S,hq,hs,hv,rfl⟩ fun p hp=>by
     rcases hno p hp with h| ⟨S',_,_,h⟩
     ·exact .inl h
     ·exact .inr h)
  ·rw[hs,Option.bind_some]
   unfold aa
   rw[show(dnS.kind==0)=false from rfl,cond_false]
   exact skip fun p hp=>by
    rcases hno p hp with h| ⟨S',k1,_,_⟩
    ·exact h
    ·rw[hs] at k1;cases k1
theorem RI.zero{st:List Vstep}{G len:Nat}{T:List Vthread}{c:UInt8}:RI st G len T c 0 [] [] :=
 ⟨(fun q hq=>by cases hq),(fun p ⟨j',t,h,_⟩=>by omega),(fun t ht=>by cases ht),(by have:=tA st.length [];simpa using this)⟩
theorem RI.tok{st:List Vstep}{G len:Nat}{T next:List Vthread}{c:UInt8}{j:Nat}{met:List (Int × Bool)}(hM:MOk st G)(h:RI st G len T c j next met):TOk st G len next:=by
 refine⟨by have:=h.r4;have:=hM.2.1;omega,fun t ht=> ?_⟩
 obtain⟨q,k1,k2,k3,k4⟩:=h.r3 t ht
 exact⟨q,k1,k2,(h.r1 q k3).1,k4⟩
theorem H6{st:List Vstep}{met:List (Int × Bool)}(hc:∀q,inM met q=true→∀q',Eps st q q'→inM met q'=true){a b:Nat}(h:Rch st a b)(ha:inM met a=true):inM met b=true:=by
 induction h with
 |refl=>exact ha
 |step he _ ih=>exact ih (hc _ ha _ he)
def Way(st:List Vstep)(T:List Vthread)(s:List UInt8):Prop:=∃t∈T,∃q:Nat,t.at_=(q:Int)∧Acc st q s
theorem RI.way{st:List Vstep}{G len:Nat}{T next:List Vthread}{c:UInt8}{met:List (Int × Bool)}(hT:TOk st G len T)(h:RI st G len T c T.length next met)(s:List UInt8):Way st next s ↔ Way st T (c::s):=by
 constructor
 ·rintro⟨t,ht,q,hq,ha⟩
  obtain⟨q',k1,k2,k3,k4⟩:=h.r3 t ht
  have:q'=q:=by rw[hq] at k1;omega
  subst this
  obtain⟨_,_,_,p,⟨j,t',h1,h2,q0,S,h3,h4,h5,rfl⟩,hr⟩:=h.r1 q' k3
  exact⟨t',List.mem_of_getElem? h2,q0,h3,.tk h4 h5 (C7 hr ha)⟩
 ·rintro⟨t,ht,q,hq,ha⟩
  obtain⟨q',k1,k2,_⟩:=hT.2 t ht
  have:q'=q:=by rw[hq] at k1;omega
  subst this
  obtain⟨j,hj⟩:=List.getElem?_of_mem ht
  cases ha with
  |tk h1 h2 h3=>
   obtain⟨r,r1,r2,r3⟩:=zp h3
   have hin:=h.r2 (q'+1) ⟨j,t,(List.getElem?_eq_some_iff.1 hj).1,hj,q',_,hq,h1,h2,rfl⟩
   have hr:=H6 (fun q hq=>(h.r1 q hq).2.1) r1 hin
   obtain⟨t',ht',e⟩:=(h.r1 r hr).2.2.1 r2
   exact⟨t',ht',r,e,r3⟩
  |ep h1 h2=>
   exfalso
   rcases k2 with ⟨S,k2⟩|k2
   ·rcases cX h1 k2 with ⟨a,b,e,_⟩| ⟨a,e,_⟩| ⟨a,e,_⟩<;> cases e
   ·rcases cX h1 k2 with ⟨a,b,e,_⟩| ⟨a,e,_⟩| ⟨a,e,_⟩<;> cases e
theorem rX{st:List Vstep}{G:Nat}(hG:G≤9){text:List UInt8}(htx:text.length≤2000){sl:List Int}(hsl:rF G text.length sl):∀ (d n x:Nat) (out:List (List UInt8)),x+d=G+1→d+1≤n→out.length≤x→0 < x→∃ls,bh 3000 n text sl out (x:Int) ⟨(G:Int),st⟩=some (ls,⟨(G:Int),st⟩)
 |d,0,x,out,h1,h2,h3,h4=>by omega
 |0,n+1,x,out,h1,h2,h3,h4=>by
  rw[bh,decide_eq_false (by show ¬((x:Int)≤(G:Int));omega),cond_false]
  exact⟨_,rfl⟩
 |d+1,n+1,x,out,h1,h2,h3,h4=>by
  have hl:=hsl.1
  have e1:w64 (2 * (x:Int))=((2 * x:Nat):Int):=by rw[pR (by omega) (by omega)];omega
  have e2:w64 (((2 * x:Nat):Int)+1)=((2 * x+1:Nat):Int):=jD (by omega)
  have g1:sl[2 * x]? =some (sl[2 * x]'(by omega)):=List.getElem?_eq_getElem (by omega)
  have g2:sl[2 * x+1]? =some (sl[2 * x+1]'(by omega)):=List.getElem?_eq_getElem (by omega)
  have b2:=hsl.2 _ (List.getElem_mem (show 2 * x+1 < sl.length by omega))
  generalize (sl[2 * x]'(by omega))=v1 at g1
  generalize (sl[2 * x+1]'(by omega))=v2 at g2 b2
  have r8:∀s,∃ls,bO 3000 (bh 3000 n) n text sl out (x:Int) s ⟨(G:Int),st⟩=some (ls,⟨(G:Int),st⟩):=fun s=>by
   unfold bO
   have ha:iQ 16 out [s] =some (out++ [s]):=by
    unfold iQ
    rw[if_pos (by simp only[List.length_cons,List.length_nil];omega)]
   rw[ha,Option.bind_some,jD (by omega)]
   exact rX hG htx hsl d n (x+1) _ (by omega) (by omega) (by simp;omega) (by omega)
  rw[bh,decide_eq_true (by show((x:Int)≤(G:Int));omega),cond_true,e1,ixn,g1,Option.bind_some]
  by_cases h0:v1≥0
  ·rw[decide_eq_true h0,cond_true,e2,ixn,g2,Option.bind_some,Option.bind_some]
   by_cases h5:v2≥v1
   ·have hs:∃s,lb text v1 v2=some s:=by
     unfold lb
     rw[if_pos (by omega)]
     exact⟨_,rfl⟩
    obtain⟨s,hs⟩:=hs
    rw[decide_eq_true h5,cond_true,Option.bind_some,Option.bind_some,hs,Option.bind_some]
    exact r8 s
   ·rw[decide_eq_false h5,cond_false]
    exact r8 _
  ·rw[decide_eq_false h0,cond_false]
   exact r8 _
theorem CO{st:List Vstep}{G:Nat}(hM:MOk st G){text:List UInt8}(htx:text.length≤2000){T:List Vthread}(hT:TOk st G text.length T):∀ (d j n:Nat),j+d=T.length→d+1≤n→(∀j' t,j' < j→T[j']? =some t→∀q:Nat,t.at_=(q:Int)→¬Acc st q [])→
  ∃b ls,cr 3000 n text T.length (T.length:Int) (j:Int) ⟨(G:Int),st⟩ T=some (.ok (b,ls,⟨(G:Int),st⟩))∧(b=true ↔ Way st T [])
 |d,j,0,h1,h2,h3=>by omega
 |0,j,n+1,h1,h2,h3=>by
  rw[cr,decide_eq_false (by omega),cond_false]
  refine⟨false,[],rfl,⟨(fun h=>by cases h),fun⟨t,ht,q,hq,ha⟩=> ?_⟩⟩
  obtain⟨j',hj'⟩:=List.getElem?_of_mem ht
  exact absurd ha (h3 j' t (by have:=(List.getElem?_eq_some_iff.1 hj').1;omega) hj' q hq)
 |d+1,j,n+1,h1,h2,h3=>by
  have hjl:j < T.length:=by omega
  have hTj:=List.getElem?_eq_getElem hjl
  have hTl:=hT.1
  obtain⟨q,hq,hstop,hqn,hsl⟩:=hT.2 T[j] (List.getElem_mem hjl)
  rw[cr,decide_eq_true (by omega),cond_true,fj hjl,Option.bind_some,hTj,Option.bind_some,hq,ixn]
  rcases hstop with ⟨S,hs⟩|hs
  ·rw[hs,Option.bind_some,show((tkS S).kind==4)=false from rfl,cond_false,jD (by omega)]
   refine CO hM htx hT d (j+1) n (by omega) (by omega) fun j' t k1 k2 q' k3 ha=> ?_
   by_cases e:j'=j
   ·subst e
    rw[hTj] at k2;cases k2
    have:q'=q:=by rw[hq] at k3;omega
    subst this
    cases ha with
    |dn h=>rw[hs] at h;cases h
    |ep h _=>rcases cX h hs with ⟨a,b,e,_⟩| ⟨a,e,_⟩| ⟨a,e,_⟩<;> cases e
   ·exact h3 j' t (by omega) k2 q' k3 ha
  ·rw[hs,Option.bind_some,show(dnS.kind==4)=true from rfl,cond_true]
   obtain⟨ls,hl⟩:=rX (st:=st) hM.2.2 htx hsl G 3000 1 [] (by omega) (by have:=hM.2.2;omega) (by simp) (by omega)
   have hl':dy 3000 text T[j].slots ⟨(G:Int),st⟩=some (ls,⟨(G:Int),st⟩):=hl
   rw[hl',Option.bind_some]
   exact⟨true,ls,rfl,fun _=>⟨T[j],List.getElem_mem hjl,q,hq,.dn hs⟩,fun _=>rfl⟩
theorem Dz{st:List Vstep}{G:Nat}(hM:MOk st G){text:List UInt8}(htx:text.length≤2000):∀ (d i n:Nat) (T:List Vthread),i+d=text.length→d+300≤n→TOk st G text.length T→
  ∃b ls,cj 3000 n text T.length (text.length:Int) (i:Int) ⟨(G:Int),st⟩ T=some (.ok (b,ls,⟨(G:Int),st⟩))∧(b=true ↔ Way st T (text.drop i))
 |d,i,0,T,h1,h2,hT=>by omega
 |0,i,n+1,T,h1,h2,hT=>by
  have:=hT.1
  rw[cj,decide_eq_false (by omega),cond_false,List.drop_eq_nil_of_le (by omega)]
  exact CO hM htx hT T.length 0 n (by omega) (by omega) (fun j' t h=>by omega)
 |d+1,i,n+1,T,h1,h2,hT=>by
  have hil:i < text.length:=by omega
  have:=hT.1
  rw[cj,decide_eq_true (by omega),cond_true]
  obtain⟨next,met,e,hR⟩:=uY (Gi:=(G:Int)) hM htx hT (List.getElem?_eq_getElem hil) (k4:=cj 3000 n) (text.length:Int) (i:Int) T.length 0 n [] [] (by omega) (by omega) RI.zero
  obtain⟨b,ls,e2,h⟩:=Dz hM htx d (i+1) n next (by omega) (by omega) (hR.tok hM)
  refine⟨b,ls,?_,?_⟩
  ·refine Eq.trans e ?_
   rw[jD (by omega)]
   exact e2
  ·rw[h,List.drop_eq_getElem_cons hil]
   exact hR.way hT _
theorem KE{st:List Vstep}{Gi:Int}{G len:Nat}(hM:MOk st G)(h0:0 < st.length){sl:List Int}(hsl:rF G len sl):∃l2 met2,dE 3000 ⟨0,sl⟩ 0 ⟨Gi,st⟩ [] =some (.ok (l2.length,⟨Gi,st⟩,met2,l2))∧AddP st G len 0 [] l2 met2:=by
 obtain⟨hst,hn,hG⟩:=hM
 have hs:=List.getElem?_eq_getElem h0
 have hok:=hst 0 _ hs
 have hm:inM [] 0=false:=rfl
 have hc:=pS (n:=st.length) h0 hm
 have hcl:=tA st.length []
 unfold dE
 show ∃l2 met2,((ap st ((0:Nat):Int)).bind _)=_∧_
 rw[ixn,hs,Option.bind_some]
 generalize st[0] =s at hs hok
 unfold ah
 have hadd:∀q (l':List Vthread) sl' met,q < st.length→rF G len sl'→l'.length+cnt st.length met≤1000→∃l2 met2,bz 3000 l'.length ⟨(q:Int),sl'⟩ 0 ⟨Gi,st⟩ l' met=some (.ok ((l'++l2).length,⟨Gi,st⟩,l'++l2,met2))∧AddP st G len q met l2 met2:=fun q l' sl' met hq hs' hl=>yh (Gi:=Gi) ⟨hst,hn,hG⟩ 0 (Nat.zero_le _) 3000 q sl' l' met hq hs' (by have:=tA st.length met;omega) hl
 have hset:(aF ([] :List (Int × Bool)) (0:Int) true)=aF [] ((0:Nat):Int) true:=rfl
 cases hok with
 | @tk S g1 g2=>exact⟨_,_,rfl,n6 (p:=0) h0 hm (.inl ⟨_,hs⟩) (fun q he=>by rcases cX he hs with ⟨a,b,e,_⟩| ⟨a,e,_⟩| ⟨a,e,_⟩<;> cases e) hsl⟩
 |dn=>exact⟨_,_,rfl,n6 (p:=0) h0 hm (.inr hs) (fun q he=>by rcases cX he hs with ⟨a,b,e,_⟩| ⟨a,e,_⟩| ⟨a,e,_⟩<;> cases e) hsl⟩
 | @fk a b g1 g2=>
   obtain⟨l1,met1,e1,a1⟩:=hadd a [] sl (aF [] ((0:Nat):Int) true) g1 hsl (by show 0+_≤1000;omega)
   have s1:=a1.size
   obtain⟨l2,met2,e2,a2⟩:=hadd b l1 sl met1 g2 hsl (by omega)
   rw[List.nil_append] at e1
   refine⟨l1++l2,met2,?_,Ae h0 hm (fun hstp=>by have:=jm hstp hs;rcases this with h|h<;> cases h) (.fka hs) (.fkb hs) (fun q he=> ?_) a1 a2⟩
   ·show((bz 3000 ([] :List Vthread).length ⟨(a:Int),sl⟩ 0 ⟨Gi,st⟩ [] (aF [] ((0:Nat):Int) true)).bind _)=_
    rw[e1,Option.bind_some]
    show((bz 3000 l1.length ⟨(b:Int),sl⟩ 0 ⟨Gi,st⟩ l1 met1).bind _)=_
    rw[e2,Option.bind_some]
   ·rcases cX he hs with ⟨a',b',e,h⟩| ⟨a',e,_⟩| ⟨a',e,_⟩
    ·obtain⟨rfl,rfl⟩:=Bx e;exact h
    ·cases e
    ·cases e
 | @jp a g1=>
   obtain⟨l1,met1,e1,a1⟩:=hadd a [] sl (aF [] ((0:Nat):Int) true) g1 hsl (by show 0+_≤1000;omega)
   rw[List.nil_append] at e1
   refine⟨l1,met1,?_,qt h0 hm (fun hstp=>by have:=jm hstp hs;rcases this with h|h<;> cases h) (.jp hs) (fun q he=> ?_) a1⟩
   ·show((bz 3000 ([] :List Vthread).length ⟨(a:Int),sl⟩ 0 ⟨Gi,st⟩ [] (aF [] ((0:Nat):Int) true)).bind _)=_
    rw[e1,Option.bind_some]
   ·rcases cX he hs with ⟨a',b',e,_⟩| ⟨a',e,h⟩| ⟨a',e,_⟩
    ·cases e
    ·rw[h];exact(Bv e).symm
    ·cases e
 | @sv a g1 g2=>
   have hl:=hsl.1
   obtain⟨l1,met1,e1,a1⟩:=hadd 1 [] (sl.set a 0) (aF [] ((0:Nat):Int) true) g2 (hsl.set a (by omega) (by omega)) (by show 0+_≤1000;omega)
   rw[List.nil_append] at e1
   refine⟨l1,met1,?_,qt h0 hm (fun hstp=>by have:=jm hstp hs;rcases this with h|h<;> cases h) (.sv hs) (fun q he=> ?_) a1⟩
   ·show((f0 3000 sl).bind _)=_
    rw[zA 3000 (by omega) (by omega),Option.bind_some]
    dsimp only
    have e3:dP sl.length ((svS a).a)=some a:=fj (by omega)
    have e4:sl[a]? =some sl[a] :=List.getElem?_eq_getElem (by omega)
    have e5:j8 sl.length (sl.set a 0)=some (sl.set a 0):=by
     unfold j8
     rw[if_pos (by simp)]
    rw[e3,Option.bind_some,e4,Option.bind_some,e5,Option.bind_some]
    show((bz 3000 ([] :List Vthread).length ⟨((1:Nat):Int),sl.set a 0⟩ 0 ⟨Gi,st⟩ [] (aF [] ((0:Nat):Int) true)).bind _)=_
    rw[e1,Option.bind_some]
   ·rcases cX he hs with ⟨a',b',e,_⟩| ⟨a',e,h⟩| ⟨a',e,h⟩
    ·cases e
    ·cases e
    ·exact h
theorem MF{st:List Vstep}{G:Nat}(hM:MOk st G)(h0:0 < st.length){text:List UInt8}(htx:text.length≤2000):∃b ls,dG 3000 text ⟨(G:Int),st⟩=some (.ok (b,ls,⟨(G:Int),st⟩))∧(b=true ↔ Acc st 0 text):=by
 have hG:=hM.2.2
 have hr:gK 3000 ([-1] :List Int) (w64 (w64 (2 * (G:Int))+2))=some (List.replicate (2 * G+2) (-1)):=by
  have e1:w64 (w64 (2 * (G:Int))+2)=((2 * G+2:Nat):Int):=by
   have e0:w64 (2 * (G:Int))=2 * (G:Int):=pR (by omega) (by omega)
   rw[e0,pR (by omega) (by omega)];omega
  rw[e1]
  unfold gK
  dsimp only
  rw[if_pos (by omega),Int.toNat_natCast]
 have hsl:rF G text.length (List.replicate (2 * G+2) (-1)):=⟨by simp,fun v hv=>by rw[(List.mem_replicate.1 hv).2];omega⟩
 obtain⟨l2,met2,e,a⟩:=KE (Gi:=(G:Int)) hM h0 hsl
 have hT:TOk st G text.length l2:=by
  refine⟨by have:=a.size;have:=tA st.length [];have:=hM.2.1;omega,fun t ht=> ?_⟩
  obtain⟨q,k1,k2,k3,k4⟩:=a.thr t ht
  refine⟨q,k1,k2,?_,k4⟩
  rcases k2 with ⟨S,k2⟩|k2<;> exact(List.getElem?_eq_some_iff.1 k2).1
 obtain⟨b,ls,e2,h⟩:=Dz hM htx text.length 0 3000 l2 (by omega) (by omega) hT
 refine⟨b,ls,?_,?_⟩
 ·unfold dG
  show((gK 3000 ([-1] :List Int) (w64 (w64 (2 * (G:Int))+2))).bind _)=_
  rw[hr,Option.bind_some,e,Option.bind_some]
  exact e2
 ·rw[h,List.drop_zero]
  constructor
  ·rintro⟨t,ht,q,hq,ha⟩
   obtain⟨q',k1,k2,k3,k4⟩:=a.thr t ht
   have:q'=q:=by rw[hq] at k1;omega
   subst this
   exact C7 k3 ha
  ·intro ha
   obtain⟨r,r1,r2,r3⟩:=zp ha
   have hin:=H6 (fun q hq=>(a.clos q hq rfl).2.1) r1 a.self
   obtain⟨t,ht,e⟩:=(a.clos r hin rfl).2.2.2 r2
   exact⟨t,ht,r,e,r3⟩
set_option maxRecDepth 1000000
inductive Sr (L:List UInt8→Prop):List UInt8→Prop
 |nil:Sr L []
 |cons {a b:List UInt8} (h:L a) (h':Sr L b):Sr L (a++b)
def A1(sg:UInt8)(L:List UInt8→Prop)(s:List UInt8):Prop:=
 if sg=42 then Sr L s else if sg=43 then ∃a b,s=a++b∧L a∧Sr L b else if sg=63 then s=[] ∨L s else L s
def NT(S:List Bool)(s:List UInt8):Prop:=∃b,s=[b] ∧rH 256 (some S) (b2i b)=some true
def Nd.Lang:Nd→List UInt8→Prop
 |.set S sg=>A1 sg (NT S)
 |.grp _ M sg=>A1 sg M.Lang
 |.nil=>fun s=>s=[]
 |.cons p r=>fun s=>∃a b,s=a++b∧p.Lang a∧r.Lang b
 |.alt r M=>fun s=>r.Lang s∨M.Lang s
def Hm(sg:UInt8):Prop:=sg=0∨sg=42∨sg=43∨sg=63
def Nd.Ok(G:Nat):Nd→Prop
 |.set S sg=>S.length=256∧Hm sg
 |.grp n M sg=>M.Ok G∧Hm sg∧((sg=42∨sg=43)→M.null=false)∧n≤G
 |.nil=>True
 |.cons p r=>p.Ok G∧r.Ok G
 |.alt r M=>r.Ok G∧M.Ok G
theorem Nd.Ok.mono{G G':Nat}(hG:G≤G'):∀ {x:Nd},x.Ok G→x.Ok G'
 |.set S sg,h=>h
 |.grp n M sg,h=>⟨Nd.Ok.mono hG h.1,h.2.1,h.2.2.1,Nat.le_trans h.2.2.2 hG⟩
 |.nil,h=>trivial
 |.cons p r,h=>⟨Nd.Ok.mono hG h.1,Nd.Ok.mono hG h.2⟩
 |.alt r M,h=>⟨Nd.Ok.mono hG h.1,Nd.Ok.mono hG h.2⟩
theorem tT{sg:UInt8}{L:List UInt8→Prop}(h:A1 sg L [])(hn:sgN sg=false):L [] :=by
 unfold A1 at h
 unfold sgN at hn
 split at h
 ·rename_i e;subst e;cases hn
 ·split at h
  ·obtain⟨a,b,e,h1,_⟩:=h
   rw[(List.append_eq_nil_iff.1 e.symm).1] at h1
   exact h1
  ·split at h
   ·rename_i e;subst e;cases hn
   ·exact h
theorem Nd.lang_nil:∀ (x:Nd),x.Lang [] →x.null=true
 |.set S sg,h=>by
  cases hn:sgN sg with
  |true=>exact hn
  |false=>
   obtain⟨b,e,_⟩:=tT h hn
   cases e
 |.grp n M sg,h=>by
  unfold Nd.null
  cases hn:sgN sg with
  |true=>rfl
  |false=>rw[M.lang_nil (tT h hn)];rfl
 |.nil,h=>rfl
 |.cons p r,h=>by
  obtain⟨a,b,e,h1,h2⟩:=h
  obtain⟨rfl,rfl⟩:=List.append_eq_nil_iff.1 e.symm
  unfold Nd.null
  rw[p.lang_nil h1,r.lang_nil h2];rfl
 |.alt r M,h=>by
  unfold Nd.null
  rcases h with h|h
  ·rw[r.lang_nil h];rfl
  ·rw[M.lang_nil h,Bool.or_true]
section
variable {st:List Vstep}
theorem l9{p a b:Nat}(h:st[p]? =some (fkS a b))(s:List UInt8):Acc st p s ↔ Acc st a s∨Acc st b s:=by
 constructor
 ·intro ha
  cases ha with
  |dn h'=>rw[h] at h';cases h'
  |tk h'=>rw[h] at h';cases h'
  |ep h' h2=>
   rcases cX h' h with ⟨a',b',e,h3⟩| ⟨a',e,_⟩| ⟨a',e,_⟩
   ·obtain⟨rfl,rfl⟩:=Bx e
    rcases h3 with rfl|rfl
    ·exact .inl h2
    ·exact .inr h2
   ·cases e
   ·cases e
 ·rintro(h'|h')
  ·exact .ep (.fka h) h'
  ·exact .ep (.fkb h) h'
theorem yE{p a:Nat}(h:st[p]? =some (jpS a))(s:List UInt8):Acc st p s ↔ Acc st a s:=by
 constructor
 ·intro ha
  cases ha with
  |dn h'=>rw[h] at h';cases h'
  |tk h'=>rw[h] at h';cases h'
  |ep h' h2=>
   rcases cX h' h with ⟨a',b',e,h3⟩| ⟨a',e,h3⟩| ⟨a',e,_⟩
   ·cases e
   ·rw[Bv e,← h3];exact h2
   ·cases e
 ·exact fun h'=>.ep (.jp h) h'
theorem BV{p a:Nat}(h:st[p]? =some (svS a))(s:List UInt8):Acc st p s ↔ Acc st (p+1) s:=by
 constructor
 ·intro ha
  cases ha with
  |dn h'=>rw[h] at h';cases h'
  |tk h'=>rw[h] at h';cases h'
  |ep h' h2=>
   rcases cX h' h with ⟨a',b',e,h3⟩| ⟨a',e,h3⟩| ⟨a',e,h3⟩
   ·cases e
   ·cases e
   ·rw[← h3];exact h2
 ·exact fun h'=>.ep (.sv h) h'
theorem Mn{p:Nat}{S:List Bool}(h:st[p]? =some (tkS S))(s:List UInt8):Acc st p s ↔ ∃b r,s=b::r∧rH 256 (some S) (b2i b)=some true∧Acc st (p+1) r:=by
 constructor
 ·intro ha
  cases ha with
  |dn h'=>rw[h] at h';cases h'
  |tk h' hb h2=>
   rw[h] at h'
   have:=Option.some.inj (congrArg Vstep.set_ (Option.some.inj h'))
   subst this
   exact⟨_,_,rfl,hb,h2⟩
  |ep h' h2=>rcases cX h' h with ⟨a',b',e,h3⟩| ⟨a',e,h3⟩| ⟨a',e,h3⟩<;> cases e
 ·rintro⟨b,r,rfl,hb,h'⟩
  exact .tk h hb h'
theorem F9{p:Nat}(h:st[p]? =some dnS)(s:List UInt8):Acc st p s ↔ s=[] :=by
 constructor
 ·intro ha
  cases ha with
  |dn h'=>rfl
  |tk h'=>rw[h] at h';cases h'
  |ep h' h2=>rcases cX h' h with ⟨a',b',e,h3⟩| ⟨a',e,h3⟩| ⟨a',e,h3⟩<;> cases e
 ·rintro rfl
  exact .dn h
def At(st:List Vstep)(b:Nat)(L:List Vstep):Prop:=∀i s,L[i]? =some s→st[b+i]? =some s
theorem At.head{b:Nat}{x:Vstep}{L:List Vstep}(h:At st b (x::L)):st[b]? =some x∧At st (b+1) L:=
 ⟨h 0 x rfl,fun i s hi=>by have:=h (i+1) s (by simpa using hi);rw[show b+1+i=b+ (i+1) by omega];exact this⟩
theorem At.app{b:Nat}{L L':List Vstep}(h:At st b (L++L')):At st b L∧At st (b+L.length) L':=by
 refine⟨fun i s hi=>h i s ?_,fun i s hi=> ?_⟩
 ·rw[List.getElem?_append_left (List.getElem?_eq_some_iff.1 hi).1];exact hi
 ·have:=h (L.length+i) s (by rw[List.getElem?_append_right (by omega),show L.length+i - L.length=i by omega];exact hi)
  rw[show b+L.length+i=b+ (L.length+i) by omega];exact this
def Thr(st:List Vstep)(L:List UInt8→Prop)(b e:Nat):Prop:=∀s,Acc st b s ↔ ∃u v,s=u++v∧L u∧Acc st e v
theorem HV{L:List UInt8→Prop}{b n:Nat}(hb:Thr st L (b+1) (b+1+n))(hne:¬L [])(h1:st[b]? =some (fkS (b+1) (b+n+2)))(h2:st[b+1+n]? =some (jpS b)):Thr st (Sr L) b (b+n+2):=by
 have fwd:∀ (k:Nat) (s:List UInt8),s.length≤k→Acc st b s→∃u v,s=u++v∧Sr L u∧Acc st (b+n+2) v:=by
  intro k
  induction k with
  |zero=>
   intro s hk ha
   have:s=[] :=List.eq_nil_of_length_eq_zero (by omega)
   subst this
   rcases (l9 h1 _).1 ha with ha|ha
   ·obtain⟨u,v,e,hu,_⟩:=(hb _).1 ha
    rw[(List.append_eq_nil_iff.1 e.symm).1] at hu
    exact absurd hu hne
   ·exact⟨[],[],rfl,.nil,ha⟩
  |succ k ih=>
   intro s hk ha
   rcases (l9 h1 _).1 ha with ha|ha
   ·obtain⟨u,v,rfl,hu,hv⟩:=(hb _).1 ha
    have hu0:0 < u.length:=by
     cases u with
     |nil=>exact absurd hu hne
     |cons c r=>simp
    obtain⟨u2,v2,rfl,hs,hv2⟩:=ih v (by rw[List.length_append] at hk;omega) ((yE h2 _).1 hv)
    exact⟨u++u2,v2,by rw[List.append_assoc],.cons hu hs,hv2⟩
   ·exact⟨[],s,rfl,.nil,ha⟩
 intro s
 refine⟨fwd s.length s (Nat.le_refl _),?_⟩
 rintro⟨u,v,rfl,hu,hv⟩
 induction hu with
 |nil=>exact(l9 h1 _).2 (.inr hv)
 |cons ha _ ih=>
  rw[List.append_assoc]
  exact(l9 h1 _).2 (.inl ((hb _).2 ⟨_,_,rfl,ha,(yE h2 _).2 ih⟩))
theorem Hk{L:List UInt8→Prop}{b n:Nat}(hb:Thr st L b (b+n))(hne:¬L [])(h1:st[b+n]? =some (fkS b (b+n+1))):Thr st (fun s=>∃a c,s=a++c∧L a∧Sr L c) b (b+n+1):=by
 have fwd:∀ (k:Nat) (s:List UInt8),s.length≤k→Acc st b s→∃u v,s=u++v∧(∃a c,u=a++c∧L a∧Sr L c)∧Acc st (b+n+1) v:=by
  intro k
  induction k with
  |zero=>
   intro s hk ha
   have:s=[] :=List.eq_nil_of_length_eq_zero (by omega)
   subst this
   obtain⟨u,v,e,hu,_⟩:=(hb _).1 ha
   rw[(List.append_eq_nil_iff.1 e.symm).1] at hu
   exact absurd hu hne
  |succ k ih=>
   intro s hk ha
   obtain⟨u,v,rfl,hu,hv⟩:=(hb _).1 ha
   have hu0:0 < u.length:=by
    cases u with
    |nil=>exact absurd hu hne
    |cons c r=>simp
   rcases (l9 h1 _).1 hv with hv|hv
   ·obtain⟨u2,v2,rfl,⟨a,c,rfl,h3,h4⟩,hv2⟩:=ih v (by rw[List.length_append] at hk;omega) hv
    exact⟨u++ (a++c),v2,by simp,⟨u,a++c,rfl,hu,.cons h3 h4⟩,hv2⟩
   ·exact⟨u,v,rfl,⟨u,[],by simp,hu,.nil⟩,hv⟩
 intro s
 refine⟨fwd s.length s (Nat.le_refl _),?_⟩
 rintro⟨u,v,rfl,⟨a,c,rfl,ha,hc⟩,hv⟩
 rw[List.append_assoc]
 induction hc generalizing a with
 |nil=>exact(hb _).2 ⟨a,v,rfl,ha,(l9 h1 _).2 (.inr hv)⟩
 |cons h _ ih=>
  refine(hb _).2 ⟨a,_,rfl,ha,(l9 h1 _).2 (.inl ?_)⟩
  rw[List.append_assoc]
  exact ih _ h
theorem Ai{L:List UInt8→Prop}{sg:UInt8}(hsg:Hm sg){body:Nat→List Vstep}{n:Nat}(hn:∀b,(body b).length=n)(hb:∀b,At st b (body b)→Thr st L b (b+n))(hne:(sg=42∨sg=43)→¬L []){b:Nat}(hat:At st b (ie b sg body n)):Thr st (A1 sg L) b (b+ (n+sgL sg)):=by
 rcases hsg with rfl|rfl|rfl|rfl
 ·exact hb b hat
 ·have hat':At st b (fkS (b+1) (b+n+2)::(body (b+1)++ [jpS b])):=hat
  obtain⟨k1,k2⟩:=hat'.head
  obtain⟨k3,k4⟩:=k2.app
  rw[hn] at k4
  exact HV (hb _ k3) (hne (.inl rfl)) k1 (by have:=k4 0 _ rfl;simpa using this)
 ·have hat':At st b (body b++ [fkS b (b+n+1)]):=hat
  obtain⟨k1,k2⟩:=hat'.app
  rw[hn] at k2
  exact Hk (hb _ k1) (hne (.inr rfl)) (by have:=k2 0 _ rfl;simpa using this)
 ·have hat':At st b (fkS (b+1) (b+n+1)::body (b+1)):=hat
  obtain⟨k1,k2⟩:=hat'.head
  have h2:=hb _ k2
  intro s
  have e:b+ (n+sgL 63)=b+n+1:=rfl
  have e2:b+1+n=b+n+1:=by omega
  rw[e,l9 k1,h2 s,e2]
  show _ ↔ ∃u v,s=u++v∧(u=[] ∨L u)∧_
  constructor
  ·rintro(⟨u,v,h3,h4,h5⟩|h)
   ·exact⟨u,v,h3,.inr h4,h5⟩
   ·exact⟨[],s,rfl,.inl rfl,h⟩
  ·rintro⟨u,v,rfl,rfl|h4,h5⟩
   ·exact .inr h5
   ·exact .inl ⟨u,v,rfl,h4,h5⟩
theorem Nd.thr{G:Nat}:∀ (x:Nd),x.Ok G→∀b,At st b (x.code b)→Thr st x.Lang b (b+x.len)
 |.set S sg,hok,b,hat=>Ai (n:=1) hok.2 (fun _=>rfl) (fun b' h'=>fun s=>by
   rw[Mn (show st[b']? =some (tkS S) from h' 0 _ rfl)]
   constructor
   ·rintro⟨c,r,rfl,h1,h2⟩
    exact⟨[c],r,rfl,⟨c,rfl,h1⟩,h2⟩
   ·rintro⟨u,v,rfl,⟨c,rfl,h1⟩,h2⟩
    exact⟨c,v,rfl,h1,h2⟩) (fun _ ⟨c,e,_⟩=>by cases e) hat
 |.grp n M sg,hok,b,hat=>by
  refine Ai hok.2.1 (fun b'=>by rw[List.length_cons,List.length_append,M.code_len];rfl) (fun b' h'=>fun s=> ?_) (fun h hl=>by have:=M.lang_nil hl;rw[hok.2.2.1 h] at this;cases this) hat
  obtain⟨k1,k2⟩:=h'.head
  obtain⟨k3,k4⟩:=k2.app
  rw[M.code_len] at k4
  have k5:=k4 0 _ rfl
  rw[Nat.add_zero] at k5
  rw[BV k1,M.thr hok.1 _ k3 s]
  constructor
  ·rintro⟨u,v,h1,h2,h3⟩
   refine⟨u,v,h1,h2,?_⟩
   have:=(BV k5 v).1 h3
   rw[show b'+ (M.len+2)=b'+1+M.len+1 by omega];exact this
  ·rintro⟨u,v,h1,h2,h3⟩
   refine⟨u,v,h1,h2,(BV k5 v).2 ?_⟩
   rw[show b'+1+M.len+1=b'+ (M.len+2) by omega];exact h3
 |.nil,hok,b,hat=>fun s=>by
  constructor
  ·intro h;exact⟨[],s,rfl,rfl,h⟩
  ·rintro⟨u,v,rfl,rfl,h⟩;exact h
 |.cons p r,hok,b,hat=>fun s=>by
  obtain⟨k1,k2⟩:=At.app (show At st b (p.code b++r.code (b+p.len)) from hat)
  rw[p.code_len] at k2
  rw[p.thr hok.1 b k1 s]
  have h2:=r.thr hok.2 _ k2
  have e:b+ (Nd.cons p r).len=b+p.len+r.len:=by show b+ (p.len+r.len)=_;omega
  rw[e]
  constructor
  ·rintro⟨u,v,rfl,h3,h4⟩
   obtain⟨u2,v2,rfl,h5,h6⟩:=(h2 v).1 h4
   exact⟨u++u2,v2,by simp,⟨u,u2,rfl,h3,h5⟩,h6⟩
  ·rintro⟨u,v,rfl,⟨a,c,rfl,h3,h5⟩,h6⟩
   exact⟨a,c++v,by simp,h3,(h2 _).2 ⟨c,v,rfl,h5,h6⟩⟩
 |.alt r M,hok,b,hat=>fun s=>by
  obtain⟨k1,k2⟩:=At.head (show At st b (fkS (b+1) (b+r.len+2)::(r.code (b+1)++jpS (b+r.len+2+M.len)::M.code (b+r.len+2))) from hat)
  obtain⟨k3,k4⟩:=k2.app
  rw[r.code_len] at k4
  obtain⟨k5,k6⟩:=k4.head
  have e1:b+1+r.len+1=b+r.len+2:=by omega
  rw[e1] at k6
  have h1:=r.thr hok.1 _ k3
  have h2:=M.thr hok.2 _ k6
  have e:b+ (Nd.alt r M).len=b+r.len+2+M.len:=by show b+ (r.len+M.len+2)=_;omega
  rw[e,l9 k1,h1 s,h2 s]
  constructor
  ·rintro(⟨u,v,h3,h4,h5⟩| ⟨u,v,h3,h4,h5⟩)
   ·exact⟨u,v,h3,.inl h4,(yE k5 v).1 h5⟩
   ·exact⟨u,v,h3,.inr h4,h5⟩
  ·rintro⟨u,v,h3,h4|h4,h5⟩
   ·exact .inl ⟨u,v,h3,h4,(yE k5 v).2 h5⟩
   ·exact .inr ⟨u,v,h3,h4,h5⟩
end
theorem Cw{n G:Nat}{sg:UInt8}(hsg:Hm sg){body:Nat→List Vstep}{k b:Nat}(hn:∀b,(body b).length=k)(hb:∀b' i s,b≤b'→b'+k < n→(body b')[i]? =some s→StOk n G (b'+i) s)(hbn:b+ (k+sgL sg) < n){i:Nat}{s:Vstep}(h:(ie b sg body k)[i]? =some s):StOk n G (b+i) s:=by
 rcases hsg with rfl|rfl|rfl|rfl
 ·exact hb b i s (Nat.le_refl _) hbn h
 ·have hb2:b+ (k+2) < n:=hbn
  have h':(fkS (b+1) (b+k+2)::(body (b+1)++ [jpS b]))[i]? =some s:=h
  cases i with
  |zero=>cases h';exact .fk (by omega) (by omega)
  |succ i=>
   rw[List.getElem?_cons_succ] at h'
   by_cases hi:i < (body (b+1)).length
   ·rw[List.getElem?_append_left hi] at h'
    have:=hb (b+1) i s (by omega) (by omega) h'
    rw[show b+ (i+1)=b+1+i by omega];exact this
   ·rw[List.getElem?_append_right (by omega)] at h'
    have:s=jpS b:=by
     have:=List.mem_of_getElem? h'
     simpa using this
    subst this
    exact .jp (by omega)
 ·have hb2:b+ (k+1) < n:=hbn
  have h':(body b++ [fkS b (b+k+1)])[i]? =some s:=h
  by_cases hi:i < (body b).length
  ·rw[List.getElem?_append_left hi] at h'
   exact hb b i s (Nat.le_refl _) (by omega) h'
  ·rw[List.getElem?_append_right (by omega)] at h'
   have:s=fkS b (b+k+1):=by
    have:=List.mem_of_getElem? h'
    simpa using this
   subst this
   exact .fk (by omega) (by omega)
 ·have hb2:b+ (k+1) < n:=hbn
  have h':(fkS (b+1) (b+k+1)::body (b+1))[i]? =some s:=h
  cases i with
  |zero=>cases h';exact .fk (by omega) (by omega)
  |succ i=>
   rw[List.getElem?_cons_succ] at h'
   have:=hb (b+1) i s (by omega) (by omega) h'
   rw[show b+ (i+1)=b+1+i by omega];exact this
theorem Nd.code_ok{n G:Nat}:∀ (x:Nd),x.Ok G→∀b,b+x.len < n→∀i s,(x.code b)[i]? =some s→StOk n G (b+i) s
 |.set S sg,hok,b,hb,i,s,h=>Cw hok.2 (k:=1) (fun _=>rfl) (fun b' i' s' h1 h2 h3=>by
   have hs:s'=tkS S:=by
    have:=List.mem_of_getElem? h3
    simpa using this
   have hi:i'=0:=by
    have:=(List.getElem?_eq_some_iff.1 h3).1
    simp at this;exact this
   subst hs hi
   exact .tk hok.1 (by omega)) hb h
 |.grp g M sg,hok,b,hb,i,s,h=>by
  refine Cw hok.2.1 (k:=M.len+2) (fun b'=>by rw[List.length_cons,List.length_append,M.code_len];rfl) (fun b' i' s' h1 h2 h3=> ?_) hb h
  have hg:=hok.2.2.2
  cases i' with
  |zero=>cases h3;exact .sv (by omega) (by omega)
  |succ i'=>
   rw[List.getElem?_cons_succ] at h3
   by_cases hi:i' < (M.code (b'+1)).length
   ·rw[List.getElem?_append_left hi] at h3
    have:=M.code_ok (n:=n) hok.1 (b'+1) (by omega) i' s' h3
    rw[show b'+ (i'+1)=b'+1+i' by omega];exact this
   ·have hl:=(List.getElem?_eq_some_iff.1 h3).1
    rw[List.length_append,M.code_len] at hl
    rw[M.code_len] at hi
    rw[List.getElem?_append_right (by rw[M.code_len];omega)] at h3
    have hs:s'=svS (2 * g+1):=by
     have:=List.mem_of_getElem? h3
     simpa using this
    subst hs
    simp at hl
    exact .sv (by omega) (by omega)
 |.nil,hok,b,hb,i,s,h=>by cases h
 |.cons p r,hok,b,hb,i,s,h=>by
  have hb':b+ (p.len+r.len) < n:=hb
  have h':(p.code b++r.code (b+p.len))[i]? =some s:=h
  by_cases hi:i < (p.code b).length
  ·rw[List.getElem?_append_left hi] at h'
   exact p.code_ok (n:=n) hok.1 b (by omega) i s h'
  ·rw[p.code_len] at hi
   rw[List.getElem?_append_right (by rw[p.code_len];omega),p.code_len] at h'
   have:=r.code_ok (n:=n) hok.2 (b+p.len) (by omega) (i - p.len) s h'
   rw[show b+i=b+p.len+ (i - p.len) by omega];exact this
 |.alt r M,hok,b,hb,i,s,h=>by
  have hb':b+ (r.len+M.len+2) < n:=hb
  have h':(fkS (b+1) (b+r.len+2)::(r.code (b+1)++jpS (b+r.len+2+M.len)::M.code (b+r.len+2)))[i]? =some s:=h
  cases i with
  |zero=>cases h';exact .fk (by omega) (by omega)
  |succ i=>
   rw[List.getElem?_cons_succ] at h'
   by_cases hi:i < (r.code (b+1)).length
   ·rw[List.getElem?_append_left hi] at h'
    have:=r.code_ok (n:=n) hok.1 (b+1) (by omega) i s h'
    rw[show b+ (i+1)=b+1+i by omega];exact this
   ·rw[r.code_len] at hi
    rw[List.getElem?_append_right (by rw[r.code_len];omega),r.code_len] at h'
    by_cases h0:i=r.len
    ·subst h0
     rw[Nat.sub_self] at h'
     cases h'
     exact .jp (by omega)
    ·rw[show i - r.len=(i - r.len - 1)+1 by omega,List.getElem?_cons_succ] at h'
     have:=M.code_ok (n:=n) hok.2 (b+r.len+2) (by omega) _ s h'
     rw[show b+ (i+1)=b+r.len+2+ (i - r.len - 1) by omega];exact this
theorem Nd.mok{G:Nat}(x:Nd)(hok:x.Ok G)(hl:x.len≤190)(hG:G≤9):MOk (x.code 0++ [dnS]) G:=by
 have e:(x.code 0++ [dnS]).length=x.len+1:=by rw[List.length_append,x.code_len];rfl
 refine⟨fun p s h=> ?_,by omega,hG⟩
 rw[e]
 by_cases hp:p < (x.code 0).length
 ·rw[List.getElem?_append_left hp] at h
  have:=x.code_ok (n:=x.len+1) hok 0 (by omega) p s h
  rw[Nat.zero_add] at this;exact this
 ·rw[List.getElem?_append_right (by omega)] at h
  have:s=dnS:=by
   have:=List.mem_of_getElem? h
   simpa using this
  subst this
  exact .dn
theorem Nd.acc{G:Nat}(x:Nd)(hok:x.Ok G)(s:List UInt8):Acc (x.code 0++ [dnS]) 0 s ↔ x.Lang s:=by
 have hat:At (x.code 0++ [dnS]) 0 (x.code 0):=fun i s h=>by
  rw[Nat.zero_add,List.getElem?_append_left (List.getElem?_eq_some_iff.1 h).1];exact h
 have hd:(x.code 0++ [dnS])[0+x.len]? =some dnS:=by
  rw[Nat.zero_add,List.getElem?_append_right (by rw[x.code_len];exact Nat.le_refl _),x.code_len,Nat.sub_self];rfl
 rw[x.thr hok 0 hat s]
 constructor
 ·rintro⟨u,v,rfl,h1,h2⟩
  rw[(F9 hd v).1 h2,List.append_nil];exact h1
 ·intro h
  exact⟨s,[],by simp,h,(F9 hd []).2 rfl⟩
set_option maxRecDepth 1000000
theorem CX(m:List UInt8)(i:Nat):Hm (ea m i):=by
 unfold ea
 cases bL m 42 i with
 |true=>exact .inr (.inl rfl)
 |false=>
  cases bL m 43 i with
  |true=>exact .inr (.inr (.inl rfl))
  |false=>
   cases bL m 63 i with
   |true=>exact .inr (.inr (.inr rfl))
   |false=>exact .inl rfl
theorem la{m:List UInt8}:∀ (f mo i g:Nat) {x:Nd} {j g1:Nat},prs m f mo i g=.ok (x,j,g1)→i≤m.length→g≤9→x.Ok g1
 |0,mo,i,g,x,j,g1,h,hi,hg=>by cases h
 |f+1,0,i,g,x,j,g1,h,hi,hg=>by
  rw[uU] at h
  split at h
  ·cases h
  ·rename_i r j0 g0 hr
   have h1:=dS f 1 i g hr hi hg
   have k1:=la f 1 i g hr hi hg
   cases hb:bL m 124 j0 with
   |false=>rw[hb,cond_false] at h;cases h;exact k1
   |true=>
    rw[hb,cond_true] at h
    have hj:=dl hb
    split at h
    ·cases h
    ·rename_i M k g2 hM
     cases h
     have h2:=dS f 0 (j0+1) g0 hM (by omega) h1.2.2.2.2.1
     exact⟨k1.mono h2.2.2.2.1,la f 0 (j0+1) g0 hM (by omega) h1.2.2.2.2.1⟩
 |f+1,1,i,g,x,j,g1,h,hi,hg=>by
  rw[vM] at h
  split at h
  ·cases h;trivial
  ·rename_i c hc
   cases h1:(b2i c==b2i 124) with
   |true=>rw[h1,cond_true] at h;cases h;trivial
   |false=>
    rw[h1,cond_false] at h
    cases h2:(b2i c==b2i 41) with
    |true=>rw[h2,cond_true] at h;cases h;trivial
    |false=>
     rw[h2,cond_false] at h
     split at h
     ·cases h
     ·rename_i p j0 g0 hp
      have h3:=dS f 2 i g hp hi hg
      have k3:=la f 2 i g hp hi hg
      split at h
      ·cases h
      ·rename_i r k g2 hr
       cases h
       have h4:=dS f 1 j0 g0 hr h3.2.1 h3.2.2.2.2.1
       exact⟨k3.mono h4.2.2.2.1,la f 1 j0 g0 hr h3.2.1 h3.2.2.2.2.1⟩
 |f+1,mo+2,i,g,x,j,g1,h,hi,hg=>by
  rw[prs] at h
  cases hb:bL m 40 i with
  |true=>
   rw[hb,cond_true] at h
   have hil:=dl hb
   cases h9:g==9 with
   |true=>rw[h9,cond_true] at h;cases h
   |false=>
    have hg9:g≠9:=beq_eq_false_iff_ne.1 h9
    rw[h9,cond_false] at h
    split at h
    ·cases h
    ·rename_i M j0 g0 hM
     have h1:=dS f 0 (i+1) (g+1) hM (by omega) (by omega)
     have k1:=la f 0 (i+1) (g+1) hM (by omega) (by omega)
     cases h41:bL m 41 j0 with
     |false=>rw[h41,cond_false] at h;cases h
     |true=>
      rw[h41,cond_true] at h
      cases hs:(ea m (j0+1)==0) with
      |true=>
       rw[hs,cond_true] at h;cases h
       exact⟨k1,.inl rfl,(fun h=>by rcases h with h|h<;> cases h),h1.2.2.2.1⟩
      |false=>
       rw[hs,cond_false] at h
       cases hz:(M.null && !(ea m (j0+1)==63)) with
       |true=>rw[hz,cond_true] at h;cases h
       |false=>
        rw[hz,cond_false] at h
        cases h
        refine⟨k1,CX m _,fun h=> ?_,h1.2.2.2.1⟩
        cases hn:M.null with
        |false=>rfl
        |true=>
         rw[hn] at hz
         rcases h with h|h<;> rw[h] at hz<;> cases hz
  |false=>
   rw[hb,cond_false] at h
   split at h
   ·cases h
   ·rename_i S j0 hS
    have h1:=qA hS
    cases hs:(ea m j0==0) with
    |true=>rw[hs,cond_true] at h;cases h;exact⟨h1.1,.inl rfl⟩
    |false=>rw[hs,cond_false] at h;cases h;exact⟨h1.1,CX m _⟩
theorem uD{m:List UInt8}{i:Nat}{q:Int × Int}(h:eB m i=.error q):q.1≠0:=by
 unfold eB at h
 split at h
 ·cases h;simp
 ·rename_i b hb
  cases hc:([91,93,92,94,45] :List UInt8).contains b with
  |true=>rw[hc,cond_true] at h;cases h;simp
  |false=>rw[hc,cond_false] at h;cases h
theorem uA{m:List UInt8}:∀ (f:Nat) (first:Bool) (i:Nat) (S:List Bool) {q:Int × Int},lx m f first i S=.error q→i≤m.length→m.length+1≤f+i→q.1≠0
 |0,first,i,S,q,h,hi,hf=>by omega
 |f+1,first,i,S,q,h,hi,hf=>by
  rw[lx] at h
  cases hb:(!first && bL m 93 i) with
  |true=>rw[hb,cond_true] at h;cases h
  |false=>
   rw[hb,cond_false] at h
   split at h
   ·rename_i q' hp;cases h;exact uD hp
   ·rename_i a i1 hp
    obtain⟨e1,e2⟩:=fX hp
    cases hd:bL m 45 i1 with
    |false=>rw[hd,cond_false] at h;exact uA f false i1 _ h (by omega) (by omega)
    |true=>
     rw[hd,cond_true] at h
     split at h
     ·rename_i q' hp2;cases h;exact uD hp2
     ·rename_i b i3 hp2
      obtain⟨e3,e4⟩:=fX hp2
      cases hl:decide ((b2i b) < (b2i a)) with
      |true=>rw[hl,cond_true] at h;cases h;simp
      |false=>rw[hl,cond_false] at h;exact uA f false i3 _ h (by omega) (by omega)
theorem Fo{m:List UInt8}{i:Nat}(hi:i≤m.length){q:Int × Int}(h:vn m i=.error q):q.1≠0:=by
 unfold vn at h
 split at h
 ·rename_i q' hT
  cases h
  have hs:hQ (bL m 94 i) i≤m.length∧i≤hQ (bL m 94 i) i:=by
   unfold hQ
   cases h:bL m 94 i with
   |true=>have:=dl h;exact⟨by simp;omega,by simp⟩
   |false=>exact⟨hi,Nat.le_refl _⟩
  exact uA _ _ _ _ hT hs.1 (by omega)
 ·cases h
theorem Eo{m:List UInt8}{i:Nat}(hi:i < m.length){q:Int × Int}(h:io m i=.error q):q.1≠0:=by
 unfold io at h
 rw[List.getElem?_eq_getElem hi] at h
 dsimp only at h
 generalize m[i] =c at h
 cases h46:(b2i c==b2i 46) with
 |true=>rw[h46,cond_true] at h;cases h
 |false=>
  rw[h46,cond_false] at h
  cases h92:(b2i c==b2i 92) with
  |true=>
   rw[h92,cond_true] at h
   split at h
   ·cases h;simp
   ·rename_i x hx
    cases hl:Al x with
    |true=>rw[hl,cond_true] at h;cases h;simp
    |false=>rw[hl,cond_false] at h;cases h
  |false=>
   rw[h92,cond_false] at h
   cases h91:(b2i c==b2i 91) with
   |true=>rw[h91,cond_true] at h;exact Fo (by omega) h
   |false=>
    rw[h91,cond_false] at h
    cases hcn:([42,43,63,41,124,93] :List UInt8).contains c with
    |true=>rw[hcn,cond_true] at h;cases h;simp
    |false=>rw[hcn,cond_false] at h;cases h
theorem lQ{m:List UInt8}:∀ (f mo i g:Nat) {q:Int × Int},prs m f mo i g=.error q→i≤m.length→g≤9→3 * (m.length - i)+3≤f+mo→mo≤2→(mo=2→i < m.length)→q.1≠0
 |0,mo,i,g,q,h,hi,hg,hf,hmo,h2=>by omega
 |f+1,0,i,g,q,h,hi,hg,hf,hmo,h2=>by
  rw[uU] at h
  split at h
  ·rename_i q' hr;cases h;exact lQ f 1 i g hr hi hg (by omega) (by omega) (by omega)
  ·rename_i r j0 g0 hr
   have h1:=dS f 1 i g hr hi hg
   cases hb:bL m 124 j0 with
   |false=>rw[hb,cond_false] at h;cases h
   |true=>
    rw[hb,cond_true] at h
    have hj:=dl hb
    split at h
    ·rename_i q' hM;cases h;exact lQ f 0 (j0+1) g0 hM (by omega) h1.2.2.2.2.1 (by omega) (by omega) (by omega)
    ·cases h
 |f+1,1,i,g,q,h,hi,hg,hf,hmo,h2=>by
  rw[vM] at h
  split at h
  ·cases h
  ·rename_i c hc
   have hil:=(List.getElem?_eq_some_iff.1 hc).1
   cases h1:(b2i c==b2i 124) with
   |true=>rw[h1,cond_true] at h;cases h
   |false=>
    rw[h1,cond_false] at h
    cases h2:(b2i c==b2i 41) with
    |true=>rw[h2,cond_true] at h;cases h
    |false=>
     rw[h2,cond_false] at h
     split at h
     ·rename_i q' hp;cases h;exact lQ f 2 i g hp hi hg (by omega) (by omega) (fun _=>hil)
     ·rename_i p j0 g0 hp
      have h3:=dS f 2 i g hp hi hg
      have h4:=h3.2.2.2.2.2 (by omega)
      split at h
      ·rename_i q' hr;cases h;exact lQ f 1 j0 g0 hr h3.2.1 h3.2.2.2.2.1 (by omega) (by omega) (by omega)
      ·cases h
 |f+1,2,i,g,q,h,hi,hg,hf,hmo,h2=>by
  rw[Nv] at h
  have hil:=h2 rfl
  cases hb:bL m 40 i with
  |true=>
   rw[hb,cond_true] at h
   cases h9:g==9 with
   |true=>rw[h9,cond_true] at h;cases h;simp
   |false=>
    have hg9:g≠9:=beq_eq_false_iff_ne.1 h9
    rw[h9,cond_false] at h
    split at h
    ·rename_i q' hM;cases h;exact lQ f 0 (i+1) (g+1) hM (by omega) (by omega) (by omega) (by omega) (by omega)
    ·rename_i M j0 g0 hM
     cases h41:bL m 41 j0 with
     |false=>rw[h41,cond_false] at h;cases h;simp
     |true=>
      rw[h41,cond_true] at h
      cases hs:(ea m (j0+1)==0) with
      |true=>rw[hs,cond_true] at h;cases h
      |false=>
       rw[hs,cond_false] at h
       cases hz:(M.null && !(ea m (j0+1)==63)) with
       |true=>rw[hz,cond_true] at h;cases h;simp
       |false=>rw[hz,cond_false] at h;cases h
  |false=>
   rw[hb,cond_false] at h
   split at h
   ·rename_i q' hS;cases h;exact Eo hil hS
   ·rename_i S j0 hS
    cases hs:(ea m j0==0) with
    |true=>rw[hs,cond_true] at h;cases h
    |false=>rw[hs,cond_false] at h;cases h
def rdM(m:List UInt8):Except (Int × Int) (Nd × Nat):=if 60 < m.length then .error (2,0) else match prs m 400 0 0 0 with
 |.error q=>.error q
 |.ok (x,j,g)=>if j < m.length then .error (1,(j:Int)) else .ok (x,g)
theorem Au(m:List UInt8):oS 3000 m=some (match rdM m with
  |.error q=>.error q
  |.ok (x,g)=>.ok ⟨(g:Int),x.code 0++ [dnS]⟩):=by
 unfold oS rdM
 by_cases h:60 < m.length
 ·rw[if_pos h,if_pos h]
 ·rw[if_neg h,if_neg h]
  have hc:wq 3000 m=mR true m [] (prs m 400 0 0 0):=(zY (by omega) 400).1 3001 0 0 [] (Nat.zero_le _) (by omega) (by omega) (by omega) (by simp;omega)
  rw[hc]
  cases hp:prs m 400 0 0 0 with
  |error q=>
   show(n4 (flt q)).map Except.error=some (.error q)
   have:n4 (flt q)=some q:=by
    unfold flt faultV n4
    simp
   rw[this];rfl
  |ok p=>
   obtain⟨x,j,g⟩:=p
   rw[fU]
   dsimp only
   by_cases hj:j < m.length
   ·rw[if_pos (by omega),if_pos hj]
   ·rw[if_neg (by omega),if_neg hj]
    have hk:=dS 400 0 0 0 hp (Nat.zero_le _) (by omega)
    have hv:kA 32 ([] ++x.code ([] :List Vstep).length).length ([] ++x.code ([] :List Vstep).length) [doneS] =some (x.code 0++ [dnS]):=by
     unfold kA
     rw[if_pos ⟨rfl,by simp[doneS],by simp[x.code_len,doneS];omega⟩]
     rfl
    rw[hv];rfl
theorem xw{m:List UInt8}{q:Int × Int}(h:rdM m=.error q):q.1≠0:=by
 unfold rdM at h
 split at h
 ·cases h;simp
 ·split at h
  ·rename_i q' hp;cases h;exact lQ 400 0 0 0 hp (Nat.zero_le _) (by omega) (by omega) (by omega) (by omega)
  ·split at h
   ·cases h;simp
   ·cases h
theorem lY{m:List UInt8}{q:Int × Int}(h:rdM m=.error q)(text:List UInt8):cL 3000 m text=some (false,[],q.1):=by
 unfold cL
 rw[Au,h]
 dsimp only
 rw[if_neg (xw h)]
theorem ot{m:List UInt8}{x:Nd}{g:Nat}(h:rdM m=.ok (x,g))(text:List UInt8):if 2000 < text.length then cL 3000 m text=some (false,[],2) else ∃b ls,cL 3000 m text=some (b,ls,0)∧(b=true ↔ x.Lang text):=by
 have h':=h
 unfold rdM at h'
 split at h'
 ·cases h'
 ·rename_i hm
  split at h'
  ·cases h'
  ·rename_i x' j g' hp
   split at h'
   ·cases h'
   ·cases h'
    have hk:=dS 400 0 0 0 hp (Nat.zero_le _) (by omega)
    have hg:=la 400 0 0 0 hp (Nat.zero_le _) (by omega)
    have hM:=x.mok hg (by omega) hk.2.2.2.2.1
    unfold cL
    rw[Au,h]
    dsimp only
    split
    ·rfl
    ·obtain⟨b,ls,e,hb⟩:=MF hM (by simp) (text:=text) (by omega)
     rw[e]
     exact⟨b,ls,rfl,by rw[hb,x.acc hg]⟩
set_option maxRecDepth 1000000
theorem fC{m:List UInt8}:∀ (f mo i g:Nat) {r:Except (Int × Int) (Nd × Nat × Nat)},prs m f mo i g=r→(∀q,r=.error q→q.1≠0)→prs m (f+1) mo i g=r
 |0,mo,i,g,r,h,hr=>by
  cases h
  exact absurd rfl (hr (0,0) rfl)
 |f+1,0,i,g,r,h,hr=>by
  rw[uU] at h
  rw[uU]
  cases h1:prs m f 1 i g with
  |error q=>
   rw[h1] at h
   rw[fC f 1 i g h1 (fun q' hq=>hr q' (by rw[← h];cases hq;rfl))];exact h
  |ok p=>
   obtain⟨x,j,g1⟩:=p
   rw[h1] at h
   rw[fC f 1 i g h1 (fun q' hq=>by cases hq)]
   dsimp only at h ⊢
   cases hb:bL m 124 j with
   |false=>rw[hb] at h;exact h
   |true=>
    rw[hb,cond_true] at h
    rw[cond_true]
    cases h2:prs m f 0 (j+1) g1 with
    |error q=>
     rw[h2] at h
     rw[fC f 0 (j+1) g1 h2 (fun q' hq=>hr q' (by rw[← h];cases hq;rfl))];exact h
    |ok p=>
     rw[h2] at h
     rw[fC f 0 (j+1) g1 h2 (fun q' hq=>by cases hq)];exact h
 |f+1,1,i,g,r,h,hr=>by
  rw[vM] at h
  rw[vM]
  cases hc:m[i]? with
  |none=>rw[hc] at h;exact h
  |some c=>
   rw[hc] at h
   dsimp only at h ⊢
   cases e1:(b2i c==b2i 124) with
   |true=>rw[e1] at h;exact h
   |false=>
    rw[e1,cond_false] at h
    rw[cond_false]
    cases e2:(b2i c==b2i 41) with
    |true=>rw[e2] at h;exact h
    |false=>
     rw[e2,cond_false] at h
     rw[cond_false]
     cases h1:prs m f 2 i g with
     |error q=>
      rw[h1] at h
      rw[fC f 2 i g h1 (fun q' hq=>hr q' (by rw[← h];cases hq;rfl))];exact h
     |ok p=>
      obtain⟨x,j,g1⟩:=p
      rw[h1] at h
      rw[fC f 2 i g h1 (fun q' hq=>by cases hq)]
      dsimp only at h ⊢
      cases h2:prs m f 1 j g1 with
      |error q=>
       rw[h2] at h
       rw[fC f 1 j g1 h2 (fun q' hq=>hr q' (by rw[← h];cases hq;rfl))];exact h
      |ok p=>
       rw[h2] at h
       rw[fC f 1 j g1 h2 (fun q' hq=>by cases hq)];exact h
 |f+1,mo+2,i,g,r,h,hr=>by
  rw[prs] at h
  rw[prs]
  cases hb:bL m 40 i with
  |false=>rw[hb] at h;exact h
  |true=>
   rw[hb,cond_true] at h
   rw[cond_true]
   cases h9:g==9 with
   |true=>rw[h9] at h;exact h
   |false=>
    rw[h9,cond_false] at h
    rw[cond_false]
    cases h1:prs m f 0 (i+1) (g+1) with
    |error q=>
     rw[h1] at h
     rw[fC f 0 (i+1) (g+1) h1 (fun q' hq=>hr q' (by rw[← h];cases hq;rfl))];exact h
    |ok p=>
     rw[h1] at h
     rw[fC f 0 (i+1) (g+1) h1 (fun q' hq=>by cases hq)];exact h
theorem pH{m:List UInt8}{f mo i g:Nat}{r:Except (Int × Int) (Nd × Nat × Nat)}(h:prs m f mo i g=r)(hr:∀q,r=.error q→q.1≠0):∀k,prs m (f+k) mo i g=r
 |0=>h
 |k+1=>fC (f+k) mo i g (pH h hr k) hr
section
variable {a b:List UInt8}
theorem ze{i:Nat}(h:i < a.length):(a++124::b)[i]? =a[i]? :=List.getElem?_append_left h
theorem My:(a++124::b)[a.length]? =some 124:=by rw[List.getElem?_append_right (Nat.le_refl _),Nat.sub_self];rfl
theorem FI(i:Nat):(a++124::b)[a.length+1+i]? =b[i]? :=by
 rw[List.getElem?_append_right (by omega),show a.length+1+i - a.length=i+1 by omega];rfl
theorem rZ{c:UInt8}(hc:(b2i 124==b2i c)=false){i:Nat}(h:i≤a.length):bL (a++124::b) c i=bL a c i:=by
 unfold bL
 by_cases hi:i < a.length
 ·rw[ze hi]
 ·have:i=a.length:=by omega
  subst this
  rw[My,List.getElem?_eq_none_iff.2 (Nat.le_refl _)]
  exact hc
theorem K3{i:Nat}(h:i≤a.length):ea (a++124::b) i=ea a i:=by
 unfold ea
 rw[rZ rfl h,rZ rfl h,rZ rfl h]
theorem CJ{i:Nat}{r:UInt8 × Nat}(h:eB a i=.ok r):eB (a++124::b) i=.ok r:=by
 have hi:=(fX (b:=r.1) (j:=r.2) h).2
 unfold eB at h ⊢
 rw[ze hi];exact h
theorem B1:∀ (f:Nat) (first:Bool) (i:Nat) (S:List Bool) {r:List Bool × Nat},lx a f first i S=.ok r→i≤a.length→∀k,lx (a++124::b) (f+k) first i S=.ok r
 |0,first,i,S,r,h,hi,k=>by cases h
 |f+1,first,i,S,r,h,hi,k=>by
  rw[lx] at h
  rw[show f+1+k=(f+k)+1 by omega,lx,rZ rfl hi]
  cases hb:(!first && bL a 93 i) with
  |true=>rw[hb] at h;exact h
  |false=>
   rw[hb,cond_false] at h
   rw[cond_false]
   cases hp:eB a i with
   |error q=>rw[hp] at h;cases h
   |ok p=>
    obtain⟨c,i1⟩:=p
    obtain⟨e1,e2⟩:=fX hp
    rw[hp] at h
    rw[CJ hp]
    dsimp only at h ⊢
    rw[rZ rfl (by omega)]
    cases hd:bL a 45 i1 with
    |false=>
     rw[hd,cond_false] at h
     rw[cond_false]
     exact B1 f false i1 _ h (by omega) k
    |true=>
     rw[hd,cond_true] at h
     rw[cond_true]
     cases hp2:eB a (i1+1) with
     |error q=>rw[hp2] at h;cases h
     |ok p2=>
      obtain⟨c2,i3⟩:=p2
      obtain⟨e3,e4⟩:=fX hp2
      rw[hp2] at h
      rw[CJ hp2]
      dsimp only at h ⊢
      cases hl:decide ((b2i c2) < (b2i c)) with
      |true=>rw[hl] at h;cases h
      |false=>
       rw[hl,cond_false] at h
       rw[cond_false]
       exact B1 f false i3 _ h (by omega) k
theorem J4{m:List UInt8}{c:UInt8}{i:Nat}(hi:i≤m.length):hQ (bL m c i) i≤m.length:=by
 unfold hQ
 cases h:bL m c i with
 |true=>have:=dl h;simp;omega
 |false=>exact hi
theorem L2{i:Nat}{r:List Bool × Nat}(h:io a i=.ok r):io (a++124::b) i=.ok r:=by
 have hi:i < a.length:=by
  unfold io at h
  split at h
  ·cases h
  ·rename_i c hc;exact(List.getElem?_eq_some_iff.1 hc).1
 unfold io at h ⊢
 rw[ze hi]
 rw[List.getElem?_eq_getElem hi] at h ⊢
 dsimp only at h ⊢
 generalize a[i] =c at h
 cases h46:(b2i c==b2i 46) with
 |true=>rw[h46] at h;exact h
 |false=>
  rw[h46,cond_false] at h
  rw[cond_false]
  cases h92:(b2i c==b2i 92) with
  |true=>
   rw[h92,cond_true] at h
   rw[cond_true]
   split at h
   ·cases h
   ·rename_i x hx
    rw[ze (List.getElem?_eq_some_iff.1 hx).1,hx];exact h
  |false=>
   rw[h92,cond_false] at h
   rw[cond_false]
   cases h91:(b2i c==b2i 91) with
   |true=>
    rw[h91,cond_true] at h
    rw[cond_true]
    unfold vn at h ⊢
    rw[rZ rfl (by omega)]
    split at h
    ·cases h
    ·rename_i T j hT
     have hs:hQ (bL a 94 (i+1)) (i+1)≤a.length:=J4 (by omega)
     have:=B1 (b:=b) _ _ _ _ hT hs (b.length+1)
     rw[show(a++124::b).length+1=a.length+1+ (b.length+1) by simp;omega,this]
     exact h
   |false=>rw[h91] at h;exact h
theorem xf:∀ (f mo i g:Nat) {x:Nd} {j g1:Nat},prs a f mo i g=.ok (x,j,g1)→i≤a.length→g≤9→(1≤mo∨j < a.length)→prs (a++124::b) f mo i g=.ok (x,j,g1)
 |0,mo,i,g,x,j,g1,h,hi,hg,hm=>by cases h
 |f+1,0,i,g,x,j,g1,h,hi,hg,hm=>by
  rw[uU] at h
  rw[uU]
  cases h1:prs a f 1 i g with
  |error q=>rw[h1] at h;cases h
  |ok p=>
   obtain⟨r,j0,g0⟩:=p
   have k1:=dS f 1 i g h1 hi hg
   rw[h1] at h
   rw[xf f 1 i g h1 hi hg (.inl (Nat.le_refl _))]
   dsimp only at h ⊢
   cases hb:bL a 124 j0 with
   |false=>
    rw[hb,cond_false] at h
    cases h
    have hj:j < a.length:=by omega
    have:bL (a++124::b) 124 j=false:=by
     unfold bL at hb ⊢
     rw[ze hj];exact hb
    rw[this];rfl
   |true=>
    have hj:=dl hb
    have:bL (a++124::b) 124 j0=true:=by
     unfold bL at hb ⊢
     rw[ze hj];exact hb
    rw[hb,cond_true] at h
    rw[this,cond_true]
    cases h2:prs a f 0 (j0+1) g0 with
    |error q=>rw[h2] at h;cases h
    |ok p=>
     obtain⟨M,k,g2⟩:=p
     rw[h2] at h
     cases h
     rw[xf f 0 (j0+1) g0 h2 (by omega) k1.2.2.2.2.1 (.inr (by omega))]
 |f+1,1,i,g,x,j,g1,h,hi,hg,hm=>by
  rw[vM] at h
  rw[vM]
  by_cases hil:i < a.length
  ·rw[ze hil]
   cases hc:a[i]? with
   |none=>rw[hc] at h;exact h
   |some c=>
    rw[hc] at h
    dsimp only at h ⊢
    cases e1:(b2i c==b2i 124) with
    |true=>rw[e1] at h;exact h
    |false=>
     rw[e1,cond_false] at h
     rw[cond_false]
     cases e2:(b2i c==b2i 41) with
     |true=>rw[e2] at h;exact h
     |false=>
      rw[e2,cond_false] at h
      rw[cond_false]
      cases h1:prs a f 2 i g with
      |error q=>rw[h1] at h;cases h
      |ok p=>
       obtain⟨p,j0,g0⟩:=p
       have k1:=dS f 2 i g h1 hi hg
       rw[h1] at h
       rw[xf f 2 i g h1 hi hg (.inl (by omega))]
       dsimp only at h ⊢
       cases h2:prs a f 1 j0 g0 with
       |error q=>rw[h2] at h;cases h
       |ok p=>
        obtain⟨r,k,g2⟩:=p
        rw[h2] at h
        rw[xf f 1 j0 g0 h2 k1.2.1 k1.2.2.2.2.1 (.inl (Nat.le_refl _))]
        exact h
  ·have:i=a.length:=by omega
   subst this
   rw[List.getElem?_eq_none_iff.2 (Nat.le_refl _)] at h
   rw[My]
   exact h
 |f+1,mo+2,i,g,x,j,g1,h,hi,hg,hm=>by
  rw[prs] at h
  rw[prs,rZ rfl hi]
  cases hb:bL a 40 i with
  |false=>
   rw[hb,cond_false] at h
   rw[cond_false]
   cases hS:io a i with
   |error q=>rw[hS] at h;cases h
   |ok p=>
    obtain⟨S,j0⟩:=p
    have k1:=qA hS
    rw[hS] at h
    rw[L2 hS]
    dsimp only at h ⊢
    rw[K3 k1.2.2];exact h
  |true=>
   have hil:=dl hb
   rw[hb,cond_true] at h
   rw[cond_true]
   cases h9:g==9 with
   |true=>rw[h9] at h;exact h
   |false=>
    have hg9:g≠9:=beq_eq_false_iff_ne.1 h9
    rw[h9,cond_false] at h
    rw[cond_false]
    cases h1:prs a f 0 (i+1) (g+1) with
    |error q=>rw[h1] at h;cases h
    |ok p=>
     obtain⟨M,j0,g0⟩:=p
     have k1:=dS f 0 (i+1) (g+1) h1 (by omega) (by omega)
     rw[h1] at h
     dsimp only at h
     cases h41:bL a 41 j0 with
     |false=>rw[h41] at h;cases h
     |true=>
      have hj0:=dl h41
      rw[h41] at h
      rw[xf f 0 (i+1) (g+1) h1 (by omega) (by omega) (.inr hj0)]
      dsimp only
      rw[rZ rfl (by omega),h41,K3 (by omega)];exact h
def shN(k:Nat):Nd→Nd
 |.set S sg=>.set S sg
 |.grp n M sg=>.grp (n+k) (shN k M) sg
 |.nil=>.nil
 |.cons p r=>.cons (shN k p) (shN k r)
 |.alt r M=>.alt (shN k r) (shN k M)
theorem lq(k:Nat):∀x:Nd,(shN k x).null=x.null
 |.set S sg=>rfl
 |.grp n M sg=>by unfold shN Nd.null;rw[lq k M]
 |.nil=>rfl
 |.cons p r=>by unfold shN Nd.null;rw[lq k p,lq k r]
 |.alt r M=>by unfold shN Nd.null;rw[lq k r,lq k M]
theorem kY(k:Nat):∀x:Nd,(shN k x).Lang=x.Lang
 |.set S sg=>rfl
 |.grp n M sg=>by unfold shN Nd.Lang;rw[kY k M]
 |.nil=>rfl
 |.cons p r=>by unfold shN Nd.Lang;rw[kY k p,kY k r]
 |.alt r M=>by unfold shN Nd.Lang;rw[kY k r,kY k M]
theorem qg(c:UInt8)(i:Nat):bL (a++124::b) c (a.length+1+i)=bL b c i:=by
 unfold bL
 rw[FI]
theorem Lp(i:Nat):ea (a++124::b) (a.length+1+i)=ea b i:=by
 unfold ea
 rw[qg,qg,qg]
theorem Dg{i:Nat}{c:UInt8}{j:Nat}(h:eB b i=.ok (c,j)):eB (a++124::b) (a.length+1+i)=.ok (c,a.length+1+j):=by
 unfold eB at h ⊢
 rw[FI]
 split at h
 ·cases h
 ·rename_i d hd
  cases hc:([91,93,92,94,45] :List UInt8).contains d with
  |true=>rw[hc] at h;cases h
  |false=>rw[hc] at h;cases h;rfl
theorem B8:∀ (f:Nat) (first:Bool) (i:Nat) (S:List Bool) {T:List Bool} {j:Nat},lx b f first i S=.ok (T,j)→∀k,lx (a++124::b) (f+k) first (a.length+1+i) S=.ok (T,a.length+1+j)
 |0,first,i,S,T,j,h,k=>by cases h
 |f+1,first,i,S,T,j,h,k=>by
  rw[lx] at h
  rw[show f+1+k=(f+k)+1 by omega,lx,qg]
  cases hb:(!first && bL b 93 i) with
  |true=>rw[hb] at h;cases h;rfl
  |false=>
   rw[hb,cond_false] at h
   rw[cond_false]
   cases hp:eB b i with
   |error q=>rw[hp] at h;cases h
   |ok p=>
    obtain⟨c,i1⟩:=p
    rw[hp] at h
    rw[Dg hp]
    dsimp only at h ⊢
    rw[qg]
    cases hd:bL b 45 i1 with
    |false=>
     rw[hd,cond_false] at h
     rw[cond_false]
     exact B8 f false i1 _ h k
    |true=>
     rw[hd,cond_true] at h
     rw[cond_true]
     cases hp2:eB b (i1+1) with
     |error q=>rw[hp2] at h;cases h
     |ok p2=>
      obtain⟨c2,i3⟩:=p2
      rw[hp2] at h
      rw[show a.length+1+i1+1=a.length+1+ (i1+1) by omega,Dg hp2]
      dsimp only at h ⊢
      cases hl:decide ((b2i c2) < (b2i c)) with
      |true=>rw[hl] at h;cases h
      |false=>
       rw[hl,cond_false] at h
       rw[cond_false]
       exact B8 f false i3 _ h k
theorem Ly{i:Nat}{S:List Bool}{j:Nat}(h:io b i=.ok (S,j)):io (a++124::b) (a.length+1+i)=.ok (S,a.length+1+j):=by
 unfold io at h ⊢
 rw[FI]
 cases hc:b[i]? with
 |none=>rw[hc] at h;cases h
 |some c=>
  rw[hc] at h
  dsimp only at h ⊢
  cases h46:(b2i c==b2i 46) with
  |true=>rw[h46] at h;cases h;rfl
  |false=>
   rw[h46,cond_false] at h
   rw[cond_false]
   cases h92:(b2i c==b2i 92) with
   |true=>
    rw[h92,cond_true] at h
    rw[cond_true,show a.length+1+i+1=a.length+1+ (i+1) by omega,FI]
    split at h
    ·cases h
    ·rename_i x hx
     cases hl:Al x with
     |true=>rw[hl] at h;cases h
     |false=>rw[hl] at h;cases h;rfl
   |false=>
    rw[h92,cond_false] at h
    rw[cond_false]
    cases h91:(b2i c==b2i 91) with
    |true=>
     rw[h91,cond_true] at h
     rw[cond_true,show a.length+1+i+1=a.length+1+ (i+1) by omega]
     unfold vn at h ⊢
     rw[qg]
     split at h
     ·cases h
     ·rename_i T j' hT
      cases h
      have hst:hQ (bL b 94 (i+1)) (a.length+1+ (i+1))=a.length+1+hQ (bL b 94 (i+1)) (i+1):=by
       unfold hQ
       cases bL b 94 (i+1)<;> rfl
      have:=B8 (a:=a) _ _ _ _ hT (a.length+1)
      rw[hst,show(a++124::b).length+1=b.length+1+ (a.length+1) by simp;omega,this]
    |false=>
     rw[h91,cond_false] at h
     rw[cond_false]
     cases hcn:([42,43,63,41,124,93] :List UInt8).contains c with
     |true=>rw[hcn] at h;cases h
     |false=>rw[hcn] at h;cases h;rfl
theorem rr:∀ (f mo i g g0:Nat) {x:Nd} {j g1:Nat},prs b f mo i g=.ok (x,j,g1)→i≤b.length→g+g0≤9→
  (prs (a++124::b) f mo (a.length+1+i) (g+g0)=.ok (shN g0 x,a.length+1+j,g1+g0)∧g1+g0≤9)∨∃p,prs (a++124::b) f mo (a.length+1+i) (g+g0)=.error (2,p)
 |0,mo,i,g,g0,x,j,g1,h,hi,hg=>by cases h
 |f+1,0,i,g,g0,x,j,g1,h,hi,hg=>by
  rw[uU] at h
  rw[uU]
  cases h1:prs b f 1 i g with
  |error q=>rw[h1] at h;cases h
  |ok p=>
   obtain⟨r,j0,gg⟩:=p
   have k1:=dS f 1 i g h1 hi (by omega)
   rw[h1] at h
   dsimp only at h
   rcases rr f 1 i g g0 h1 hi hg with ⟨e,e2⟩| ⟨p,e⟩
   ·rw[e]
    dsimp only
    rw[qg]
    cases hb:bL b 124 j0 with
    |false=>rw[hb] at h;cases h;exact .inl ⟨rfl,e2⟩
    |true=>
     have hj:=dl hb
     rw[hb,cond_true] at h
     rw[cond_true,show a.length+1+j0+1=a.length+1+ (j0+1) by omega]
     cases h2:prs b f 0 (j0+1) gg with
     |error q=>rw[h2] at h;cases h
     |ok p=>
      obtain⟨M,k,g2⟩:=p
      rw[h2] at h
      cases h
      rcases rr f 0 (j0+1) gg g0 h2 (by omega) e2 with ⟨e3,e4⟩| ⟨p,e3⟩
      ·rw[e3];exact .inl ⟨rfl,e4⟩
      ·rw[e3];exact .inr ⟨p,rfl⟩
   ·rw[e];exact .inr ⟨p,rfl⟩
 |f+1,1,i,g,g0,x,j,g1,h,hi,hg=>by
  rw[vM] at h
  rw[vM,FI]
  cases hc:b[i]? with
  |none=>rw[hc] at h;cases h;exact .inl ⟨rfl,hg⟩
  |some c=>
   rw[hc] at h
   dsimp only at h ⊢
   cases e1:(b2i c==b2i 124) with
   |true=>rw[e1] at h;cases h;exact .inl ⟨rfl,hg⟩
   |false=>
    rw[e1,cond_false] at h
    rw[cond_false]
    cases e2:(b2i c==b2i 41) with
    |true=>rw[e2] at h;cases h;exact .inl ⟨rfl,hg⟩
    |false=>
     rw[e2,cond_false] at h
     rw[cond_false]
     cases h1:prs b f 2 i g with
     |error q=>rw[h1] at h;cases h
     |ok p=>
      obtain⟨p,j0,gg⟩:=p
      have k1:=dS f 2 i g h1 hi (by omega)
      rw[h1] at h
      dsimp only at h
      rcases rr f 2 i g g0 h1 hi hg with ⟨e,e3⟩| ⟨p',e⟩
      ·rw[e]
       dsimp only
       cases h2:prs b f 1 j0 gg with
       |error q=>rw[h2] at h;cases h
       |ok p'=>
        obtain⟨r,k,g2⟩:=p'
        rw[h2] at h
        cases h
        rcases rr f 1 j0 gg g0 h2 k1.2.1 e3 with ⟨e4,e5⟩| ⟨p',e4⟩
        ·rw[e4];exact .inl ⟨rfl,e5⟩
        ·rw[e4];exact .inr ⟨p',rfl⟩
      ·rw[e];exact .inr ⟨p',rfl⟩
 |f+1,mo+2,i,g,g0,x,j,g1,h,hi,hg=>by
  rw[prs] at h
  rw[prs,qg]
  cases hb:bL b 40 i with
  |false=>
   rw[hb,cond_false] at h
   rw[cond_false]
   cases hS:io b i with
   |error q=>rw[hS] at h;cases h
   |ok p=>
    obtain⟨S,j0⟩:=p
    rw[hS] at h
    rw[Ly hS]
    dsimp only at h ⊢
    rw[Lp]
    cases hs:(ea b j0==0) with
    |true=>rw[hs] at h;cases h;exact .inl ⟨rfl,hg⟩
    |false=>rw[hs] at h;cases h;exact .inl ⟨rfl,hg⟩
  |true=>
   have hil:=dl hb
   rw[hb,cond_true] at h
   rw[cond_true]
   cases h9:g==9 with
   |true=>rw[h9] at h;cases h
   |false=>
    rw[h9,cond_false] at h
    cases h9':(g+g0==9) with
    |true=>exact .inr ⟨_,rfl⟩
    |false=>
     have hg9:g+g0≠9:=beq_eq_false_iff_ne.1 h9'
     rw[cond_false,show a.length+1+i+1=a.length+1+ (i+1) by omega,show g+g0+1=g+1+g0 by omega]
     cases h1:prs b f 0 (i+1) (g+1) with
     |error q=>rw[h1] at h;cases h
     |ok p=>
      obtain⟨M,j0,gg⟩:=p
      rw[h1] at h
      dsimp only at h
      rcases rr f 0 (i+1) (g+1) g0 h1 (by omega) (by omega) with ⟨e,e2⟩| ⟨p,e⟩
      ·rw[e]
       dsimp only
       rw[qg]
       cases h41:bL b 41 j0 with
       |false=>rw[h41] at h;cases h
       |true=>
        rw[h41,cond_true] at h
        rw[cond_true,show a.length+1+j0+1=a.length+1+ (j0+1) by omega,Lp,lq]
        cases hs:(ea b (j0+1)==0) with
        |true=>
         rw[hs] at h;cases h
         exact .inl ⟨by rw[show g+1+g0=g+1+g0 from rfl];rfl,e2⟩
        |false=>
         rw[hs,cond_false] at h
         rw[cond_false]
         cases hz:(M.null && !(ea b (j0+1)==63)) with
         |true=>rw[hz] at h;cases h
         |false=>
          rw[hz] at h;cases h
          exact .inl ⟨by rw[cond_false,show a.length+1+j0+2=a.length+1+ (j0+2) by omega];rfl,e2⟩
      ·rw[e];exact .inr ⟨p,rfl⟩
def EU:Nd→Nd→Nd
 |.alt r M,N=>.alt r (EU M N)
 |x,N=>.alt x N
theorem wy:∀ (x N:Nd) (s:List UInt8),(EU x N).Lang s ↔ x.Lang s∨N.Lang s
 |.alt r M,N,s=>by
  show(r.Lang s∨(EU M N).Lang s) ↔ ((r.Lang s∨M.Lang s)∨N.Lang s)
  rw[wy M N s,or_assoc]
 |.set S sg,N,s=>Iff.rfl
 |.grp n M sg,N,s=>Iff.rfl
 |.nil,N,s=>Iff.rfl
 |.cons p r,N,s=>Iff.rfl
theorem Kq{m:List UInt8}{f i g:Nat}{x:Nd}{j g1:Nat}(h:prs m f 1 i g=.ok (x,j,g1))(N:Nd):EU x N=.alt x N:=by
 cases f with
 |zero=>cases h
 |succ f=>
  rw[vM] at h
  split at h
  ·cases h;rfl
  ·rename_i c hc
   cases e1:(b2i c==b2i 124) with
   |true=>rw[e1] at h;cases h;rfl
   |false=>
    rw[e1,cond_false] at h
    cases e2:(b2i c==b2i 41) with
    |true=>rw[e2] at h;cases h;rfl
    |false=>
     rw[e2,cond_false] at h
     split at h
     ·cases h
     ·split at h
      ·cases h
      ·cases h;rfl
theorem E1{f':Nat}:∀ (f i g:Nat) {x:Nd} {g1:Nat},prs a f 0 i g=.ok (x,a.length,g1)→i≤a.length→g≤9→∀ {R:Except (Int × Int) (Nd × Nat × Nat)},prs (a++124::b) f' 0 (a.length+1) g1=R→(∀q,R=.error q→q.1≠0)→prs (a++124::b) (f+f') 0 i g=match R with
  |.error q=>.error q
  |.ok (M,k,g2)=>.ok (EU x M,k,g2)
 |0,i,g,x,g1,h,hi,hg,R,hR,hr=>by cases h
 |f+1,i,g,x,g1,h,hi,hg,R,hR,hr=>by
  rw[uU] at h
  rw[show f+1+f'=(f+f')+1 by omega,uU]
  cases h1:prs a f 1 i g with
  |error q=>rw[h1] at h;cases h
  |ok p=>
   obtain⟨r,j0,gg⟩:=p
   have k1:=dS f 1 i g h1 hi hg
   rw[h1] at h
   dsimp only at h
   rw[pH (xf (b:=b) f 1 i g h1 hi hg (.inl (Nat.le_refl _))) (fun q hq=>by cases hq) f']
   dsimp only
   cases hb:bL a 124 j0 with
   |false=>
    rw[hb,cond_false] at h
    cases h
    have hm:bL (a++124::b) 124 a.length=true:=by
     unfold bL
     rw[My];rfl
    have hR':prs (a++124::b) (f+f') 0 (a.length+1) g1=R:=by
     rw[Nat.add_comm];exact pH hR hr f
    rw[hm,cond_true,hR']
    cases R with
    |error q=>rfl
    |ok p=>
     obtain⟨M,k,g2⟩:=p
     dsimp only
     rw[Kq h1]
   |true=>
    have hj:=dl hb
    have hm:bL (a++124::b) 124 j0=true:=by
     unfold bL at hb ⊢
     rw[ze hj];exact hb
    rw[hb,cond_true] at h
    rw[hm,cond_true]
    cases h2:prs a f 0 (j0+1) gg with
    |error q=>rw[h2] at h;cases h
    |ok p=>
     obtain⟨M,k,g2⟩:=p
     rw[h2] at h
     cases h
     rw[E1 f (j0+1) gg h2 (by omega) k1.2.2.2.2.1 hR hr]
     cases R with
     |error q=>rfl
     |ok p=>rfl
end
theorem IK{m:List UInt8}{x:Nd}{g:Nat}(h:rdM m=.ok (x,g)):m.length≤60∧prs m 400 0 0 0=.ok (x,m.length,g):=by
 unfold rdM at h
 split at h
 ·cases h
 ·split at h
  ·cases h
  ·rename_i x' j g' hp
   have hk:=dS 400 0 0 0 hp (Nat.zero_le _) (by omega)
   split at h
   ·cases h
   ·cases h
    have:j=m.length:=by omega
    subst this
    exact⟨by omega,hp⟩
theorem LZ{a b:List UInt8}{x y:Nd}{g k:Nat}(ha:rdM a=.ok (x,g))(hb:rdM b=.ok (y,k)):(∃p,rdM (a++124::b)=.error (2,p))∨∃z n,rdM (a++124::b)=.ok (z,n)∧∀s,z.Lang s ↔ x.Lang s∨y.Lang s:=by
 obtain⟨ha1,ha2⟩:=IK ha
 obtain⟨hb1,hb2⟩:=IK hb
 have hlen:(a++124::b).length=a.length+1+b.length:=by simp;omega
 unfold rdM
 by_cases hl:60 < (a++124::b).length
 ·rw[if_pos hl];exact .inl ⟨0,rfl⟩
 ·rw[if_neg hl]
  have hga:=(dS 400 0 0 0 ha2 (Nat.zero_le _) (by omega)).2.2.2.2.1
  have real:∀ {F:Nat} {R:Except (Int × Int) (Nd × Nat × Nat)},prs (a++124::b) 800 0 0 0=R→(∀q,R=.error q→q.1≠0)→prs (a++124::b) 400 0 0 0=R:=fun {F R} h hr=>by
   have:=pH (m:=a++124::b) (f:=400) (mo:=0) (i:=0) (g:=0) rfl (fun q hq=>lQ 400 0 0 0 hq (Nat.zero_le _) (by omega) (by omega) (by omega) (by omega)) 400
   rw[← this];exact h
  rcases rr (a:=a) 400 0 0 0 g hb2 (Nat.zero_le _) (by omega) with ⟨e,e2⟩| ⟨p,e⟩
  ·rw[Nat.add_zero,Nat.zero_add] at e
   have ht:=E1 (f':=400) 400 0 0 ha2 (Nat.zero_le _) (by omega) e (fun q hq=>by cases hq)
   dsimp only at ht
   have h4:=real (F:=0) ht (fun q hq=>by cases hq)
   rw[h4]
   dsimp only
   rw[if_neg (by omega)]
   refine .inr ⟨_,_,rfl,fun s=> ?_⟩
   rw[wy,kY]
  ·rw[Nat.add_zero,Nat.zero_add] at e
   have ht:=E1 (f':=400) 400 0 0 ha2 (Nat.zero_le _) (by omega) e (fun q hq=>by cases hq;simp)
   dsimp only at ht
   have h4:=real (F:=0) ht (fun q hq=>by cases hq;simp)
   rw[h4]
   exact .inl ⟨p,rfl⟩
set_option maxRecDepth 100000
def eR(N:Nat):Nat→(List (List UInt8))→(List (List UInt8))→Int→Option Bool
 |0,_,_,_=>none
 |n+1,x0,x1,x5=>
  bif decide (x5 < (x0.length:Int)) then
   (ap x0 x5).bind fun z1=>
   (ap x1 x5).bind fun z2=>
   bif !decide (z1=z2) then
    some false
   else
    eR N n x0 x1 (w64 (x5+1))
  else
   some true
def gm(N:Nat)(x0:List (List UInt8))(x1:List (List UInt8)):Option Bool:=
 bif (x0.length:Int) != (x1.length:Int) then
  some false
 else
  eR N N x0 x1 0
def fo(N:Nat):Option Bool:=
 (cL N ([40,97,124,98,41,43,99] :List UInt8) ([97,98,99] :List UInt8)).bind fun z1=>
 (iU N ([60,36,49,62] :List UInt8) ([97,98,99] :List UInt8) z1.2.1).bind fun z2=>
 bif z1.2.2==0 then
  bif z1.1 then
   (gm N z1.2.1 ([([98] :List UInt8)] :List (List UInt8))).bind fun z3=>
   bif z3 then
    bif z2.2==0 then
     some (decide (z2.1=([60,98,62] :List UInt8)))
    else
     some false
   else
    some false
  else
   some false
 else
  some false
set_option maxRecDepth 100000
def i6(r:Bool):TV EE.T:=.a (.d .bool r)
def tZ(r:Bool):RL EE.T:=.ret (i6 r) []
def M8:Lvs:=⟨[(6,⟨[(0,false),(1,false),(5,false)],[],[],[]⟩)],[(4,⟨[(0,false),(1,false),(5,false)],[],[],[]⟩)],[],[],false,[],[],[],[]⟩
def M7:List ResultVar:=[.tmp 4]
def NA(N:Nat):Gam EE:=⟨[],EQT,[],[]⟩
theorem MB(N:Nat):GOk Try.prog TT EE (NA N):=GOk.nil dQ
def Fp(c:Code):List It2:=atL 4 c
def Fe(x0:List (List UInt8))(x1:List (List UInt8))(x5:Int):TS EE.T:=⟨26,[(0,.a (.d (.sl .str) x0)),(1,.a (.d (.sl .str) x1)),(5,.a (.d (.int .i64) x5))],[],[]⟩
def Mo(c:Code):List It2:=[.c c]
def Mq(x0:List (List UInt8))(x1:List (List UInt8)):TS EE.T:=⟨26,[(0,.a (.d (.sl .str) x0)),(1,.a (.d (.sl .str) x1))],[],[]⟩
def Gd(c:Code)(f:(List (List UInt8))→(List (List UInt8))→Int→Option Bool)(x0:List (List UInt8))(x1:List (List UInt8))(x5:Int):Tree (Lf EE.T × Option Bool):=.leaf (.go (Fp c) (Fe x0 x1 x5),f x0 x1 x5)
abbrev K9(N:Nat)(r:Bool)(k:List It2)(s:TS EE.T):Prop:=gB (Y:=TT) EE (NA N) M8 M7 (fun u=>u=tZ r) k s
def Hq(x:Bool):Tree (Lf EE.T × Option Bool):=.leaf (.done (tZ x),some x)
theorem Gt{N:Nat}{r:Bool}:∀ (n:Nat) (x0:List (List UInt8)) (x1:List (List UInt8)) (x5:Int),eR N n x0 x1 x5=some r→K9 N r (Fp (ai 0 Try.f13)) (Fe x0 x1 x5)
 |0,_,_,_,h=>by cases h
 |n+1,x0,x1,x5,h=>aX (m:=4000) (t:=
  .cond (decide (x5 < (x0.length:Int)))
  (
   .bnd (ap x0 x5) fun z1=>
   .bnd (ap x1 x5) fun z2=>
   .cond (!decide (z1=z2))
   (
    Hq false)
   (
    Gd (ai 0 Try.f13) (eR N n) x0 x1 (w64 (x5+1))))
  (
   Hq true)) (by kernel_rfl) (by kernel_rfl) h (⟨fun _=>fun _=>⟨bm (enc:=tZ) rfl,fun h=>(Gt n) _ _ _ h⟩,bm (enc:=tZ) rfl⟩)
theorem Ms{N:Nat}{r:Bool}(x0:List (List UInt8))(x1:List (List UInt8))(h:gm N x0 x1=some r):K9 N r (Mo (ai 0 Try.f13)) (Mq x0 x1):=
 aX (m:=4000) (t:=
 .cond ((x0.length:Int) != (x1.length:Int))
 (
  Hq false)
 (
  Gd (ai 0 Try.f13) (eR N N) x0 x1 0)) (by kernel_rfl) (by kernel_rfl) h (⟨bm (enc:=tZ) rfl,fun h=>Gt N _ _ _ h⟩)
theorem rJ{N:Nat}(x0:List (List UInt8))(x1:List (List UInt8)){r:Bool}(h:gm N x0 x1=some r)(ρ:Rn):aW Try.prog 13 (([.a (.d (.sl .str) x0),.a (.d (.sl .str) x1)] :List (TV EE.T)).map (TV.to EE.toEnc ρ)) [] (fun out H=>out=.ret ((i6 r).to EE.toEnc ρ)∧H=[]):=
 (u9 (ai 0 Try.f13) 26 mixed (MB N) Try.func13 (by kernel_rfl) rfl rfl rfl rfl (Ms x0 x1 h) ρ).mono fun out H h=>dw.ret rfl h
def i7(N:Nat):List (TV EE.T)→PV EE.T
 | [u0,u1] =>match mj (.sl .str) u0,mj (.sl .str) u1 with
   |some x0,some x1=>.opt (gm N x0 x1) i6
   |_,_=>.bad
 |_=>.bad
theorem qL(N:Nat)(us:List (TV EE.T)):(i7 N us).ok fun u=>∀ρ,aW Try.prog 13 (us.map (TV.to EE.toEnc ρ)) [] (fun out H=>out=.ret (u.to EE.toEnc ρ)∧H=[]):=by
 unfold i7
 split
 ·split
  ·rename_i h0 h1
   intro z hz ρ;refine gM ?_ (rJ _ _ hz ρ);exact⟨eL h0 ρ,eL h1 ρ,trivial⟩
  ·trivial
 ·trivial
def iZ(r:Bool):TV EE.T:=.a (.d .bool r)
def pE(r:Bool):RL EE.T:=.ret (iZ r) []
def M2:Lvs:=⟨[],[],[],[],false,[],[],[],[]⟩
def Nq:List ResultVar:=[.tmp 0]
def Nj(N:Nat):Gam EE:=⟨[⟨13,i7 N⟩,⟨14,kG N⟩,⟨9,ji N⟩],EQT,[],[]⟩
theorem ME(N:Nat):GOk Try.prog TT EE (Nj N):=GOk.cons (qL N) (GOk.cons (su N) (GOk.cons (nk N) (GOk.nil dQ)))
def Ma(c:Code):List It2:=[.c c]
def Mp:TS EE.T:=⟨34,[],[],[]⟩
abbrev Nw(N:Nat)(r:Bool)(k:List It2)(s:TS EE.T):Prop:=gB (Y:=TT) EE (Nj N) M2 Nq (fun u=>u=pE r) k s
def Ad(x:Bool):Tree (Lf EE.T × Option Bool):=.leaf (.done (pE x),some x)
theorem LJ{N:Nat}{r:Bool}(h:fo N=some r):Nw N r (Ma (ai 0 Try.f11)) (Mp):=
 aX (m:=4000) (t:=
 .bnd (cL N ([40,97,124,98,41,43,99] :List UInt8) ([97,98,99] :List UInt8)) fun z1=>
 .bnd (iU N ([60,36,49,62] :List UInt8) ([97,98,99] :List UInt8) z1.2.1) fun z2=>
 .cond (z1.2.2==0)
 (
  .cond (z1.1)
  (
   .bnd (gm N z1.2.1 ([([98] :List UInt8)] :List (List UInt8))) fun z3=>
   .cond (z3)
   (
    .cond (z2.2==0)
    (
     Ad (decide (z2.1=([60,98,62] :List UInt8))))
    (
     Ad false))
   (
    Ad false))
  (
   Ad false))
 (
  Ad false)) (by kernel_rfl) (by kernel_rfl) h (fun _=>fun _=>⟨⟨fun _=>⟨⟨bm (enc:=pE) rfl,bm (enc:=pE) rfl⟩,bm (enc:=pE) rfl⟩,bm (enc:=pE) rfl⟩,bm (enc:=pE) rfl⟩)
theorem qN{N:Nat}{r:Bool}(h:fo N=some r)(ρ:Rn):aW Try.prog 11 (([] :List (TV EE.T)).map (TV.to EE.toEnc ρ)) [] (fun out H=>out=.ret ((iZ r).to EE.toEnc ρ)∧H=[]):=
 (u9 (ai 0 Try.f11) 34 mixed (ME N) Try.func11 (by kernel_rfl) rfl rfl rfl rfl (LJ h) ρ).mono fun out H h=>dw.ret rfl h
def iY(N:Nat):List (TV EE.T)→PV EE.T
 | [] =>.opt (fo N) iZ
 |_=>.bad
theorem ql(N:Nat)(us:List (TV EE.T)):(iY N us).ok fun u=>∀ρ,aW Try.prog 11 (us.map (TV.to EE.toEnc ρ)) [] (fun out H=>out=.ret (u.to EE.toEnc ρ)∧H=[]):=by
 unfold iY
 split
 ·intro z hz ρ;exact qN hz ρ
 ·trivial
set_option maxRecDepth 100000
def mc(N:Nat)(x0:List UInt8)(x1:List UInt8)(x2:List UInt8):Option Bool:=
 (fo N).bind fun z1=>
 bif !z1 then
  some false
 else
  (cL N x0 x2).bind fun z2=>
  (cL N x1 x2).bind fun z3=>
  (ss x0 ([124] :List UInt8)).bind fun z4=>
  (ss z4 x1).bind fun z5=>
  (cL N z5 x2).bind fun z6=>
  bif z2.2.2 != 0 then
   some true
  else
   bif z3.2.2 != 0 then
    some true
   else
    bif z6.2.2==2 then
     some true
    else
     bif z6.2.2==0 then
      bif z2.1 then
       some (z6.1==true)
      else
       some (z6.1==z3.1)
     else
      some false
set_option maxRecDepth 100000
def pP(r:Bool):TV EE.T:=.a (.d .bool r)
def qa(r:Bool):RL EE.T:=.ret (pP r) []
def NW:Lvs:=⟨[],[],[],[],false,[],[],[],[]⟩
def NP:List ResultVar:=[.tmp 6]
def w6G(N:Nat):Gam EE:=⟨[⟨11,iY N⟩,⟨9,ji N⟩],EQT,[],[]⟩
theorem Nh(N:Nat):GOk Try.prog TT EE (w6G N):=GOk.cons (ql N) (GOk.cons (nk N) (GOk.nil dQ))
def Nl(c:Code):List It2:=[.c c]
def NM(x0:List UInt8)(x1:List UInt8)(x2:List UInt8):TS EE.T:=⟨62,[(0,.a (.d .str x0)),(1,.a (.d .str x1)),(2,.a (.d .str x2))],[],[]⟩
abbrev NS(N:Nat)(r:Bool)(k:List It2)(s:TS EE.T):Prop:=gB (Y:=TT) EE (w6G N) NW NP (fun u=>u=qa r) k s
def B2(x:Bool):Tree (Lf EE.T × Option Bool):=.leaf (.done (qa x),some x)
theorem M3{N:Nat}{r:Bool}(x0:List UInt8)(x1:List UInt8)(x2:List UInt8)(h:mc N x0 x1 x2=some r):NS N r (Nl (ai 0 Try.f6)) (NM x0 x1 x2):=
 aX (m:=4000) (t:=
 .bnd (fo N) fun z1=>
 .cond (!z1)
 (
  B2 false)
 (
  .bnd (cL N x0 x2) fun z2=>
  .bnd (cL N x1 x2) fun z3=>
  .bnd (ss x0 ([124] :List UInt8)) fun z4=>
  .bnd (ss z4 x1) fun z5=>
  .bnd (cL N z5 x2) fun z6=>
  .cond (z2.2.2 != 0)
  (
   B2 true)
  (
   .cond (z3.2.2 != 0)
   (
    B2 true)
   (
    .cond (z6.2.2==2)
    (
     B2 true)
    (
     .cond (z6.2.2==0)
     (
      .cond (z2.1)
      (
       B2 (z6.1==true))
      (
       B2 (z6.1==z3.1)))
     (
      B2 false)))))) (by kernel_rfl) (by kernel_rfl) h (fun _=>⟨bm (enc:=qa) rfl,fun _=>fun _=>fun _=>fun _=>fun _=>⟨bm (enc:=qa) rfl,⟨bm (enc:=qa) rfl,⟨bm (enc:=qa) rfl,⟨⟨bm (enc:=qa) rfl,bm (enc:=qa) rfl⟩,bm (enc:=qa) rfl⟩⟩⟩⟩⟩)
theorem vE{N:Nat}(x0:List UInt8)(x1:List UInt8)(x2:List UInt8){r:Bool}(h:mc N x0 x1 x2=some r)(ρ:Rn):aW Try.prog 6 (([.a (.d .str x0),.a (.d .str x1),.a (.d .str x2)] :List (TV EE.T)).map (TV.to EE.toEnc ρ)) [] (fun out H=>out=.ret ((pP r).to EE.toEnc ρ)∧H=[]):=
 (u9 (ai 0 Try.f6) 62 mixed (Nh N) Try.func6 (by kernel_rfl) rfl rfl rfl rfl (M3 x0 x1 x2 h) ρ).mono fun out H h=>dw.ret rfl h
set_option maxRecDepth 1000000
theorem JD:fo 3000=some true:=by kernel_rfl
theorem pi(m text:List UInt8):∃r,cL 3000 m text=some r:=by
 cases h:rdM m with
 |error q=>exact⟨_,lY h text⟩
 |ok p=>
  have:=ot (x:=p.1) (g:=p.2) h text
  split at this
  ·exact⟨_,this⟩
  ·obtain⟨b,ls,e,_⟩:=this
   exact⟨_,e⟩
theorem Es{a b text:List UInt8}(ha:a.length≤1000000000000000)(hb:b.length≤1000000000000000):mc 3000 a b text=some true:=by
 obtain⟨r1,e1⟩:=pi a text
 obtain⟨r2,e2⟩:=pi b text
 obtain⟨r3,e3⟩:=pi (a++124::b) text
 have c1:ss a ([124] :List UInt8)=some (a++ [124]):=by
  unfold ss
  rw[if_pos (by simp only[List.length_cons,List.length_nil];omega)]
 have c2:ss (a++ [124]) b=some (a++124::b):=by
  unfold ss
  rw[if_pos (by simp only[List.length_append,List.length_cons,List.length_nil];omega)]
  simp
 unfold mc
 rw[JD,Option.bind_some,Bool.not_true,cond_false,e1,Option.bind_some,e2,Option.bind_some,c1,Option.bind_some,c2,Option.bind_some,e3,Option.bind_some]
 have no:∀ {z:Int},z≠0→(z != 0)=true:=fun h=>by rw[bne,beq_eq_false_iff_ne.2 h];rfl
 cases h1:rdM a with
 |error q=>
  rw[lY h1 text] at e1
  cases e1
  dsimp only
  rw[no (xw h1),cond_true]
 |ok p=>
  obtain⟨x,g⟩:=p
  have m1:=ot h1 text
  by_cases ht:2000 < text.length
  ·rw[if_pos ht] at m1
   rw[m1] at e1
   cases e1
   rfl
  ·rw[if_neg ht] at m1
   obtain⟨b1,l1,f1,w1⟩:=m1
   rw[f1] at e1
   cases e1
   cases h2:rdM b with
   |error q=>
    rw[lY h2 text] at e2
    cases e2
    dsimp only
    rw[no (xw h2)]
    rfl
   |ok p=>
    obtain⟨y,k⟩:=p
    have m2:=ot h2 text
    rw[if_neg ht] at m2
    obtain⟨b2,l2,f2,w2⟩:=m2
    rw[f2] at e2
    cases e2
    rcases LZ h1 h2 with ⟨p,h3⟩| ⟨z,n,h3,hz⟩
    ·rw[lY h3 text] at e3
     cases e3
     rfl
    ·have m3:=ot h3 text
     rw[if_neg ht] at m3
     obtain⟨b3,l3,f3,w3⟩:=m3
     rw[f3] at e3
     cases e3
     have hb:b3=(b1 || b2):=by
      have:b3=true ↔ (b1 || b2)=true:=by rw[w3,hz,← w1,← w2,Bool.or_eq_true]
      cases b3<;> cases b1<;> cases b2<;> simp_all
     subst hb
     dsimp only
     cases b1<;> cases b2<;> rfl
end Go.Proofs.Ytlhjbhgkhpbnfaa
namespace Go.Proofs.Ytlhjbhgkhpbnfaa
open Go.RowKit Go.Deep Go.ChangeShapes Go.WideShapes Go.ChangeAt P
def MY(w:World)(us:List AV)(cs:List Value):Prop:=us.length=cs.length∧∀ (i:Nat) u v,us[i]? =some u→cs[i]? =some v→Rel (Ei w) u v
def CN(w:World)(us:List AV)(off:Nat)(cs:List Value):Prop:=∀ (i:Nat) u v,us[i]? =some u→cs[off+i]? =some v→Rel (Ei w) u v
theorem CN.nil{w:World}{off:Nat}{cs:List Value}:CN w [] off cs:=fun i u v hu=>by simp at hu
theorem CN.whole{w:World}{us:List AV}{cs:List Value}(h:CN w us 0 cs)(e:us.length=cs.length):MY w us cs:=⟨e,fun i u v hu hv=>h i u v hu (by simpa using hv)⟩
section
variable {R:Nat} {H:Type} {enc:TypeId × Value→H} {Pr:Program} {w:World} {base:Nat} {spare:Nat→Bool} {held:Bool}
end
theorem Try.own:ownKnob Try.prog.godebug=none:=by kernel_rfl
theorem Try.laidOut:laidOutB Try.prog=true:=by kernel_rfl
end Go.Proofs.Ytlhjbhgkhpbnfaa
namespace Go.Proofs.Ytlhjbhgkhpbnfaa
open Go.RowKit P
section
variable {Pr:Program}
end
def qk(n:Nat):Prop:=n≤140737488351232
theorem qk.le{n:Nat}(h:qk n):n≤140737488351232:=h
end Go.Proofs.Ytlhjbhgkhpbnfaa
