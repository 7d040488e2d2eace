import Derived.WalkKit
import Derived.WalkLawsBesides
import Derived.Lib.AppendStr
import Derived.Laws.IdiomCopy
import Derived.Laws.AppendOwn
set_option linter.unusedSimpArgs false
set_option linter.unusedVariables false
namespace Go.Proofs.YtobacplonkjigaaDoor.P
def mkB(l:List UInt8):ByteArray:=⟨l.toArray⟩
theorem jD(l:List UInt8):(mkB l).size=l.length:=by show l.toArray.size=_;simp
theorem FZ(a b:List UInt8):mkB (a++b)=mkB a++mkB b:=by
 apply ByteArray.ext;show(a++b).toArray=(mkB a++mkB b).data;rw[ByteArray.data_append];simp[mkB]
theorem H5(s:ByteArray):s.data.toList.length=s.size:=by rw[Array.length_toList];rfl
def hv:List UInt8→Nat
 | [] =>0
 |c::t=>c.toNat % 128+128 * hv t
def rdF:Nat→Nat→List UInt8→Nat × Nat × Nat
 |_,_,[] =>(0,0,1)
 |i,n,c::t=>if i=9∧1 < c.toNat then(0,0,3) else if c.toNat < 128 then(n+c.toNat * 128 ^ i,i+1,0) else rdF (i+1) (n+ (c.toNat - 128) * 128 ^ i) t
def rd(l:List UInt8):Nat × Nat × Nat:=rdF 0 0 l
end Go.Proofs.YtobacplonkjigaaDoor.P
namespace Go.Proofs.YtobacplonkjigaaDoor
open Go.RowKit P
inductive AV where
 |v (x:Value)
 |sl (own:Bool) (sz:Nat) (l:List (List AV))
 |ag (cs:List AV)
 |tu (us:List AV)
 |el (cs:List AV)
 |fn (f:FuncId) (caps:List AV)
 |ifc (t:TypeId) (u:AV)
 |mp (l:List (Value × AV))
 |cl (sz:Nat) (l:List (List AV))
structure GW where
 w:World
 g:Nat→Option Nat
inductive Rel (X:GW):AV→Value→Prop
 |v (x:Value):Rel X (.v x) x
 |nl (o:Bool) (sz:Nat) (a:Option Addr) (c:Nat):Rel X (.sl o sz []) (.slice a 0 c)
 |sl (o:Bool) (sz:Nat) (l:List (List AV)) (b off cap n:Nat) (c:Nat→Nat→Value) (hg:X.g b=some n) (hn:off+l.length * sz≤n) (hc:l.length≤cap)
     (hs:∀ (i:Nat) (r:List AV),l[i]? =some r→r.length=sz)
     (hm:∀ (i j:Nat) (r:List AV) (u:AV),l[i]? =some r→r[j]? =some u→X.w.cell? ⟨b,off+i * sz+j,none⟩=some (c i j))
     (hr:∀ (i j:Nat) (r:List AV) (u:AV),l[i]? =some r→r[j]? =some u→Rel X u (c i j)):Rel X (.sl o sz l) (.slice (some ⟨b,off,none⟩) l.length cap)
 |ag (us:List AV) (xs:Array Value) (hl:us.length=xs.size) (hr:∀ (i:Nat) (u:AV) (x:Value),us[i]? =some u→xs[i]? =some x→Rel X u x):Rel X (.ag us) (.agg xs)
 |tu (us:List AV) (xs:Array Value) (hl:us.length=xs.size) (hr:∀ (i:Nat) (u:AV) (x:Value),us[i]? =some u→xs[i]? =some x→Rel X u x):Rel X (.tu us) (.tuple xs)
 |el (us:List AV) (b off n:Nat) (c:Nat→Value) (hg:X.g b=some n) (hn:off+us.length≤n)
     (hm:∀ (j:Nat) (u:AV),us[j]? =some u→X.w.cell? ⟨b,off+j,none⟩=some (c j)) (hr:∀ (j:Nat) (u:AV),us[j]? =some u→Rel X u (c j)):Rel X (.el us) (.pointer (some ⟨b,off,none⟩))
 |fn (f:FuncId) (us:List AV) (xs:Array Value) (hl:us.length=xs.size) (hr:∀ (i:Nat) (u:AV) (x:Value),us[i]? =some u→xs[i]? =some x→Rel X u x):Rel X (.fn f us) (.func (.func f) #[] xs)
 |ifc (t:TypeId) (u:AV) (x:Value) (hr:Rel X u x):Rel X (.ifc t u) (.iface t x)
 |cl (sz:Nat) (l:List (List AV)) (a:Option Addr) (n:Nat) (hr:Rel X (.sl false sz l) (.slice a n n)):Rel X (.cl sz l) (.slice a n n)
theorem Rel.nil{X:GW}(o:Bool)(sz:Nat):Rel X (.sl o sz []) (.slice none 0 0):=.nl o sz none 0
def mH(X X':GW):Prop:=∀b n,X.g b=some n→∃n',n≤n'∧X'.g b=some n'∧∀j,j < n→X'.w.cell? ⟨b,j,none⟩=X.w.cell? ⟨b,j,none⟩
theorem mH.refl(X:GW):mH X X:=fun b n h=>⟨n,Nat.le_refl _,h,fun _ _=>rfl⟩
theorem mH.trans{X Y Z:GW}(h:mH X Y)(k:mH Y Z):mH X Z:=fun b n hb=>by
 obtain⟨n1,h1,h2,h3⟩:=h b n hb
 obtain⟨n2,k1,k2,k3⟩:=k b n1 h2
 exact⟨n2,by omega,k2,fun j hj=>(k3 j (by omega)).trans (h3 j hj)⟩
theorem Rel.mono{X X':GW}{u:AV}{x:Value}(h:Rel X u x)(hp:mH X X'):Rel X' u x:=by
 induction h with
 |v x=>exact .v x
 |nl o sz a c=>exact .nl o sz a c
 |sl o sz l b off cap n c hg hn hc hs hm hr ih=>
  obtain⟨n',h1,h2,h3⟩:=hp b n hg
  refine .sl o sz l b off cap n' c h2 (by omega) hc hs (fun i j r u hi hj=> ?_) ih
  rw[h3 _ ?_];exact hm i j r u hi hj
  have hi':=(List.getElem?_eq_some_iff.1 hi).1
  have hj':=(List.getElem?_eq_some_iff.1 hj).1
  have hsz:=hs i r hi
  have:i * sz+sz≤l.length * sz:=by rw[← Nat.succ_mul];exact Nat.mul_le_mul_right _ hi'
  omega
 |ag us xs hl hr ih=>exact .ag us xs hl ih
 |tu us xs hl hr ih=>exact .tu us xs hl ih
 |el us b off n c hg hn hm hr ih=>
  obtain⟨n',h1,h2,h3⟩:=hp b n hg
  refine .el us b off n' c h2 (by omega) (fun j u hj=> ?_) ih
  have hj':=(List.getElem?_eq_some_iff.1 hj).1
  rw[h3 _ (by omega)];exact hm j u hj
 |fn f us xs hl hr ih=>exact .fn f us xs hl ih
 |ifc t u x hr ih=>exact .ifc t u x ih
 |cl sz l a n hr ih=>exact .cl sz l a n ih
inductive Root where
 |s (t:Nat)
 |c (k o:Nat)
 deriving DecidableEq
structure AS where
 n:Nat
 t:List (Nat × AV)
 h:List (Nat × List AV)
 e:List (Nat × Root)
def look{α:Type}:List (Nat × α)→Nat→Option α
 | [],_=>none
 | (k,a)::r,i=>match Nat.beq i k with|true=>some a|false=>look r i
theorem av{α:Type}(i:Nat):look ([] :List (Nat × α)) i=none:=rfl
theorem ab{α:Type}(k:Nat)(a:α)(r:List (Nat × α))(i:Nat):look ((k,a)::r) i=if i=k then some a else look r i:=by
 simp only[look]
 by_cases h:i=k
 ·subst h;rw[if_pos rfl,Nat.beq_refl]
 ·rw[if_neg h]
  cases hb:Nat.beq i k
  ·rfl
  ·exact absurd (Nat.eq_of_beq_eq_true hb) h
def cw:Option AV→Option (Nat × List (List AV))
 |some (.sl true sz l)=>some (sz,l)
 |_=>none
def AS.own(σ:AS):Root→Option (Nat × List (List AV))
 |.s t=>cw (look σ.t t)
 |.c k o=>match look σ.h k with|some cs=>cw cs[o]? |_=>none
def rootV(tm:Array Value)(w:World):Root→Option Value
 |.s t=>some (tm.getD t undef)
 |.c k o=>w.cell? ⟨k,o,none⟩
def gl(F:Nat→Prop)(X:GW)(sz:Nat)(l:List (List AV))(x:Value):Prop:=
 (x=.slice none 0 0∧l=[])∨∃b cap cs e fr,x=.slice (some ⟨b,0,none⟩) l.length cap∧X.g b=some (l.length * sz)∧X.w.heap[b]? =some (.cells cs e fr)∧cs.size=cap * sz∧
  (∀j,l.length * sz≤j→j < cs.size→X.w.frozen? ⟨b,j,none⟩=false)∧¬F b
def eg(F:Nat→Prop)(X:GW)(k:Nat)(cs:List AV):Prop:=
 X.g k=none∧¬F k∧∃ (arr:Array Value) (e:TypeId) (fr:Nat × Nat),X.w.heap[k]? =some (.cells arr e fr)∧arr.size=cs.length∧(∀o,X.w.frozen? ⟨k,o,none⟩=false)∧∀ (o:Nat) u x,cs[o]? =some u→arr[o]? =some x→Rel X u x
def Rp(F:Nat→Prop)(X:GW)(k:Nat)(l:List (Value × AV)):Prop:=
 X.g k=none∧¬F k∧∃ (es:Array MapEntry) (clock:Nat),X.w.heap[k]? =some (.map es clock)∧es.size=l.length∧∀ (i:Nat) (e:MapEntry) p,l[i]? =some p→es[i]? =some e→e.key=p.1∧Rel X p.2 e.val
def AV.isMp:AV→Bool
 |.mp _=>true
 |_=>false
def fx:List AV→Bool
 | [.mp _] =>true
 |_=>false
def eI(F:Nat→Prop)(X:GW)(k:Nat)(cs:List AV):Prop:=(fx cs=false∧eg F X k cs)∨∃l,cs=[.mp l] ∧Rp F X k l
theorem y2{cs:List AV}(h:fx cs=true):∃l,cs=[.mp l] :=by
 match cs,h with
 | [.mp l],_=>exact⟨l,rfl⟩
theorem eg.box{F:Nat→Prop}{X:GW}{k:Nat}{cs:List AV}(h:eg F X k cs):eI F X k cs:=by
 cases hm:fx cs with
 |false=>exact .inl ⟨hm,h⟩
 |true=>
  obtain⟨l,rfl⟩:=y2 hm
  obtain⟨h1,h2,arr,e,fr,h3,h4,h5,h6⟩:=h
  have hlt:0 < arr.size:=by rw[h4];simp
  have:=h6 0 (.mp l) _ rfl (Array.getElem?_eq_getElem hlt)
  cases this
theorem eI.gn{F:Nat→Prop}{X:GW}{k:Nat}{cs:List AV}(h:eI F X k cs):X.g k=none:=by
 rcases h with ⟨_,h⟩| ⟨l,_,h⟩
 ·exact h.1
 ·exact h.1
theorem eI.nF{F:Nat→Prop}{X:GW}{k:Nat}{cs:List AV}(h:eI F X k cs):¬F k:=by
 rcases h with ⟨_,h⟩| ⟨l,_,h⟩
 ·exact h.2.1
 ·exact h.2.1
theorem eI.cells{F:Nat→Prop}{X:GW}{k:Nat}{cs:List AV}(h:eI F X k cs)(hm:fx cs=false):eg F X k cs:=by
 rcases h with ⟨_,h⟩| ⟨l,rfl,h⟩
 ·exact h
 ·cases hm
theorem eI.at{F:Nat→Prop}{X:GW}{k o:Nat}{cs:List AV}{u:AV}(h:eI F X k cs)(hu:cs[o]? =some u)(hm:u.isMp=false):eg F X k cs:=by
 rcases h with ⟨_,h⟩| ⟨l,rfl,h⟩
 ·exact h
 ·cases o with
  |zero=>simp at hu;subst hu;cases hm
  |succ o=>simp at hu
theorem eI.own{F:Nat→Prop}{X:GW}{k o:Nat}{cs:List AV}{q:Nat × List (List AV)}(h:eI F X k cs)(hu:cw cs[o]? =some q):eg F X k cs:=by
 cases hc:cs[o]? with
 |none=>rw[hc] at hu;cases hu
 |some u=>
  refine h.at hc ?_
  rw[hc] at hu
  cases u with
  |mp l=>simp[cw] at hu
  |_=>rfl
theorem eI.map{F:Nat→Prop}{X:GW}{k:Nat}{l:List (Value × AV)}(h:eI F X k [.mp l]):Rp F X k l:=by
 rcases h with ⟨h,_⟩| ⟨l',h1,h2⟩
 ·cases h
 ·cases h1;exact h2
structure Sim (F:Nat→Prop) (X:GW) (σ:AS) (tm:Array Value):Prop where
 size:tm.size=σ.n
 gb:∀b n,X.g b=some n→b < X.w.heap.size
 fb:∀b,F b→b < X.w.heap.size
 slot:∀t u,look σ.t t=some u→Rel X u (tm.getD t undef)
 box:∀k cs,look σ.h k=some cs→eI F X k cs
 eqs:∀x r,look σ.e x=some r→rootV tm X.w r=some (tm.getD x undef)
 own:∀r sz l,σ.own r=some (sz,l)→∃x,rootV tm X.w r=some x∧gl F X sz l x
 disj:∀r r' sz l sz' l' a n c a' n' c',r≠r'→σ.own r=some (sz,l)→σ.own r'=some (sz',l')→rootV tm X.w r=some (.slice (some a) n c)→rootV tm X.w r'=some (.slice (some a') n' c')→a.block≠a'.block
structure Ext (F:Nat→Prop) (X X':GW):Prop where
 os:X'.w.os=X.w.os
 tape:X'.w.tape=X.w.tape
 output:X'.w.output=X.w.output
 size:X.w.heap.size≤X'.w.heap.size
 frame:∀b,F b→X'.w.heap[b]? =X.w.heap[b]? ∧X'.g b=X.g b
 pres:mH X X'
theorem Ext.refl(F:Nat→Prop)(X:GW):Ext F X X:=⟨rfl,rfl,rfl,Nat.le_refl _,fun _ _=>⟨rfl,rfl⟩,mH.refl X⟩
theorem Ext.trans{F:Nat→Prop}{X Y Z:GW}(h:Ext F X Y)(k:Ext F Y Z):Ext F X Z:=
 ⟨k.os.trans h.os,k.tape.trans h.tape,k.output.trans h.output,Nat.le_trans h.size k.size,fun b hb=>⟨(k.frame b hb).1.trans (h.frame b hb).1,(k.frame b hb).2.trans (h.frame b hb).2⟩,h.pres.trans k.pres⟩
theorem Ext.mono{F F':Nat→Prop}{X Y:GW}(h:Ext F X Y)(hf:∀b,F' b→F b):Ext F' X Y:=⟨h.os,h.tape,h.output,h.size,fun b hb=>h.frame b (hf b hb),h.pres⟩
structure New (X X':GW):Prop where
 os:X'.w.os=X.w.os
 tape:X'.w.tape=X.w.tape
 output:X'.w.output=X.w.output
 size:X.w.heap.size≤X'.w.heap.size
 old:∀b,b < X.w.heap.size→X'.w.heap[b]? =X.w.heap[b]? ∧X'.g b=X.g b
theorem New.refl(X:GW):New X X:=⟨rfl,rfl,rfl,Nat.le_refl _,fun _ _=>⟨rfl,rfl⟩⟩
theorem New.trans{X Y Z:GW}(h:New X Y)(k:New Y Z):New X Z:=
 ⟨k.os.trans h.os,k.tape.trans h.tape,k.output.trans h.output,Nat.le_trans h.size k.size,fun b hb=>⟨(k.old b (Nat.lt_of_lt_of_le hb h.size)).1.trans (h.old b hb).1,(k.old b (Nat.lt_of_lt_of_le hb h.size)).2.trans (h.old b hb).2⟩⟩
theorem cN{w w':World}{b j:Nat}(h:w'.heap[b]? =w.heap[b]?):w'.cell? ⟨b,j,none⟩=w.cell? ⟨b,j,none⟩:=by simp only[World.cell?,h]
theorem qU{w w':World}{b j:Nat}(h:w'.heap[b]? =w.heap[b]?):w'.frozen? ⟨b,j,none⟩=w.frozen? ⟨b,j,none⟩:=by simp only[World.frozen?,h]
theorem New.pres{X X':GW}(h:New X X')(hg:∀b n,X.g b=some n→b < X.w.heap.size):mH X X':=fun b n hb=>by
 obtain⟨h1,h2⟩:=h.old b (hg b n hb)
 exact⟨n,Nat.le_refl _,h2.trans hb,fun j _=>cN h1⟩
theorem New.ext{F:Nat→Prop}{X X':GW}(h:New X X')(hg:∀b n,X.g b=some n→b < X.w.heap.size)(hF:∀b,F b→b < X.w.heap.size):Ext F X X':=
 ⟨h.os,h.tape,h.output,h.size,fun b hb=>h.old b (hF b hb),h.pres hg⟩
theorem mi{w:World}{b j:Nat}{x:Value}(h:w.cell? ⟨b,j,none⟩=some x):b < w.heap.size:=by
 unfold World.cell? at h
 cases hb:w.heap[b]? with
 |none=>rw[hb] at h;cases h
 |some o=>exact(Array.getElem?_eq_some_iff.1 hb).1
theorem gl.keep{F F':Nat→Prop}{X X':GW}{sz:Nat}{l:List (List AV)}{x:Value}(h:gl F X sz l x)(hk:∀b n c,x=.slice (some ⟨b,0,none⟩) n c→X'.w.heap[b]? =X.w.heap[b]? ∧X'.g b=X.g b∧¬F' b):gl F' X' sz l x:=by
 rcases h with h| ⟨b,cap,cs,e,fr,h1,h2,h3,h4,h5,h6⟩
 ·exact .inl h
 ·obtain⟨k1,k2,k3⟩:=hk _ _ _ h1
  exact .inr ⟨b,cap,cs,e,fr,h1,k2.trans h2,k1.trans h3,h4,fun j a1 a2=>(qU k1).trans (h5 j a1 a2),k3⟩
theorem eI.keep{F F':Nat→Prop}{X X':GW}{k:Nat}{cs:List AV}(h:eI F X k cs)(hk:X'.w.heap[k]? =X.w.heap[k]? ∧X'.g k=X.g k∧¬F' k)(hp:mH X X'):eI F' X' k cs:=by
 rcases h with ⟨_,h1,h2,arr,e,fr,h3,h4,h5,h6⟩| ⟨l,rfl,h1,h2,es,ck,h3,h4,h5⟩
 ·exact eg.box ⟨hk.2.1.trans h1,hk.2.2,arr,e,fr,hk.1.trans h3,h4,fun o=>(qU hk.1).trans (h5 o),fun o u x hu hx=>(h6 o u x hu hx).mono hp⟩
 ·exact .inr ⟨l,rfl,hk.2.1.trans h1,hk.2.2,es,ck,hk.1.trans h3,h4,fun i e p hp1 he=>⟨(h5 i e p hp1 he).1,(h5 i e p hp1 he).2.mono hp⟩⟩
theorem eI.lt{F:Nat→Prop}{X:GW}{k:Nat}{cs:List AV}(h:eI F X k cs):k < X.w.heap.size:=by
 rcases h with ⟨_,_,_,arr,e,fr,h3,_⟩| ⟨_,_,_,_,es,ck,h3,_⟩
 ·exact(Array.getElem?_eq_some_iff.1 h3).1
 ·exact(Array.getElem?_eq_some_iff.1 h3).1
theorem gl.lt{F:Nat→Prop}{X:GW}{sz:Nat}{l:List (List AV)}{x:Value}(h:gl F X sz l x){b n c}(hx:x=.slice (some ⟨b,0,none⟩) n c):b < X.w.heap.size∧¬F b:=by
 rcases h with ⟨h,_⟩| ⟨b',cap,cs,e,fr,h1,h2,h3,h4,h5,h6⟩
 ·rw[h] at hx;cases hx
 ·rw[h1] at hx;cases hx
  exact⟨(Array.getElem?_eq_some_iff.1 h3).1,h6⟩
theorem iB{σ:AS}{k o sz:Nat}{l:List (List AV)}(h:σ.own (.c k o)=some (sz,l)):∃cs,look σ.h k=some cs∧cw cs[o]? =some (sz,l):=by
 simp only[AS.own] at h
 split at h
 ·rename_i cs hc;exact⟨cs,hc,h⟩
 ·cases h
theorem Sim.new{F:Nat→Prop}{X X':GW}{σ:AS}{tm:Array Value}(h:Sim F X σ tm)(hn:New X X')(hg:∀b n,X'.g b=some n→b < X'.w.heap.size):Sim F X' σ tm:=by
 have hp:=hn.pres h.gb
 have hroot:∀r x,rootV tm X.w r=some x→rootV tm X'.w r=some x:=by
  intro r x hr
  cases r with
  |s t=>exact hr
  |c k o=>
   simp only[rootV] at hr ⊢
   rw[cN (hn.old k (mi hr)).1];exact hr
 have hback:∀r sz l,σ.own r=some (sz,l)→rootV tm X'.w r=rootV tm X.w r:=by
  intro r sz l ho
  obtain⟨x,hx,_⟩:=h.own r sz l ho
  rw[hx];exact hroot r x hx
 refine⟨h.size,hg,fun b hb=>Nat.lt_of_lt_of_le (h.fb b hb) hn.size,fun t u hu=>(h.slot t u hu).mono hp,fun k cs hk=> ?_,fun x r hx=>hroot r _ (h.eqs x r hx),fun r sz l ho=> ?_,fun r r' sz l sz' l' a n c a' n' c' hne ho ho' hr hr'=> ?_⟩
 ·have hb:=h.box k cs hk
  exact hb.keep ⟨(hn.old k hb.lt).1,(hn.old k hb.lt).2,hb.nF⟩ hp
 ·obtain⟨x,hx,hok⟩:=h.own r sz l ho
  refine⟨x,hroot r x hx,hok.keep fun b n c hxe=> ?_⟩
  have:=hok.lt hxe
  exact⟨(hn.old b this.1).1,(hn.old b this.1).2,this.2⟩
 ·rw[hback r sz l ho] at hr
  rw[hback r' sz' l' ho'] at hr'
  exact h.disj r r' sz l sz' l' a n c a' n' c' hne ho ho' hr hr'
def Root.in(d:Nat):Root→Bool
 |.s t=>t==d
 |.c _ _=>false
def FreshOk(F:Nat→Prop)(B:Nat)(X':GW)(u:AV)(x:Value):Prop:=
 ∀sz l,cw (some u)=some (sz,l)→gl F X' sz l x∧∀a n c,x=.slice (some a) n c→B≤a.block
def AV.plain(u:AV):Prop:=cw (some u)=none
theorem FreshOk.plain{F:Nat→Prop}{B:Nat}{X':GW}{u:AV}{x:Value}(h:u.plain):FreshOk F B X' u x:=
 fun sz l hp=>by rw[h] at hp;cases hp
theorem M2(us:List AV):(AV.ag us).plain:=rfl
theorem tX(us:List AV):(AV.tu us).plain:=rfl
def AV.rd:AV→AV
 |.sl _ sz l=>.sl false sz l
 |u=>u
theorem Rel.own{X:GW}{o o':Bool}{sz:Nat}{l:List (List AV)}{x:Value}(h:Rel X (.sl o sz l) x):Rel X (.sl o' sz l) x:=by
 cases h with
 |nl o sz a c=>exact .nl _ _ a c
 |sl o sz l b off cap n c hg hn hc hs hm hr=>exact .sl _ _ l b off cap n c hg hn hc hs hm hr
theorem Rel.rd{X:GW}{u:AV}{x:Value}(h:Rel X u x):Rel X u.rd x:=by
 cases u with
 |sl o sz l=>exact h.own
 |_=>exact h
theorem ef(u:AV):u.rd.plain:=by cases u<;> rfl
theorem Sim.reown{F:Nat→Prop}{X:GW}{σ σ':AS}{tm:Array Value}(h:Sim F X σ tm)(hn:σ'.n=σ.n)(hslot:∀t u,look σ'.t t=some u→Rel X u (tm.getD t undef))
  (hbox:∀k cs,look σ'.h k=some cs→eI F X k cs) (heqs:∀x r,look σ'.e x=some r→rootV tm X.w r=some (tm.getD x undef))
  (f:Root→Root) (hf:∀r sz l,σ'.own r=some (sz,l)→(rootV tm X.w r=some (.slice none 0 0)∧l=[])∨(σ.own (f r)=some (sz,l)∧rootV tm X.w r=rootV tm X.w (f r)))
  (hinj:∀r r',r≠r'→σ'.own r≠none→σ'.own r'≠none→f r≠f r'):Sim F X σ' tm:=by
 refine⟨by rw[hn];exact h.size,h.gb,h.fb,hslot,hbox,heqs,fun r sz l ho=> ?_,fun r r' sz l sz' l' a n c a' n' c' hne ho ho' hr hr'=> ?_⟩
 ·rcases hf r sz l ho with ⟨h1,h2⟩| ⟨h1,h2⟩
  ·exact⟨_,h1,.inl ⟨rfl,h2⟩⟩
  ·rw[h2];exact h.own _ _ _ h1
 ·rcases hf r sz l ho with ⟨h1,h2⟩| ⟨h1,h2⟩
  ·rw[h1] at hr;cases hr
  ·rcases hf r' sz' l' ho' with ⟨k1,k2⟩| ⟨k1,k2⟩
   ·rw[k1] at hr';cases hr'
   ·rw[h2] at hr;rw[k2] at hr'
    exact h.disj (f r) (f r') sz l sz' l' a n c a' n' c' (hinj r r' hne (by rw[ho];simp) (by rw[ho'];simp)) h1 k1 hr hr'
theorem iF{tm:Array Value}{d:Nat}{x:Value}(h:d < tm.size):(tm.setIfInBounds d x).getD d undef=x:=by simp[h]
theorem pX{tm:Array Value}{d t:Nat}{x:Value}(h:t≠d):(tm.setIfInBounds d x).getD t undef=tm.getD t undef:=by
 simp only[Array.getD_eq_getD_getElem?,Array.getElem?_setIfInBounds];rw[if_neg (fun e=>h e.symm)]
theorem cI{α:Type}:∀ {l:List (Nat × α)} {x:Nat} {a:α},look l x=some a→(x,a)∈l
 | [],_,_,h=>by cases h
 | (k,b)::r,x,a,h=>by
   simp only[ab] at h
   split at h
   ·rename_i e;subst e;cases h;exact List.mem_cons_self
   ·exact List.mem_cons_of_mem _ (cI h)
def lM(e:List (Nat × Root))(tm:Array Value)(w:World):Prop:=∀p∈e,rootV tm w p.2=some (tm.getD p.1 undef)
theorem lM.look{e:List (Nat × Root)}{tm:Array Value}{w:World}(h:lM e tm w):∀x r,look e x=some r→rootV tm w r=some (tm.getD x undef):=fun _ _ hx=>h _ (cI hx)
structure SimE (F:Nat→Prop) (X:GW) (σ:AS) (tm:Array Value):Prop extends Sim F X σ tm where
 eqm:lM σ.e tm X.w
theorem vu{X X':GW}(hn:New X X'){tm:Array Value}{r:Root}{x:Value}(h:rootV tm X.w r=some x):rootV tm X'.w r=some x:=by
 cases r with
 |s t=>exact h
 |c k o=>
  simp only[rootV] at h ⊢
  rw[cN (hn.old k (mi h)).1];exact h
theorem SimE.new{F:Nat→Prop}{X X':GW}{σ:AS}{tm:Array Value}(h:SimE F X σ tm)(hn:New X X')(hg:∀b n,X'.g b=some n→b < X'.w.heap.size):SimE F X' σ tm:=
 ⟨h.toSim.new hn hg,fun p hp=>vu hn (h.eqm p hp)⟩
def AS.put(σ:AS)(d:Nat)(u:AV):AS:={ n:=σ.n,t:=(d,u)::σ.t,h:=σ.h,e:=σ.e.filter fun p=> !(p.1==d) && !p.2.in d }
theorem mA{tm:Array Value}{w:World}{d:Nat}{x:Value}{r:Root}(h:r.in d=false):rootV (tm.setIfInBounds d x) w r=rootV tm w r:=by
 cases r with
 |s t=>simp only[Root.in,beq_eq_false_iff_ne] at h;simp only[rootV];rw[pX h]
 |c k o=>rfl
theorem Oj{d:Nat}{r:Root}(h:r.in d=true):r=.s d:=by
 cases r with
 |s t=>simp only[Root.in,beq_iff_eq] at h;rw[h]
 |c k o=>cases h
theorem pB{σ:AS}{d:Nat}{u:AV}{r:Root}(h:r.in d=false):(σ.put d u).own r=σ.own r:=by
 cases r with
 |s t=>simp only[Root.in,beq_eq_false_iff_ne] at h;simp only[AS.own,AS.put,ab];rw[if_neg h]
 |c k o=>rfl
theorem xU{σ:AS}{d:Nat}{u:AV}:(σ.put d u).own (.s d)=cw (some u):=by simp[AS.own,AS.put,ab]
theorem SimE.put'{F:Nat→Prop}{X:GW}{σ:AS}{tm:Array Value}(h:SimE F X σ tm){d:Nat}{u:AV}{x:Value}(hd:d < σ.n)(hr:Rel X u x)(hok:∀sz l,cw (some u)=some (sz,l)→gl F X sz l x)
  (hlow:∀r sz l sz' l' a n c a' n' c',σ.own r=some (sz,l)→cw (some u)=some (sz',l')→rootV tm X.w r=some (.slice (some a) n c)→x=.slice (some a') n' c'→a.block≠a'.block):SimE F X (σ.put d u) (tm.setIfInBounds d x):=by
 have hd':d < tm.size:=by rw[h.size];exact hd
 have heq:lM (σ.put d u).e (tm.setIfInBounds d x) X.w:=by
  intro p hp
  simp only[AS.put,List.mem_filter,Bool.and_eq_true,Bool.not_eq_true',beq_eq_false_iff_ne] at hp
  rw[mA hp.2.2,pX hp.2.1]
  exact h.eqm p hp.1
 refine⟨⟨by simp[AS.put,h.size],h.gb,h.fb,fun t u' hu=> ?_,h.box,heq.look,fun r sz l ho=> ?_,fun r r' sz l sz' l' a n c a' n' c' hne ho ho' hr1 hr2=> ?_⟩,heq⟩
 ·simp only[AS.put,ab] at hu
  split at hu
  ·rename_i e;subst e;cases hu;rw[iF hd'];exact hr
  ·rename_i e;rw[pX e];exact h.slot t u' hu
 ·by_cases hin:r.in d=true
  ·obtain rfl:=Oj hin
   rw[xU] at ho
   exact⟨x,by simp only[rootV];rw[iF hd'],hok sz l ho⟩
  ·simp only[Bool.not_eq_true] at hin
   rw[pB hin] at ho
   rw[mA hin];exact h.own r sz l ho
 ·have key:∀r r' sz l sz' l' a n c a' n' c',r≠r'→(σ.put d u).own r=some (sz,l)→(σ.put d u).own r'=some (sz',l')→rootV (tm.setIfInBounds d x) X.w r=some (.slice (some a) n c)→rootV (tm.setIfInBounds d x) X.w r'=some (.slice (some a') n' c')→r.in d=true→a'.block≠a.block:=by
   intro r r' sz l sz' l' a n c a' n' c' hne ho ho' hr1 hr2 hin
   obtain rfl:=Oj hin
   rw[xU] at ho
   simp only[rootV] at hr1;rw[iF hd'] at hr1
   have hin':r'.in d=false:=by
    cases hc:r'.in d
    ·rfl
    ·exact absurd (Oj hc).symm hne
   rw[pB hin'] at ho'
   rw[mA hin'] at hr2
   exact hlow r' sz' l' sz l a' n' c' a n c ho' ho hr2 (Option.some.inj hr1)
  cases hin:r.in d
  ·cases hin':r'.in d
   ·rw[pB hin] at ho;rw[pB hin'] at ho'
    rw[mA hin] at hr1;rw[mA hin'] at hr2
    exact h.disj r r' sz l sz' l' a n c a' n' c' hne ho ho' hr1 hr2
   ·exact key r' r sz' l' sz l a' n' c' a n c (fun e=>hne e.symm) ho' ho hr2 hr1 hin'
  ·exact(key r r' sz l sz' l' a n c a' n' c' hne ho ho' hr1 hr2 hin).symm
theorem SimE.put{F:Nat→Prop}{X:GW}{σ:AS}{tm:Array Value}(h:SimE F X σ tm){d:Nat}{u:AV}{x:Value}{B:Nat}(hd:d < σ.n)(hr:Rel X u x)(hfr:FreshOk F B X u x)
  (hB:∀r sz l b n c,σ.own r=some (sz,l)→rootV tm X.w r=some (.slice (some ⟨b,0,none⟩) n c)→b < B):SimE F X (σ.put d u) (tm.setIfInBounds d x):=by
 refine h.put' hd hr (fun sz l ho=>(hfr sz l ho).1) fun r sz l sz' l' a n c a' n' c' ho hu hrv hx=> ?_
 have h4:=(hfr sz' l' hu).2 a' n' c' hx
 obtain⟨y,k1,k2⟩:=h.own r sz l ho
 rw[hrv] at k1;cases k1
 rcases k2 with ⟨k2,_⟩| ⟨b,cap,cs,e,fr,k2,_⟩
 ·cases k2
 ·cases k2
  have:=hB r sz l _ _ _ ho hrv
  simp only;omega
theorem SimE.turn{F:Nat→Prop}{X X':GW}{σ:AS}{tm:Array Value}(h:SimE F X σ tm)(b:Nat)(hheap:∀c,c≠b→c < X.w.heap.size→X'.w.heap[c]? =X.w.heap[c]? ∧X'.g c=X.g c)(hs:X.w.heap.size≤X'.w.heap.size)(hp:mH X X')(hg:∀b n,X'.g b=some n→b < X'.w.heap.size)
  (hno:∀r sz l a n c,σ.own r=some (sz,l)→rootV tm X.w r=some (.slice (some a) n c)→a.block≠b) (hbox:∀k cs,look σ.h k=some cs→k≠b) (hal:∀p∈σ.e,∀o,p.2≠.c b o):SimE F X' σ tm:=by
 have hroot:∀r x,rootV tm X.w r=some x→(∀o,r≠.c b o)→rootV tm X'.w r=some x:=by
  intro r x hr hne
  cases r with
  |s t=>exact hr
  |c k o=>
   simp only[rootV] at hr ⊢
   rw[cN (hheap k (fun e=>hne o (by rw[e])) (mi hr)).1];exact hr
 have hownne:∀r sz l,σ.own r=some (sz,l)→∀o,r≠.c b o:=by
  intro r sz l ho o e
  subst e
  obtain⟨cs,hc,_⟩:=iB ho
  exact hbox b cs hc rfl
 have hback:∀r sz l,σ.own r=some (sz,l)→rootV tm X'.w r=rootV tm X.w r:=by
  intro r sz l ho
  obtain⟨x,hx,_⟩:=h.own r sz l ho
  rw[hx];exact hroot r x hx (hownne r sz l ho)
 have heq:lM σ.e tm X'.w:=fun p hp=>hroot p.2 _ (h.eqm p hp) (hal p hp)
 refine⟨⟨h.size,hg,fun b hb=>Nat.lt_of_lt_of_le (h.fb b hb) hs,fun t u hu=>(h.slot t u hu).mono hp,fun k cs hk=> ?_,heq.look,fun r sz l ho=> ?_,fun r r' sz l sz' l' a n c a' n' c' hne ho ho' hr hr'=> ?_⟩,heq⟩
 ·have hb:=h.box k cs hk
  have:=hheap k (hbox k cs hk) hb.lt
  exact hb.keep ⟨this.1,this.2,hb.nF⟩ hp
 ·obtain⟨x,hx,hok⟩:=h.own r sz l ho
  refine⟨x,hroot r x hx (hownne r sz l ho),hok.keep fun c n q hxe=> ?_⟩
  have h1:=hok.lt hxe
  have h2:=hheap c (hno r sz l _ _ _ ho (by rw[hx,hxe])) h1.1
  exact⟨h2.1,h2.2,h1.2⟩
 ·rw[hback r sz l ho] at hr
  rw[hback r' sz' l' ho'] at hr'
  exact h.disj r r' sz l sz' l' a n c a' n' c' hne ho ho' hr hr'
theorem SimE.put_new{F:Nat→Prop}{X X':GW}{σ:AS}{tm:Array Value}(h:SimE F X σ tm){d:Nat}{u:AV}{x:Value}(hd:d < σ.n)(hn:New X X')(hg:∀b n,X'.g b=some n→b < X'.w.heap.size)(hr:Rel X' u x)(hfr:FreshOk F X.w.heap.size X' u x):
  SimE F X' (σ.put d u) (tm.setIfInBounds d x):=by
 refine(h.new hn hg).put hd hr hfr fun r sz l b n c ho hrv=> ?_
 obtain⟨y,h1,h2⟩:=h.own r sz l ho
 rw[vu hn h1] at hrv;cases hrv
 exact(h2.lt rfl).1
def AS.alias(σ:AS)(d:Nat)(r:Root):AS:={ n:=σ.n,t:=σ.t,h:=σ.h,e:=(d,r)::σ.e }
theorem SimE.alias{F:Nat→Prop}{X:GW}{σ:AS}{tm:Array Value}(h:SimE F X σ tm){d:Nat}{r:Root}(hr:rootV tm X.w r=some (tm.getD d undef)):SimE F X (σ.alias d r) tm:=by
 have heq:lM (σ.alias d r).e tm X.w:=by
  intro p hp
  rcases List.mem_cons.1 hp with rfl|hp
  ·exact hr
  ·exact h.eqm p hp
 exact⟨⟨h.size,h.gb,h.fb,h.slot,h.box,heq.look,h.own,h.disj⟩,heq⟩
def AS.lay(σ:AS):Root→AS
 |.s t=>{ n:=σ.n,t:=(match look σ.t t with|some u=>(t,u.rd)::σ.t|none=>σ.t),h:=σ.h,e:=σ.e }
 |.c k o=>{ n:=σ.n,t:=σ.t,h:=(match look σ.h k with|some cs=>(k,(match cs[o]? with|some u=>cs.set o u.rd|none=>cs))::σ.h|none=>σ.h),e:=σ.e }
theorem mo{σ:AS}(r:Root):(σ.lay r).own r=none:=by
 cases r with
 |s t=>
  simp only[AS.own,AS.lay]
  cases h:Go.Proofs.YtobacplonkjigaaDoor.look σ.t t with
  |none=>simp only;rw[h];rfl
  |some u=>simp only[ab,if_true];exact ef u
 |c k o=>
  simp only[AS.own,AS.lay]
  cases h:Go.Proofs.YtobacplonkjigaaDoor.look σ.h k with
  |none=>simp only;rw[h]
  |some cs=>
   simp only[ab,if_true]
   cases hc:cs[o]? with
   |none=>simp only;rw[hc];rfl
   |some u=>
    simp only
    rw[List.getElem?_set_self (List.getElem?_eq_some_iff.1 hc).1]
    exact ef u
theorem sF{σ:AS}{r r':Root}(h:r'≠r):(σ.lay r).own r'=σ.own r':=by
 cases r with
 |s t=>
  cases r' with
  |c k o=>rfl
  |s t'=>
   have hne:t'≠t:=fun e=>h (by rw[e])
   simp only[AS.own,AS.lay]
   cases hl:Go.Proofs.YtobacplonkjigaaDoor.look σ.t t with
   |none=>rfl
   |some u=>simp only[ab];rw[if_neg hne]
 |c k o=>
  cases r' with
  |s t=>rfl
  |c k' o'=>
   simp only[AS.own,AS.lay]
   cases hl:Go.Proofs.YtobacplonkjigaaDoor.look σ.h k with
   |none=>rfl
   |some cs=>
    simp only[ab]
    by_cases hk:k'=k
    ·subst hk
     rw[if_pos rfl,hl]
     simp only
     cases hc:cs[o]? with
     |none=>rfl
     |some u=>
      simp only
      rw[List.getElem?_set_ne (fun e=>h (by rw[e]))]
    ·rw[if_neg hk]
theorem SimE.lay{F:Nat→Prop}{X:GW}{σ:AS}{tm:Array Value}(h:SimE F X σ tm)(r:Root):SimE F X (σ.lay r) tm:=by
 refine⟨h.toSim.reown (by cases r<;> rfl) (fun t u hu=> ?_) (fun k cs hk=> ?_) (by cases r<;> exact h.eqs) id (fun r' sz l ho=>.inr ⟨?_,rfl⟩) (fun r1 r2 hne _ _=>hne),by cases r<;> exact h.eqm⟩
 ·cases r with
  |c k o=>exact h.slot t u hu
  |s t'=>
   simp only[AS.lay] at hu
   cases hl:Go.Proofs.YtobacplonkjigaaDoor.look σ.t t' with
   |none=>rw[hl] at hu;exact h.slot t u hu
   |some u0=>
    rw[hl] at hu
    simp only[ab] at hu
    split at hu
    ·rename_i e;subst e;cases hu;exact(h.slot t u0 hl).rd
    ·exact h.slot t u hu
 ·cases r with
  |s t=>exact h.box k cs hk
  |c k' o=>
   simp only[AS.lay] at hk
   cases hl:Go.Proofs.YtobacplonkjigaaDoor.look σ.h k' with
   |none=>rw[hl] at hk;exact h.box k cs hk
   |some cs0=>
    rw[hl] at hk
    simp only[ab] at hk
    split at hk
    ·rename_i e
     subst e
     cases hk
     rcases h.box k cs0 hl with ⟨_,b1,b2,arr,e,fr,b3,b4,b5,b6⟩| ⟨l,rfl,hmk⟩
     case inr=>
      cases o with
      |zero=>exact .inr ⟨l,rfl,hmk⟩
      |succ o=>exact .inr ⟨l,rfl,hmk⟩
     cases hc:cs0[o]? with
     |none=>exact eg.box ⟨b1,b2,arr,e,fr,b3,b4,b5,b6⟩
     |some u0=>
      refine eg.box ⟨b1,b2,arr,e,fr,b3,by simpa using b4,b5,fun o' u x hu hx=> ?_⟩
      simp only at hu
      by_cases ho:o'=o
      ·subst ho
       rw[List.getElem?_set_self (List.getElem?_eq_some_iff.1 hc).1] at hu
       cases hu
       exact(b6 o' u0 x hc hx).rd
      ·rw[List.getElem?_set_ne (fun e=>ho e.symm)] at hu
       exact b6 o' u x hu hx
    ·exact h.box k cs hk
 ·by_cases e:r'=r
  ·subst e;rw[mo] at ho;cases ho
  ·rw[sF e] at ho;exact ho
def AS.hand(σ:AS)(x:Nat)(r:Root):AS:=
 match σ.own r with
 |some (sz,l)=>{ n:=σ.n,t:=(x,.sl true sz l)::(σ.lay r).t,h:=(σ.lay r).h,e:=σ.e.filterMap fun p=>if p.1==x then none else if p.2=r then some (p.1,.s x) else if p.2.in x then none else some p }
 |none=>σ
theorem zL{σ:AS}{x sz:Nat}{l:List (List AV)}{T:List (Nat × AV)}{H:List (Nat × List AV)}{e:List (Nat × Root)}:AS.own { n:=σ.n,t:=(x,.sl true sz l)::T,h:=H,e:=e } (.s x)=some (sz,l):=by simp[AS.own,ab,cw]
theorem SimE.hand{F:Nat→Prop}{X:GW}{σ:AS}{tm:Array Value}(h:SimE F X σ tm){x:Nat}{r:Root}(hr:rootV tm X.w r=some (tm.getD x undef)):SimE F X (σ.hand x r) tm:=by
 unfold AS.hand
 cases ho:σ.own r with
 |none=>exact h
 |some q=>
  obtain⟨sz,l⟩:=q
  simp only
  have hl:=h.lay r
  have hrel:Rel X (.sl true sz l) (tm.getD x undef):=by
   cases r with
   |s t=>
    simp only[AS.own] at ho
    cases hlk:look σ.t t with
    |none=>rw[hlk] at ho;cases ho
    |some u=>
     rw[hlk] at ho
     have h1:=h.slot t u hlk
     simp only[rootV,Option.some.injEq] at hr
     rw[hr] at h1
     cases u with
     |sl o sz' l'=>cases o<;> simp[cw] at ho;obtain⟨rfl,rfl⟩:=ho;exact h1
     |_=>simp[cw] at ho
   |c k o=>
    simp only[AS.own] at ho
    cases hlk:look σ.h k with
    |none=>rw[hlk] at ho;cases ho
    |some cs=>
     rw[hlk] at ho
     simp only at ho
     obtain⟨b1,b2,arr,e,fr,b3,b4,b5,b6⟩:=(h.box k cs hlk).own ho
     cases hc:cs[o]? with
     |none=>rw[hc] at ho;cases ho
     |some u=>
      rw[hc] at ho
      simp only[rootV,World.cell?,b3] at hr
      have h1:=b6 o u (tm.getD x undef) hc (by simpa using hr)
      cases u with
      |sl o sz' l'=>cases o<;> simp[cw] at ho;obtain⟨rfl,rfl⟩:=ho;exact h1
      |_=>simp[cw] at ho
  refine⟨h.toSim.reown rfl (fun t u hu=> ?_) (fun k cs hk=>hl.box k cs hk) ?_ (fun r'=>if r'=.s x then r else r') (fun r' sz' l' ho'=>.inr ?_) (fun r1 r2 hne h1 h2=> ?_),?_⟩
  ·simp only[ab] at hu
   split at hu
   ·rename_i e;subst e;cases hu;exact hrel
   ·exact hl.slot t u hu
  ·refine lM.look ?_
   intro p hp
   obtain⟨q',hq,hq2⟩:=List.mem_filterMap.1 hp
   split at hq2
   ·cases hq2
   ·split at hq2
    ·rename_i e2;rw[← Option.some.inj hq2];have:=h.eqm q' hq;rw[e2,hr] at this;exact this
    ·split at hq2
     ·cases hq2
     ·rw[← Option.some.inj hq2];exact h.eqm q' hq
  ·by_cases e:r'=.s x
   ·subst e
    rw[if_pos rfl]
    rw[zL] at ho'
    cases ho'
    exact⟨ho,by rw[hr];rfl⟩
   ·rw[if_neg e]
    refine⟨?_,rfl⟩
    have h1:(σ.lay r).own r'=some (sz',l'):=by
     cases r' with
     |s t=>
      have hne:t≠x:=fun e2=>e (by rw[e2])
      simp only[AS.own,ab] at ho' ⊢
      rw[if_neg hne] at ho';exact ho'
     |c k o=>exact ho'
    by_cases e2:r'=r
    ·subst e2;rw[mo] at h1;cases h1
    ·rw[sF e2] at h1;exact h1
  ·have noR:∀q,q≠.s x→AS.own { n:=σ.n,t:=(x,.sl true sz l)::(σ.lay r).t,h:=(σ.lay r).h,e:=σ.e.filterMap fun p=>if p.1==x then none else if p.2=r then some (p.1,.s x) else if p.2.in x then none else some p } q≠none→q≠r:=by
    intro q hq hown e
    subst e
    apply hown
    have:AS.own { n:=σ.n,t:=(x,.sl true sz l)::(σ.lay q).t,h:=(σ.lay q).h,e:=σ.e.filterMap fun p=>if p.1==x then none else if p.2=q then some (p.1,.s x) else if p.2.in x then none else some p } q=(σ.lay q).own q:=by
     cases q with
     |s t=>
      have hne:t≠x:=fun e2=>hq (by rw[e2])
      simp only[AS.own,ab];rw[if_neg hne]
     |c k o=>rfl
    rw[this];exact mo q
   by_cases e1:r1=.s x
   ·rw[if_pos e1]
    by_cases e2:r2=.s x
    ·exact absurd (e1.trans e2.symm) hne
    ·rw[if_neg e2];exact fun e=>noR r2 e2 h2 e.symm
   ·rw[if_neg e1]
    by_cases e2:r2=.s x
    ·rw[if_pos e2];exact noR r1 e1 h1
    ·rw[if_neg e2];exact hne
  ·intro p hp
   obtain⟨q',hq,hq2⟩:=List.mem_filterMap.1 hp
   split at hq2
   ·cases hq2
   ·split at hq2
    ·rename_i e2;rw[← Option.some.inj hq2];have:=h.eqm q' hq;rw[e2,hr] at this;exact this
    ·split at hq2
     ·cases hq2
     ·rw[← Option.some.inj hq2];exact h.eqm q' hq
theorem SimE.sub{F:Nat→Prop}{X:GW}{σ σ':AS}{tm:Array Value}(h:SimE F X σ tm)(hn:σ'.n=σ.n)(ht:∀t u,look σ'.t t=some u→look σ.t t=some u)(hh:∀k cs,look σ'.h k=some cs→look σ.h k=some cs)(he:∀p∈σ'.e,p∈σ.e):SimE F X σ' tm:=by
 have heq:lM σ'.e tm X.w:=fun p hp=>h.eqm p (he p hp)
 refine⟨h.toSim.reown hn (fun t u hu=>h.slot t u (ht t u hu)) (fun k cs hk=>h.box k cs (hh k cs hk)) heq.look id (fun r sz l ho=>.inr ⟨?_,rfl⟩) (fun _ _ hne _ _=>hne),heq⟩
 cases r with
 |s t=>
  simp only[AS.own] at ho
  cases hlk:look σ'.t t with
  |none=>rw[hlk] at ho;cases ho
  |some u=>rw[hlk] at ho;simp only[id,AS.own];rw[ht t u hlk];exact ho
 |c k o=>
  simp only[AS.own] at ho
  cases hlk:look σ'.h k with
  |none=>rw[hlk] at ho;cases ho
  |some u=>rw[hlk] at ho;simp only[id,AS.own];rw[hh k u hlk];exact ho
def AS.save(K:List Nat):List (Nat × Root)→AS→AS
 | [],σ=>σ
 | (x,r)::es,σ=>AS.save K es (if K.contains x then(match r with|.s t=>if K.contains t then σ else σ.hand x r|.c _ _=>σ) else σ)
theorem SimE.save{F:Nat→Prop}{X:GW}{tm:Array Value}(K:List Nat):∀ (es:List (Nat × Root)) (σ:AS),SimE F X σ tm→lM es tm X.w→SimE F X (σ.save K es) tm
 | [],σ,h,_=>h
 | (x,r)::es,σ,h,he=>by
   refine SimE.save K es _ ?_ (fun p hp=>he p (List.mem_cons_of_mem _ hp))
   have h1:=he (x,r) List.mem_cons_self
   split
   ·cases r with
    |s t=>
     simp only
     split
     ·exact h
     ·exact h.hand h1
    |c k o=>exact h
   ·exact h
def A3(T:List (Nat × AV)):List Nat→List (Nat × AV)
 | [] =>[]
 |k::ks=>match look T k with|some u=>(k,u)::A3 T ks|none=>A3 T ks
theorem s7{T:List (Nat × AV)}:∀ {K:List Nat} {t:Nat} {u:AV},look (A3 T K) t=some u→look T t=some u
 | [],_,_,h=>by cases h
 |k::ks,t,u,h=>by
  simp only[A3] at h
  cases hl:look T k with
  |none=>rw[hl] at h;exact s7 h
  |some u0=>
   rw[hl] at h
   simp only[ab] at h
   split at h
   ·rename_i e;subst e;rw[hl];exact h
   ·exact s7 h
def Root.keepB(K:List Nat):Root→Bool
 |.s t=>K.contains t
 |.c _ _=>true
def AS.keep(K:List Nat)(σ:AS):AS:=
 { n:=σ.n,t:=A3 (σ.save K σ.e).t K,h:=(σ.save K σ.e).h,e:=(σ.save K σ.e).e.filter fun p=>K.contains p.1 && p.2.keepB K }
theorem Lx(σ:AS)(x:Nat)(r:Root):(σ.hand x r).n=σ.n:=by unfold AS.hand;split<;> rfl
theorem KW(K:List Nat):∀ (es:List (Nat × Root)) (σ:AS),(σ.save K es).n=σ.n
 | [],_=>rfl
 | (x,r)::es,σ=>by
   simp only[AS.save]
   rw[KW K es]
   split
   ·cases r with
    |s t=>simp only;split<;> simp[Lx]
    |c k o=>rfl
   ·rfl
theorem SimE.keep{F:Nat→Prop}{X:GW}{σ:AS}{tm:Array Value}(h:SimE F X σ tm)(K:List Nat):SimE F X (σ.keep K) tm:=
 (SimE.save K σ.e σ h h.eqm).sub (KW K σ.e σ).symm (fun _ _ hu=>s7 hu) (fun _ _ hk=>hk) (fun _ hp=>(List.mem_filter.1 hp).1)
inductive Le1:AV→AV→Prop
 |refl (u:AV):Le1 u u
 |rd (o:Bool) (sz:Nat) (l:List (List AV)):Le1 (.sl o sz l) (.sl false sz l)
 |nil (o:Bool) (sz:Nat):Le1 (.v (.slice none 0 0)) (.sl o sz [])
theorem Le1.of_eq{u u':AV}(h:u=u'):Le1 u u':=by subst h;exact .refl _
theorem Le1.rel{X:GW}{u u':AV}{x:Value}(h:Le1 u u')(hr:Rel X u x):Rel X u' x:=by
 cases h with
 |refl=>exact hr
 |rd=>exact hr.own
 |nil=>cases hr;exact .nil _ _
def LeT(T:List (Nat × AV)):List (Nat × AV)→Prop
 | [] =>True
 | (k,u')::r=>(∃u,look T k=some u∧Le1 u u')∧LeT T r
theorem LeT.look{T:List (Nat × AV)}:∀ {T':List (Nat × AV)},LeT T T'→∀t u',look T' t=some u'→∃u,look T t=some u∧Le1 u u'
 | [],_,_,_,h=>by cases h
 | (k,u0)::r,h,t,u',hl=>by
   simp only[ab] at hl
   split at hl
   ·rename_i e;subst e;cases hl;exact h.1
   ·exact LeT.look h.2 t u' hl
inductive LeL:List AV→List AV→Prop
 |nil:LeL [] []
 |cons {u u':AV} {r r':List AV}:Le1 u u'→LeL r r'→LeL (u::r) (u'::r')
theorem LeL.refl:∀l,LeL l l
 | [] =>.nil
 |u::r=>.cons (.refl u) (LeL.refl r)
theorem LeL.of_eq{l l':List AV}(h:l=l'):LeL l l':=by subst h;exact .refl _
theorem LeL.length{l l':List AV}(h:LeL l l'):l.length=l'.length:=by induction h<;> simp_all
theorem LeL.get{l l':List AV}(h:LeL l l'):∀ (i:Nat) u',l'[i]? =some u'→∃u,l[i]? =some u∧Le1 u u':=by
 induction h with
 |nil=>intro i u' h;simp at h
 |cons hu _ ih=>
  intro i u' h
  cases i with
  |zero=>simp at h;subst h;exact⟨_,by simp,hu⟩
  |succ i=>simpa using ih i u' (by simpa using h)
def LeH(H:List (Nat × List AV)):List (Nat × List AV)→Prop
 | [] =>True
 | (k,cs')::r=>(∃cs,look H k=some cs∧LeL cs cs')∧LeH H r
theorem LeH.look{H:List (Nat × List AV)}:∀ {H':List (Nat × List AV)},LeH H H'→∀t u',look H' t=some u'→∃u,look H t=some u∧LeL u u'
 | [],_,_,_,h=>by cases h
 | (k,u0)::r,h,t,u',hl=>by
   simp only[ab] at hl
   split at hl
   ·rename_i e;subst e;cases hl;exact h.1
   ·exact LeH.look h.2 t u' hl
structure Le (σ σ':AS):Prop where
 n:σ'.n=σ.n
 t:LeT σ.t σ'.t
 h:LeH σ.h σ'.h
 e:σ'.e=[]
theorem Le1.own{u u':AV}(h:Le1 u u'){sz l}(ho:cw (some u')=some (sz,l)):cw (some u)=some (sz,l)∨(u=.v (.slice none 0 0)∧l=[]):=by
 cases h with
 |refl=>exact .inl ho
 |rd=>cases ho
 |nil o=>cases o<;> simp[cw] at ho;exact .inr ⟨rfl,ho.2⟩
theorem SimE.le{F:Nat→Prop}{X:GW}{σ σ':AS}{tm:Array Value}(h:SimE F X σ tm)(hle:Le σ σ'):SimE F X σ' tm:=by
 have heq:lM σ'.e tm X.w:=by rw[hle.e];intro p hp;cases hp
 refine⟨h.toSim.reown hle.n (fun t u hu=> ?_) (fun k cs hk=> ?_) heq.look id (fun r sz l ho=> ?_) (fun _ _ hne _ _=>hne),heq⟩
 ·obtain⟨u0,h1,h2⟩:=hle.t.look t u hu
  exact h2.rel (h.slot t u0 h1)
 ·obtain⟨cs0,h1,h2⟩:=hle.h.look k cs hk
  rcases h.box k cs0 h1 with ⟨_,b1,b2,arr,e,fr,b3,b4,b5,b6⟩| ⟨l,rfl,hmk⟩
  case inr=>
   cases h2 with
   |cons hu hr=>
    cases hr
    cases hu
    exact .inr ⟨l,rfl,hmk⟩
  refine eg.box ⟨b1,b2,arr,e,fr,b3,by rw[b4];exact h2.length,b5,fun o u x hu hx=> ?_⟩
  obtain⟨u0,k1,k2⟩:=h2.get o u hu
  exact k2.rel (b6 o u0 x k1 hx)
 ·cases r with
  |s t=>
   simp only[AS.own] at ho
   cases hlk:look σ'.t t with
   |none=>rw[hlk] at ho;cases ho
   |some u=>
    rw[hlk] at ho
    obtain⟨u0,h1,h2⟩:=hle.t.look t u hlk
    rcases h2.own ho with h3| ⟨h3,h4⟩
    ·right;simp only[id,AS.own];rw[h1];exact⟨h3,trivial⟩
    ·left
     subst h3
     have:=h.slot t _ h1
     refine⟨?_,h4⟩
     simp only[rootV]
     generalize tm.getD t undef=y at this
     cases this;rfl
  |c k o=>
   simp only[AS.own] at ho
   cases hlk:look σ'.h k with
   |none=>rw[hlk] at ho;cases ho
   |some cs=>
    rw[hlk] at ho
    simp only at ho
    obtain⟨cs0,h1,h2⟩:=hle.h.look k cs hlk
    cases hc:cs[o]? with
    |none=>rw[hc] at ho;cases ho
    |some u=>
     rw[hc] at ho
     obtain⟨u0,k1,k2⟩:=h2.get o u hc
     rcases k2.own ho with h3| ⟨h3,h4⟩
     ·right;simp only[id,AS.own];rw[h1];simp only;rw[k1];exact⟨h3,trivial⟩
     ·left
      subst h3
      obtain⟨b1,b2,arr,e,fr,b3,b4,b5,b6⟩:=(h.box k cs0 h1).at k1 rfl
      have hlt:=(List.getElem?_eq_some_iff.1 k1).1
      have hx:arr[o]? =some arr[o] :=Array.getElem?_eq_getElem (by omega)
      have:=b6 o _ _ k1 hx
      refine⟨?_,h4⟩
      simp only[rootV,World.cell?,b3]
      rw[hx]
      generalize arr[o] =y at this
      cases this;rfl
def qC(P:Program)(R:Value→World→Prop):Result Next→Prop
 |.ok (.value x) w'=>R x w'
 |.ok .skip w'=>R undef w'
 |.ok (.enter f args) w'=>Calls P f args w' fun
  |.returned x,w''=>R x w''
  |_,_=>False
 |_=>False
def jN(P:Program)(o:Oper)(a:Act)(w:World)(R:Value→World→Prop):Prop:=qC P R ((execOp a.eval o).run P w)
theorem jN.wp{P:Program}{o:Oper}{a:Act}{w:World}{R:Value→World→Prop}(h:jN P o a w R){next:Act→World→Prop}{Q:Exit→Act→World→Prop}(hn:∀x w',R x w'→next (a.put o.dst x) w'):o.wp P a w next Q:=by
 unfold jN at h
 unfold Oper.wp
 generalize (execOp a.eval o).run P w=r at h
 cases r with
 |halt x w'=>exact h.elim
 |ok n w'=>
  cases n<;> simp only[qC] at h<;> simp only[Oper.upon]
  case value x=>exact hn _ _ h
  case skip=>exact hn _ _ h
  case enter f args=>
   refine h.mono fun e w'' he=> ?_
   cases e with
   |returned x=>exact hn _ _ he
   |panicked c=>exact he.elim
   |outgrown=>exact he.elim
theorem jN.mono{P:Program}{o:Oper}{a:Act}{w:World}{R R':Value→World→Prop}(h:jN P o a w R)(hr:∀x w',R x w'→R' x w'):jN P o a w R':=by
 unfold jN at *
 generalize (execOp a.eval o).run P w=r at *
 cases r with
 |halt x w'=>exact h.elim
 |ok n w'=>
  cases n<;> simp only[qC] at *
  case value x=>exact hr _ _ h
  case skip=>exact hr _ _ h
  case enter f args=>
   refine h.mono fun e w'' he=> ?_
   cases e with
   |returned x=>exact hr _ _ he
   |panicked c=>exact he.elim
   |outgrown=>exact he.elim
theorem ci{P:Program}{o:Oper}{a:Act}{w w':World}{x:Value}{R:Value→World→Prop}(h:(execOp a.eval o).run P w=.ok (.value x) w')(hR:R x w'):jN P o a w R:=by unfold jN;rw[h];exact hR
structure SimR (F:Nat→Prop) (X:GW) (σ:AS) (o:Op) (tm:Array Value):Prop where
 gb:∀b n,X.g b=some n→b < X.w.heap.size
 fb:∀b,F b→b < X.w.heap.size
 slot:∀t u,Operand.tmp t∈o.operands.toList→look σ.t t=some u→Rel X u (tm.getD t undef)
 box:∀k cs,look σ.h k=some cs→eI F X k cs
theorem SimE.r{F:Nat→Prop}{X:GW}{σ:AS}{tm:Array Value}(h:SimE F X σ tm)(o:Op):SimR F X σ o tm:=⟨h.gb,h.fb,fun t u _ hu=>h.slot t u hu,h.box⟩
def OpV(P:Program)(o:Oper)(σ:AS)(u:AV):Prop:=
 ∀F X a,SimR F X σ o.op a.tmps→jN P o a X.w fun x w'=>∃X':GW,X'.w=w'∧New X X'∧(∀b n,X'.g b=some n→b < X'.w.heap.size)∧Rel X' u x∧FreshOk F X.w.heap.size X' u x
def da(F:Nat→Prop)(X:GW)(D:List Deferred)(Q:Exit→AS→Prop)(e:Exit)(a':Act)(w':World):Prop:=
 a'.defers=D∧∃ (X':GW) (σ':AS),X'.w=w'∧Q e σ'∧SimE F X' σ' a'.tmps∧Ext F X X'
theorem da.ext{F:Nat→Prop}{X Y:GW}{D:List Deferred}{Q:Exit→AS→Prop}{e:Exit}{a':Act}{w':World}(h:da F Y D Q e a' w')(hx:Ext F X Y):da F X D Q e a' w':=
 let ⟨h1,X',σ',h2,h3,h4,h5⟩:=h
 ⟨h1,X',σ',h2,h3,h4,hx.trans h5⟩
theorem da.mono{F:Nat→Prop}{X:GW}{D:List Deferred}{Q Q':Exit→AS→Prop}{e:Exit}{a':Act}{w':World}(h:da F X D Q e a' w')(hq:∀e σ,Q e σ→Q' e σ):da F X D Q' e a' w':=
 let ⟨h1,X',σ',h2,h3,h4,h5⟩:=h
 ⟨h1,X',σ',h2,hq _ _ h3,h4,h5⟩
def Awp(P:Program)(c:Code)(Q:Exit→AS→Prop)(σ:AS):Prop:=
 ∀F X a,SimE F X σ a.tmps→∀D,a.defers=D→c.wp P (da F X D Q) a X.w
def Fk(P:Program)(l:List Oper)(k:Nat)(Q:Exit→AS→Prop)(σ:AS):Prop:=
 ∀F X a,SimE F X σ a.tmps→∀D,a.defers=D→wpOps P l.toArray (da F X D Q) (List.range' k (l.length - k)) a X.w
inductive It where
 |c (c:Code)
 |b (id:Nat)
 |l (I:AS→Prop)
 |o (l:List Oper) (k:Nat) (rest:List Oper)
def Stk(P:Program)(Q:Exit→AS→Prop):List It→Exit→AS→Prop
 | [],e,σ=>Q e σ
 |.c c::ks,e,σ=>match e with|.normal=>Awp P c (Stk P Q ks) σ|e=>Stk P Q ks e σ
 |.b id::ks,e,σ=>match e with|.exit id'=>if id'=id then Stk P Q ks .normal σ else Stk P Q ks (.exit id') σ|e=>Stk P Q ks e σ
 |.l I::ks,e,σ=>match e with|.normal=>I σ|e=>Stk P Q ks e σ
 |.o l k _::ks,e,σ=>match e with|.normal=>Fk P l k (Stk P Q ks) σ|e=>Stk P Q ks e σ
def aY(P:Program)(Q:Exit→AS→Prop)(ks:List It)(σ:AS):Prop:=Stk P Q ks .normal σ
section
variable {P:Program} {Q:Exit→AS→Prop} {ks:List It} {σ:AS}
theorem Awp.mono{c:Code}{R R':Exit→AS→Prop}(h:Awp P c R σ)(hq:∀e σ,R e σ→R' e σ):Awp P c R' σ:=
 fun F X a hs D hd=>wp_mono (h F X a hs D hd) fun _ _ _ hp=>hp.mono hq
theorem LE(h:Q .normal σ):aY P Q [] σ:=h
theorem TM{c:Code}{σ':AS}(h:aY P Q (.c c::ks) σ')(hs:∀F X tm,SimE F X σ tm→SimE F X σ' tm):aY P Q (.c c::ks) σ:=fun F X a hsim D hd=>h F X a (hs _ _ _ hsim) D hd
theorem gk(h:aY P Q ks σ):aY P Q (.c .skip::ks) σ:=fun F X a hs D hd=>wp_skip ⟨hd,X,σ,rfl,h,hs,Ext.refl F X⟩
theorem M1{l:Nat}(h:aY P Q ks σ):aY P Q (.c (.label l)::ks) σ:=fun F X a hs D hd=>wp_label ⟨hd,X,σ,rfl,h,hs,Ext.refl F X⟩
theorem SO(h:Stk P Q ks .ret σ):aY P Q (.c .ret::ks) σ:=fun F X a hs D hd=>wp_ret ⟨hd,X,σ,rfl,h,hs,Ext.refl F X⟩
theorem gh{id:Nat}(h:Stk P Q ks (.exit id) σ):aY P Q (.c (.exit id)::ks) σ:=fun F X a hs D hd=>wp_exit ⟨hd,X,σ,rfl,h,hs,Ext.refl F X⟩
theorem iH{x y:Code}(h:aY P Q (.c x::.c y::ks) σ):aY P Q (.c (.seq x y)::ks) σ:=by
 intro F X a hs D hd
 refine wp_seq (wp_mono (h F X a hs D hd) fun e a' w' hp=> ?_)
 obtain⟨h1,X',σ',h2,h3,h4,h5⟩:=hp
 cases e with
 |normal=>
  subst h2
  exact wp_mono (h3 F X' a' h4 D h1) fun e2 a2 w2 hp2=>hp2.ext h5
 |_=>exact⟨h1,X',σ',h2,h3,h4,h5⟩
theorem eH{id:Nat}{c:Code}(h:aY P Q (.c c::.b id::ks) σ):aY P Q (.c (.block id c)::ks) σ:=by
 intro F X a hs D hd
 refine wp_block (wp_mono (h F X a hs D hd) fun e a' w' hp=> ?_)
 obtain⟨h1,X',σ',h2,h3,h4,h5⟩:=hp
 cases e with
 |exit id'=>
  simp only[Exit.inBlock]
  by_cases e:id'=id
  ·subst e
   simp only[Stk,if_true] at h3 ⊢
   exact⟨h1,X',σ',h2,h3,h4,h5⟩
  ·simp only[Stk,if_neg e] at h3 ⊢
   exact⟨h1,X',σ',h2,h3,h4,h5⟩
 |_=>exact⟨h1,X',σ',h2,h3,h4,h5⟩
theorem iI{id:Nat}(h:aY P Q ks σ):aY P Q (.b id::ks) σ:=h
theorem NH{F:Nat→Prop}{X:GW}{a:Act}(hs:SimE F X σ a.tmps){t:Nat}{u:AV}(h:look σ.t t=some u):Rel X u (a.eval (.tmp t)):=hs.slot t u h
theorem GP{t:Nat}{b:Bool}{x y:Code}(hc:look σ.t t=some (.v (.bool b)))(h:aY P Q (.c (if b then x else y)::ks) σ):aY P Q (.c (.cond (.tmp t) x y)::ks) σ:=by
 intro F X a hs D hd
 have h1:=NH hs hc
 have h2:a.eval (.tmp t)=.bool b:=by generalize a.eval (.tmp t)=z at h1;cases h1;rfl
 exact wp_cond h2 (h F X a hs D hd)
theorem bU{t:Nat}{b:Bool}{x y:Code}(hc:look σ.t t=some (.v (.bool b)))(hb:b=true)(h:aY P Q (.c x::ks) σ):aY P Q (.c (.cond (.tmp t) x y)::ks) σ:=GP hc (by subst hb;exact h)
theorem bz{t:Nat}{b:Bool}{x y:Code}(hc:look σ.t t=some (.v (.bool b)))(hb:b=false)(h:aY P Q (.c y::ks) σ):aY P Q (.c (.cond (.tmp t) x y)::ks) σ:=GP hc (by subst hb;exact h)
theorem dM{id:Nat}{l:List Oper}(h:aY P Q (.o l 0 l::ks) σ):aY P Q (.c (.region id l.toArray false)::ks) σ:=by
 intro F X a hs D hd
 refine wp_region ?_
 have:=h F X a hs D hd
 rw[Nat.sub_zero,← List.range_eq_range'] at this
 simpa using this
theorem yf{l:List Oper}{k:Nat}(hk:k=l.length)(h:aY P Q ks σ):aY P Q (.o l k [] ::ks) σ:=by
 intro F X a hs D hd
 subst hk
 rw[Nat.sub_self]
 exact⟨hd,X,σ,rfl,h,hs,Ext.refl F X⟩
def bp(l:List Oper)(σ:AS)(o:Oper):Option Bool:=
 match o.guard with
 |none=>some true
 |some (j,want)=>match(l[j]?).bind (·.dst) with
  |some d=>if d < σ.n then(match look σ.t d with|some (.v (.bool b))=>some (b==want)|_=>none) else none
  |none=>none
theorem lF{l:List Oper}{o:Oper}{b:Bool}{F:Nat→Prop}{X:GW}{tm:Array Value}(hs:SimE F X σ tm)(h:bp l σ o=some b):Region.wanted o (yielded l.toArray tm)=b:=by
 unfold bp at h
 unfold Region.wanted
 cases hg:o.guard with
 |none=>rw[hg] at h;cases h;rfl
 |some p=>
  obtain⟨j,want⟩:=p
  rw[hg] at h
  simp only at h ⊢
  cases hj:(l[j]?).bind (·.dst) with
  |none=>rw[hj] at h;cases h
  |some d=>
   rw[hj] at h
   simp only at h
   split at h
   ·rename_i hd
    cases hlk:look σ.t d with
    |none=>rw[hlk] at h;cases h
    |some u=>
     rw[hlk] at h
     have hr:=hs.slot d u hlk
     have hd':d < tm.size:=by rw[hs.size];exact hd
     have hy:yielded l.toArray tm j=match tm.getD d undef with|.bool b=>some b|_=>none:=by
      unfold yielded
      have:((l.toArray)[j]?).bind (·.dst)=some d:=by simpa using hj
      rw[this]
      simp[hd']
      cases tm[d] <;> rfl
     rw[hy]
     cases u with
     |v x=>
      cases x with
      |bool b'=>
       simp only[Option.some.injEq] at h
       generalize tm.getD d undef=z at hr
       cases hr
       subst h
       cases b'<;> cases want<;> rfl
      |_=>cases h
     |_=>cases h
   ·cases h
def fT(l:List Oper)(σ:AS)(o:Oper):Bool:=
 match o.guard with
 |none=>false
 |some (j,_)=>match(l[j]?).bind (·.dst) with
  |some d=>(match look σ.t d with|some (.v (.tuple _))=>decide (d < σ.n)|_=>false)
  |none=>false
theorem yG{l:List Oper}{σ:AS}{o:Oper}{F:Nat→Prop}{X:GW}{tm:Array Value}(hs:SimE F X σ tm)(h:fT l σ o=true):Region.wanted o (yielded l.toArray tm)=false:=by
 unfold fT at h
 unfold Region.wanted
 cases hg:o.guard with
 |none=>rw[hg] at h;cases h
 |some p=>
  obtain⟨j,want⟩:=p
  rw[hg] at h
  simp only at h ⊢
  cases hj:(l[j]?).bind (·.dst) with
  |none=>rw[hj] at h;cases h
  |some d=>
   rw[hj] at h
   simp only at h
   split at h
   ·rename_i c0 hlk
    have hd:=of_decide_eq_true h
    have hr:=hs.slot d _ hlk
    have hd':d < tm.size:=by rw[hs.size];exact hd
    have hv:tm.getD d undef=.tuple c0:=by
     generalize tm.getD d undef=z at hr
     cases hr
     rfl
    have hy:yielded l.toArray tm j=none:=by
     unfold yielded
     have:((l.toArray)[j]?).bind (·.dst)=some d:=by simpa using hj
     rw[this]
     simp[hd'] at hv ⊢
     rw[hv]
    rw[hy];rfl
   ·cases h
def pI(l:List Oper)(σ:AS)(o:Oper):Prop:=bp l σ o=some false∨fT l σ o=true
theorem sX{l:List Oper}{σ:AS}{o:Oper}{F:Nat→Prop}{X:GW}{tm:Array Value}(hs:SimE F X σ tm)(h:pI l σ o):Region.wanted o (yielded l.toArray tm)=false:=by
 rcases h with h|h
 ·exact lF hs h
 ·exact yG hs h
theorem sa{l:List Oper}{σ:AS}{o:Oper}(h:pI l σ o):o.guard≠none:=fun hg=>by
 rcases h with h|h
 ·unfold bp at h;rw[hg] at h;cases h
 ·unfold fT at h;rw[hg] at h;cases h
theorem lQ{k n:Nat}(h:k < n):List.range' k (n - k)=k::List.range' (k+1) (n - (k+1)):=by
 obtain⟨m,rfl⟩:∃m,n=k+ (m+1):=⟨n - k - 1,by omega⟩
 rw[show k+ (m+1) - k=m+1 by omega,show k+ (m+1) - (k+1)=m by omega]
 rfl
theorem vB{o:Oper}{a:Act}{next next':Act→World→Prop}{R R':Exit→Act→World→Prop}{r:Result Next}(hn:∀a w,next a w→next' a w)(hR:∀e a w,R e a w→R' e a w)(h:o.upon P a next R r):o.upon P a next' R' r:=by
 cases r with
 |halt x w=>
  cases x<;> simp only[Oper.upon] at h ⊢ <;> exact hR _ _ _ h
 |ok n w=>
  cases n<;> simp only[Oper.upon] at h ⊢
  case value x=>exact hn _ _ h
  case skip=>exact hn _ _ h
  case defer d=>exact hn _ _ h
  case row r args=>exact h.mono fun v w' hv=>hn _ _ hv
  case enter f args=>
   refine h.mono fun e w' he=> ?_
   cases e with
   |returned v=>exact hn _ _ he
   |panicked c=>exact hR _ _ _ he
   |outgrown=>obtain⟨a0,w0,h0⟩:=he;exact⟨a0,w0,hR _ _ _ h0⟩
theorem iV{ops:Array Oper}{R R':Exit→Act→World→Prop}(hR:∀e a w,R e a w→R' e a w):∀ (l:List Nat) (a:Act) (w:World),wpOps P ops R l a w→wpOps P ops R' l a w
 | [],a,w,h=>hR _ _ _ h
 |i::rest,a,w,h=>by
  simp only[wpOps] at h ⊢
  cases ho:ops[i]? with
  |none=>rw[ho] at h;exact iV hR rest a w h
  |some o=>
   rw[ho] at h
   simp only at h ⊢
   split
   ·rename_i hw
    rw[if_pos hw] at h
    rcases h with h| ⟨h,a0,w0,h0⟩
    ·exact .inl (vB (fun a w h=>iV hR rest a w h) hR h)
    ·exact .inr ⟨h,a0,w0,hR _ _ _ h0⟩
   ·rename_i hw
    rw[if_neg hw] at h
    exact iV hR rest _ w h
def cy(P:Program)(o:Oper)(σ:AS)(R:AS→Prop):Prop:=
 ∀F X a,SimE F X σ a.tmps→jN P o a X.w fun x w'=>∃ (X':GW) (σ':AS),X'.w=w'∧R σ'∧SimE F X' σ' (a.put o.dst x).tmps∧Ext F X X'
theorem eM(a:Act)(d:Option Tmp)(x:Value):(a.put d x).defers=a.defers:=by cases d<;> rfl
theorem dZ{l:List Oper}{k:Nat}{o:Oper}{rest:List Oper}(ho:l[k]? =some o)(hw:bp l σ o=some true)(h:cy P o σ (fun σ'=>aY P Q (.o l (k+1) rest::ks) σ')):aY P Q (.o l k (o::rest)::ks) σ:=by
 intro F X a hs D hd
 have hk:k < l.length:=(List.getElem?_eq_some_iff.1 ho).1
 rw[lQ hk]
 have ho':(l.toArray)[k]? =some o:=by simpa using ho
 simp only[wpOps,ho']
 rw[if_pos (lF hs hw)]
 left
 refine(h F X a hs).wp fun x w' hx=> ?_
 obtain⟨X',σ',h1,h2,h3,h4⟩:=hx
 subst h1
 exact iV (fun _ _ _ hp=>hp.ext h4) _ _ _ (h2 F X' (a.put o.dst x) h3 D (by rw[eM];exact hd))
end
structure Tys (P:Program) where
 ty:List (Nat × TypeDesc)
 sz:List (Nat × (Nat × Nat))
 zr:List (Nat × Value)
 tyOk:∀t d,look ty t=some d→P.underlying t=some d
 szOk:∀t s b,look sz t=some (s,b)→∃i,P.info? t=some i∧i.size=s∧i.bytes=b∧∃z,i.zero=some z∧z.cells.size=s
 zrOk:∀t z,look zr t=some z→∃i,P.info? t=some i∧i.zero=some z
def cst:Value→AV
 |.agg xs=>.ag (xs.toList.map .v)
 |.tuple xs=>.tu (xs.toList.map .v)
 |x=>.v x
theorem nH(X:GW)(x:Value):Rel X (cst x) x:=by
 cases x with
 |agg xs=>exact .ag _ xs (by simp) (fun i u y hu hy=>by
   simp only[List.getElem?_map,Option.map_eq_some_iff] at hu
   obtain⟨z,hz,rfl⟩:=hu
   have:some z=some y:=hz.symm.trans (by simpa using hy)
   cases this;exact .v _)
 |tuple xs=>exact .tu _ xs (by simp) (fun i u y hu hy=>by
   simp only[List.getElem?_map,Option.map_eq_some_iff] at hu
   obtain⟨z,hz,rfl⟩:=hu
   have:some z=some y:=hz.symm.trans (by simpa using hy)
   cases this;exact .v _)
 |_=>exact .v _
def opV(σ:AS):Operand→Option AV
 |.tmp t=>look σ.t t
 |.const v=>some (cst v)
 |.func f=>some (.v (.func (.func f) #[] #[]))
 |.global g=>some (.v (.pointer (some ⟨g,0,none⟩)))
section
variable {P:Program} {Q:Exit→AS→Prop} {ks:List It} {σ:AS} {F:Nat→Prop} {X:GW} {a:Act} {o:Op}
theorem co{x:Operand}{u:AV}(hs:SimR F X σ o a.tmps)(hm:x∈o.operands.toList)(h:opV σ x=some u):Rel X u (a.eval x):=by
 cases x with
 |tmp t=>exact hs.slot t u hm h
 |const v=>cases h;exact nH X v
 |func f=>cases h;exact .v _
 |global g=>cases h;exact .v _
theorem bF{x y:Value}(h:Rel X (.v x) y):y=x:=by cases h;rfl
theorem aL{x:Operand}{v:Value}(hs:SimR F X σ o a.tmps)(hm:x∈o.operands.toList)(h:opV σ x=some (.v v)):a.eval x=v:=bF (co hs hm h)
theorem aG{o:Oper}{u:AV}(hp:u.plain)(h:∀F X (a:Act),SimR F X σ o.op a.tmps→∃x,(execOp a.eval o).run P X.w=.ok (.value x) X.w∧Rel X u x):OpV P o σ u:=by
 intro F X a hs
 obtain⟨x,h1,h2⟩:=h F X a hs
 exact ci h1 ⟨X,rfl,New.refl X,hs.gb,h2,FreshOk.plain hp⟩
def kB(d:Nat):List (Nat × Root)→Option Nat
 | [] =>none
 | (x,.s t)::r=>match Nat.beq t d,Nat.beq x d with|true,false=>some x|_,_=>kB d r
 | (_,.c _ _)::r=>kB d r
theorem qA{d:Nat}:∀ {e:List (Nat × Root)} {x:Nat},kB d e=some x→(x,.s d)∈e
 | [],_,h=>by cases h
 | (x0,.s t)::r,x,h=>by
   simp only[kB] at h
   split at h
   ·rename_i h1 h2;cases h;rw[Nat.eq_of_beq_eq_true h1];exact List.mem_cons_self
   ·exact List.mem_cons_of_mem _ (qA h)
 | (_,.c _ _)::r,x,h=>List.mem_cons_of_mem _ (qA (by simpa only[kB] using h))
def AS.free(σ:AS)(d:Nat):AS:=match kB d σ.e with|some x=>σ.hand x (.s d)|none=>σ
theorem SimE.free{tm:Array Value}(h:SimE F X σ tm)(d:Nat):SimE F X (σ.free d) tm:=by
 unfold AS.free
 cases hf:kB d σ.e with
 |none=>exact h
 |some x=>exact h.hand (h.eqm _ (qA hf))
theorem FN(σ:AS)(d:Nat):(σ.free d).n=σ.n:=by unfold AS.free;split<;> simp[Lx]
theorem ba{m n:Nat}(h:Nat.ble (m+1) n=true):m < n:=Nat.le_of_ble_eq_true h
theorem FH{o:Oper}{d:Nat}{u:AV}(hdst:o.dst=some d)(hd:Nat.ble (d+1) σ.n=true)(h:OpV P o σ u){R:AS→Prop}(hR:R ((σ.free d).put d u)):cy P o σ R:=by
 intro F X a hs
 refine(h F X a (hs.r o.op)).mono fun x w' ⟨X',h1,h2,h3,h4,h5⟩=> ?_
 refine⟨X',(σ.free d).put d u,h1,hR,?_,h2.ext hs.gb hs.fb⟩
 rw[hdst]
 exact(hs.free d).put_new (by rw[FN];exact ba hd) h2 h3 h4 h5
theorem lX{l:List Oper}{k:Nat}{o:Oper}{rest:List Oper}{d:Nat}{u:AV}(ho:l[k]? =some o)(hw:bp l σ o=some true)(hdst:o.dst=some d)(hd:Nat.ble (d+1) σ.n=true)(h:OpV P o σ u)
  (hn:aY P Q (.o l (k+1) rest::ks) ((σ.free d).put d u)):aY P Q (.o l k (o::rest)::ks) σ:=dZ ho hw (FH hdst hd h hn)
def fY(s:ByteArray):List UInt8:=s.data.toList
theorem jB(l:List UInt8):fY (mkB l)=l:=rfl
theorem Ds(s:ByteArray):mkB (fY s)=s:=rfl
def OV(op:BinOp)(a b:Int):Option Value:=
 match op with
 |.eql=>some (.bool (a==b))
 |.neq=>some (.bool (a != b))
 |.lss=>some (.bool (decide (a < b)))
 |.leq=>some (.bool (decide (a≤b)))
 |.gtr=>some (.bool (decide (a > b)))
 |.geq=>some (.bool (decide (a≥b)))
 |_=>none
def arV(op:BinOp)(k:IntKind)(a b:Int):Option Value:=
 match op with
 |.add=>some (.int k (k.wrap (a+b)))
 |.sub=>some (.int k (k.wrap (a - b)))
 |.mul=>some (.int k (k.wrap (a * b)))
 |.and=>some (.int k (bits .and k a b))
 |.or=>some (.int k (bits .or k a b))
 |.xor=>some (.int k (bits .xor k a b))
 |op=>OV op a b
def Jg(op:BinOp)(a b:List UInt8):Option Value:=
 match op with
 |.eql=>some (.bool (decide (a=b)))
 |.neq=>some (.bool (!decide (a=b)))
 |.lss=>some (.bool (Op.bytesLess a b))
 |.leq=>some (.bool (Op.bytesLess a b || decide (a=b)))
 |.gtr=>some (.bool (!(Op.bytesLess a b || decide (a=b))))
 |.geq=>some (.bool (!Op.bytesLess a b))
 |_=>none
theorem aW{s:Sem Value}{x:Value}{w w':World}(h:s.run P w=.ok x w'):(do pure (Next.value (← s)):Sem Next).run P w=.ok (.value x) w':=by
 simp[h,go_sem]
theorem DW(op:BinOp)(t:TypeId)(xo yo:Operand)(k:IntKind)(a b:Int)(v:Value)(w:World)(h:arV op k a b=some v):
  (do eqGuard op t xo yo (.int k a) (.int k b);binOp op t (.int k a) (.int k b):Sem Value).run P w=.ok v w:=by
 cases op<;> simp[arV,OV] at h<;> subst h<;> simp[eqGuard,binOp,Op.intArith,Op.intCmp,Op.intBits,bits,go_sem]
theorem bi{d:Option Tmp}{op:BinOp}{t yt ty:TypeId}{x y:Operand}{pos:String}{af:Array Edge}{g:Option (Nat × Bool)}{k:IntKind}{a b:Int}{v:Value}
  (hx:opV σ x=some (.v (.int k a))) (hy:opV σ y=some (.v (.int k b))) (hr:arV op k a b=some v):OpV P ⟨d,.binOp op t x y yt,ty,pos,af,g⟩ σ (.v v):=by
 refine aG rfl fun F X ac hs=>⟨v,?_,.v _⟩
 have h1:=aL hs (by simp[Op.operands]) hx
 have h2:=aL hs (by simp[Op.operands]) hy
 have h3:=DW (P:=P) op t x y k a b v X.w hr
 simp only[execOp,h1,h2]
 exact aW h3
end
section
variable {P:Program} {σ:AS} {d:Option Tmp} {t yt ty:TypeId} {x y z:Operand} {pos:String} {af:Array Edge} {g:Option (Nat × Bool)}
theorem vH(s:ByteArray):s.toList=fY s:=by rw[ByteArray.toList_eq];rfl
theorem iD(s:ByteArray):s.size=(fY s).length:=(H5 s).symm
theorem Da(s:ByteArray)(i j:Nat):s.extract i j=mkB (((fY s).take j).drop i):=by
 apply ByteArray.ext
 rw[ByteArray.data_extract]
 apply Array.ext'
 simp only[mkB,fY,Array.toList_extract,List.extract_eq_take_drop,List.drop_take]
theorem Im{op:BinOp}{k yk:IntKind}{a b:Int}(hx:opV σ x=some (.v (.int k a)))(hy:opV σ y=some (.v (.int yk b)))(hop:op=.shl)(hb:0≤b):
  OpV P ⟨d,.binOp op t x y yt,ty,pos,af,g⟩ σ (.v (.int k (k.wrap (a * 2 ^ (min b.toNat k.bits))))):=by
 subst hop
 refine aG rfl fun F X ac hs=>⟨_,?_,.v _⟩
 have h1:=aL hs (by simp[Op.operands]) hx
 have h2:=aL hs (by simp[Op.operands]) hy
 simp only[execOp,h1,h2]
 refine aW ?_
 simp[eqGuard,binOp,Op.shift,Int.not_lt.2 hb]
theorem Cv{op:BinOp}{k yk:IntKind}{a b:Int}(hx:opV σ x=some (.v (.int k a)))(hy:opV σ y=some (.v (.int yk b)))(hop:op=.shr)(hb:0≤b):
  OpV P ⟨d,.binOp op t x y yt,ty,pos,af,g⟩ σ (.v (.int k (a.fdiv (2 ^ (min b.toNat k.bits))))):=by
 subst hop
 refine aG rfl fun F X ac hs=>⟨_,?_,.v _⟩
 have h1:=aL hs (by simp[Op.operands]) hx
 have h2:=aL hs (by simp[Op.operands]) hy
 simp only[execOp,h1,h2]
 refine aW ?_
 simp[eqGuard,binOp,Op.shift,Int.not_lt.2 hb]
theorem BP{op:BinOp}{k:IntKind}{a b:Int}(hx:opV σ x=some (.v (.int k a)))(hy:opV σ y=some (.v (.int k b)))(hop:op=.quo)(hb:b≠0):
  OpV P ⟨d,.binOp op t x y yt,ty,pos,af,g⟩ σ (.v (.int k (k.wrap (a.tdiv b)))):=by
 subst hop
 refine aG rfl fun F X ac hs=>⟨_,?_,.v _⟩
 have h1:=aL hs (by simp[Op.operands]) hx
 have h2:=aL hs (by simp[Op.operands]) hy
 simp only[execOp,h1,h2]
 refine aW ?_
 simp[eqGuard,binOp,Op.intDiv,hb]
theorem Cd{op:BinOp}{k:IntKind}{a b:Int}(hx:opV σ x=some (.v (.int k a)))(hy:opV σ y=some (.v (.int k b)))(hop:op=.rem)(hb:b≠0):
  OpV P ⟨d,.binOp op t x y yt,ty,pos,af,g⟩ σ (.v (.int k (a.tmod b))):=by
 subst hop
 refine aG rfl fun F X ac hs=>⟨_,?_,.v _⟩
 have h1:=aL hs (by simp[Op.operands]) hx
 have h2:=aL hs (by simp[Op.operands]) hy
 simp only[execOp,h1,h2]
 refine aW ?_
 simp[eqGuard,binOp,Op.intDiv,hb]
theorem cR{op:BinOp}{a b:ByteArray}{v:Value}(hx:opV σ x=some (.v (.string a)))(hy:opV σ y=some (.v (.string b)))(hr:Jg op (fY a) (fY b)=some v):
  OpV P ⟨d,.binOp op t x y yt,ty,pos,af,g⟩ σ (.v v):=by
 refine aG rfl fun F X ac hs=>⟨_,?_,.v _⟩
 have h1:=aL hs (by simp[Op.operands]) hx
 have h2:=aL hs (by simp[Op.operands]) hy
 simp only[execOp,h1,h2]
 refine aW ?_
 have hd:∀u v:List UInt8,(u==v)=decide (u=v):=fun u v=>by
  by_cases e:u=v
  ·subst e;simp
  ·simp[e]
 cases op<;> simp[Jg] at hr<;> subst hr<;> simp[eqGuard,binOp,Op.stringOp,vH,hd]
theorem GK{a b:ByteArray}(hx:opV σ x=some (.v (.string a)))(hy:opV σ y=some (.v (.string b)))(hl:(fY a).length+ (fY b).length≤9223372036854775807):
  OpV P ⟨d,.binOp .add t x y yt,ty,pos,af,g⟩ σ (.v (.string (mkB (fY a++fY b)))):=by
 refine aG rfl fun F X ac hs=>⟨_,?_,.v _⟩
 have h1:=aL hs (by simp[Op.operands]) hx
 have h2:=aL hs (by simp[Op.operands]) hy
 simp only[execOp,h1,h2]
 refine aW ?_
 rw[FZ]
 simp[eqGuard,binOp,Op.stringOp,Ds]
 rw[iD,iD];omega
theorem rt{op:UnOp}{b:Bool}(hx:opV σ x=some (.v (.bool b)))(hop:op=.not):OpV P ⟨d,.unOp op t x,ty,pos,af,g⟩ σ (.v (.bool (!b))):=by
 subst hop
 refine aG rfl fun F X ac hs=>⟨_,?_,.v _⟩
 have h1:=aL hs (by simp[Op.operands]) hx
 simp only[execOp,h1]
 exact aW rfl
theorem w6{op:UnOp}{k:IntKind}{n:Int}(hx:opV σ x=some (.v (.int k n)))(hop:op=.neg):OpV P ⟨d,.unOp op t x,ty,pos,af,g⟩ σ (.v (.int k (k.wrap (0 - n)))):=by
 subst hop
 refine aG rfl fun F X ac hs=>⟨_,?_,.v _⟩
 have h1:=aL hs (by simp[Op.operands]) hx
 simp only[execOp,h1]
 exact aW rfl
theorem jZ{c:Operand}{b:Bool}{u:AV}(hc:opV σ c=some (.v (.bool b)))(hb:b=true)(hx:opV σ x=some u):OpV P ⟨d,.pick c x y,ty,pos,af,g⟩ σ u.rd:=by
 subst hb
 refine aG (ef u) fun F X ac hs=>⟨ac.eval x,?_,(co hs (by simp[Op.operands]) hx).rd⟩
 have h1:=aL hs (by simp[Op.operands]) hc
 simp only[execOp,h1]
 rfl
theorem ka{c:Operand}{b:Bool}{u:AV}(hc:opV σ c=some (.v (.bool b)))(hb:b=false)(hy:opV σ y=some u):OpV P ⟨d,.pick c x y,ty,pos,af,g⟩ σ u.rd:=by
 subst hb
 refine aG (ef u) fun F X ac hs=>⟨ac.eval y,?_,(co hs (by simp[Op.operands]) hy).rd⟩
 have h1:=aL hs (by simp[Op.operands]) hc
 simp only[execOp,h1]
 rfl
theorem qV{i:Nat}{us:List AV}{u:AV}(hx:opV σ x=some (.tu us))(hu:us[i]? =some u):OpV P ⟨d,.extract x i,ty,pos,af,g⟩ σ u.rd:=by
 refine aG (ef u) fun F X ac hs=> ?_
 have h1:=co hs (by simp[Op.operands]) hx
 simp only[execOp]
 generalize ac.eval x=v at h1
 cases h1 with
 |tu _ xs hl hr=>
  have hlt:=(List.getElem?_eq_some_iff.1 hu).1
  have hx:xs[i]? =some xs[i] :=Array.getElem?_eq_getElem (by omega)
  exact⟨xs[i],aW (by simp[Instr.extract,hx]),(hr i u _ hu hx).rd⟩
theorem Hx{a:Addr}(hx:opV σ x=some (.v (.pointer (some a)))):OpV P ⟨d,.nilCheck x,ty,pos,af,g⟩ σ (.v (.pointer (some a))):=by
 refine aG rfl fun F X ac hs=>⟨_,?_,.v _⟩
 have h1:=aL hs (by simp[Op.operands]) hx
 simp only[execOp,h1]
 rfl
theorem Rw{X:GW}{cs:List AV}{v:Value}(h:Rel X (.el cs) v):∃b off,v=.pointer (some ⟨b,off,none⟩):=by
 cases h with|el _ b off n c=>exact⟨b,off,rfl⟩
theorem po{cs:List AV}(hx:opV σ x=some (.el cs)):OpV P ⟨d,.nilCheck x,ty,pos,af,g⟩ σ (.el cs):=by
 refine aG rfl fun F X ac hs=> ?_
 have h1:=co hs (by simp[Op.operands]) hx
 obtain⟨b,off,he⟩:=Rw h1
 simp only[execOp,he] at h1 ⊢
 exact⟨_,rfl,h1⟩
theorem Mi{T:Tys P}{u:AV}{dsc:TypeDesc}(hx:opV σ x=some u)(ht:look T.ty t=some dsc)(hi:(match dsc with|.interface _=>false|_=>true)=true):OpV P ⟨d,.makeInterface t x,ty,pos,af,g⟩ σ (.ifc t u):=by
 refine aG rfl fun F X ac hs=>⟨.iface t (ac.eval x),?_,.ifc t u _ (co hs (by simp[Op.operands]) hx)⟩
 have hu:=T.tyOk t dsc ht
 simp only[execOp]
 refine aW ?_
 cases dsc<;> simp[Instr.makeInterface,run_underlying hu] at hi ⊢
theorem Br{T:Tys P}{t2:TypeId}{k k0:IntKind}{n:Int}{d0:TypeDesc}(hx:opV σ x=some (.v (.int k0 n)))(h0:look T.ty t=some d0)(ht:look T.ty t2=some (.int k)):
  OpV P ⟨d,.convert t t2 x,ty,pos,af,g⟩ σ (.v (.int k (k.wrap n))):=by
 refine aG rfl fun F X ac hs=>⟨_,?_,.v _⟩
 have h1:=aL hs (by simp[Op.operands]) hx
 have hu:=T.tyOk _ _ h0
 have hu2:=T.tyOk _ _ ht
 simp only[execOp,h1]
 refine aW ?_
 simp[convert,run_underlying hu,run_underlying hu2,Conv.intToInt]
theorem CS{T:Tys P}{t2:TypeId}{s:ByteArray}(hx:opV σ x=some (.v (.string s)))(h0:look T.ty t=some .string)(ht:look T.ty t2=some .string):
  OpV P ⟨d,.convert t t2 x,ty,pos,af,g⟩ σ (.v (.string s)):=by
 refine aG rfl fun F X ac hs=>⟨_,?_,.v _⟩
 have h1:=aL hs (by simp[Op.operands]) hx
 have hu:=T.tyOk _ _ h0
 have hu2:=T.tyOk _ _ ht
 simp only[execOp,h1]
 refine aW ?_
 simp[convert,run_underlying hu,run_underlying hu2]
theorem nL{T:Tys P}{ats:Array TypeId}{s:ByteArray}(hx:opV σ x=some (.v (.string s)))(ha:ats[0]? =some t)(h0:look T.ty t=some .string):
  OpV P ⟨d,.call { callee:=.builtin .len,args:= #[x],argTypes:=ats },ty,pos,af,g⟩ σ (.v (.int .i64 (fY s).length)):=by
 refine aG rfl fun F X ac hs=>⟨_,?_,.v _⟩
 have h1:=aL hs (by simp[Op.operands,Call.operands]) hx
 have hu:=T.tyOk _ _ h0
 simp[execOp,resolve,invoke,builtin,Builtin.len_,h1,ha,run_underlying hu,goInt,iD]
theorem g7{T:Tys P}{ats:Array TypeId}{e:TypeId}{a:Option Addr}{n c:Nat}(hx:opV σ x=some (.v (.slice a n c)))(ha:ats[0]? =some t)(h0:look T.ty t=some (.slice e)):
  OpV P ⟨d,.call { callee:=.builtin .len,args:= #[x],argTypes:=ats },ty,pos,af,g⟩ σ (.v (.int .i64 n)):=by
 refine aG rfl fun F X ac hs=>⟨_,?_,.v _⟩
 have h1:=aL hs (by simp[Op.operands,Call.operands]) hx
 have hu:=T.tyOk _ _ h0
 simp[execOp,resolve,invoke,builtin,Builtin.len_,h1,ha,run_underlying hu,goInt]
theorem gy{X:GW}{o:Bool}{sz:Nat}{l:List (List AV)}{v:Value}(h:Rel X (.sl o sz l) v):∃a c,v=.slice a l.length c:=by
 cases h with
 |nl _ _ a c=>exact⟨a,c,rfl⟩
 |sl _ _ _ b off cap n c=>exact⟨_,_,rfl⟩
theorem pw{T:Tys P}{ats:Array TypeId}{e:TypeId}{o:Bool}{sz:Nat}{l:List (List AV)}(hx:opV σ x=some (.sl o sz l))(ha:ats[0]? =some t)(h0:look T.ty t=some (.slice e)):
  OpV P ⟨d,.call { callee:=.builtin .len,args:= #[x],argTypes:=ats },ty,pos,af,g⟩ σ (.v (.int .i64 l.length)):=by
 refine aG rfl fun F X ac hs=>⟨_,?_,.v _⟩
 obtain⟨a,c,h1⟩:=gy (co hs (by simp[Op.operands,Call.operands]) hx)
 have hu:=T.tyOk _ _ h0
 simp[execOp,resolve,invoke,builtin,Builtin.len_,h1,ha,run_underlying hu,goInt]
theorem P9{ats:Array TypeId}{k k':IntKind}{a b:Int}(hx:opV σ x=some (.v (.int k a)))(hy:opV σ y=some (.v (.int k' b))):
  OpV P ⟨d,.call { callee:=.builtin .min,args:= #[x,y],argTypes:=ats },ty,pos,af,g⟩ σ (.v (.int k (if b < a then b else a))):=by
 refine aG rfl fun F X ac hs=>⟨_,?_,.v _⟩
 have h1:=aL hs (by simp[Op.operands,Call.operands]) hx
 have h2:=aL hs (by simp[Op.operands,Call.operands]) hy
 simp[execOp,resolve,invoke,builtin,Builtin.min_,Builtin.min2,h1,h2]
theorem rW{T:Tys P}{k:IntKind}{s:ByteArray}{i:Int}(hx:opV σ x=some (.v (.string s)))(hy:opV σ y=some (.v (.int k i)))(h0:look T.ty t=some .string)(h1:0≤i)(h2:i < (fY s).length):
  OpV P ⟨d,.index t x y,ty,pos,af,g⟩ σ (.v (.int .u8 (((fY s).getD i.toNat 0).toNat))):=by
 refine aG rfl fun F X ac hs=>⟨_,?_,.v _⟩
 have e1:=aL hs (by simp[Op.operands]) hx
 have e2:=aL hs (by simp[Op.operands]) hy
 have hu:=T.tyOk _ _ h0
 simp only[execOp,e1,e2]
 refine aW ?_
 have hlt:i.toNat < (fY s).length:=by omega
 have hs:s[i.toNat]? =some ((fY s).getD i.toNat 0):=by
  rw[List.getD_eq_getElem?_getD,List.getElem?_eq_getElem hlt]
  have:i.toNat < s.size:=by rw[iD];exact hlt
  rw[getElem?_pos s i.toNat this]
  rfl
 simp[Instr.index,asIntOf,run_underlying hu,h1,hs]
end
section
variable {P:Program} {T:Tys P} {σ:AS} {d:Option Tmp} {t yt ty:TypeId} {x y z:Operand} {pos:String} {af:Array Edge} {g:Option (Nat × Bool)}
theorem oT{code:BoundsCode}{k:IntKind}{i:Int}{n:Nat}{w:World}(h0:0≤i)(h1:i≤n):(Instr.sliceBound (.int k i) n code).run P w=.ok i.toNat w:=by
 simp[Instr.sliceBound,asIntOf,h0,h1]
def m8(σ:AS)(q:Option Operand)(k:IntKind)(i z:Int):Prop:=match q with|some q=>opV σ q=some (.v (.int k i))|none=>i=z
def Em(q:Option Value)(i z:Int):Prop:=match q with|some v=>∃k,v=.int k i|none=>i=z
theorem jO{isS:Bool}{len cap:Nat}{lo hi:Option Value}{i j:Int}{w:World}(hlo:Em lo i 0)(hhi:Em hi j len)(h1:0≤i)(h2:i≤j)(h3:j≤cap):
  (Instr.sliceBounds isS len cap lo hi none).run P w=.ok (i.toNat,j.toNat,cap) w:=by
 have hB:∀ (k:IntKind) (c:BoundsCode),(Instr.sliceBound (.int k j) cap c).run P w=.ok j.toNat w:=fun k c=>oT (by omega) h3
 have hA:∀ (k:IntKind) (c:BoundsCode),(Instr.sliceBound (.int k i) j.toNat c).run P w=.ok i.toNat w:=fun k c=>oT h1 (by omega)
 cases lo with
 |none=>
  simp only[Em] at hlo
  subst hlo
  cases hi with
  |none=>simp only[Em] at hhi;subst hhi;simp[Instr.sliceBounds]
  |some v=>obtain⟨k,rfl⟩:=hhi;simp[Instr.sliceBounds,hB]
 |some v0=>
  obtain⟨k0,rfl⟩:=hlo
  cases hi with
  |none=>
   simp only[Em] at hhi
   have hA':=hA k0 .sliceB
   rw[hhi] at hA'
   simp only[Int.toNat_natCast] at hA'
   simp[Instr.sliceBounds,hA',hhi]
  |some v=>obtain⟨k,rfl⟩:=hhi;simp[Instr.sliceBounds,hB,hA]
theorem jd{o:Op}{F:Nat→Prop}{X:GW}{ac:Act}{q:Option Operand}{k:IntKind}{i z:Int}(hs:SimR F X σ o ac.tmps)(hm:∀p,q=some p→p∈o.operands.toList)(h:m8 σ q k i z):Em (q.map ac.eval) i z:=by
 cases q with
 |none=>exact h
 |some p=>exact⟨k,aL hs (hm p rfl) h⟩
theorem dR{lo hi:Option Operand}{s:ByteArray}{k1 k2:IntKind}{i j:Int}(hx:opV σ x=some (.v (.string s)))(h0:look T.ty t=some .string)
  (hlo:m8 σ lo k1 i 0) (hhi:m8 σ hi k2 j (fY s).length) (h1:0≤i) (h2:i≤j) (h3:j≤(fY s).length):
  OpV P ⟨d,.slice t x lo hi none,ty,pos,af,g⟩ σ (.v (.string (mkB (((fY s).take j.toNat).drop i.toNat)))):=by
 refine aG rfl fun F X ac hs=>⟨_,?_,.v _⟩
 have e1:=aL hs (by simp[Op.operands]) hx
 have hu:=T.tyOk _ _ h0
 simp only[execOp,e1]
 refine aW ?_
 have hsz:(j≤s.size):=by rw[iD];exact h3
 have:=jO (P:=P) (isS:=false) (len:=s.size) (cap:=s.size) (w:=X.w) (jd (q:=lo) (k:=k1) (i:=i) (z:=0) hs (fun p hp=>by subst hp;cases hi<;> simp[Op.operands]) hlo) (jd (q:=hi) (k:=k2) (i:=j) (z:=s.size) hs (fun p hp=>by subst hp;cases lo<;> simp[Op.operands]) (by rw[iD];exact hhi)) h1 h2 hsz
 simp only[Instr.sliceAt,Instr.slice,Option.map_none]
 simp[run_underlying hu,this,Da]
theorem en(b off n:Nat):(⟨b,off,none⟩:Addr).add n=⟨b,off+n,none⟩:=by unfold Addr.add;split<;> simp_all
theorem n4{X:GW}{o:Bool}{sz:Nat}{l:List (List AV)}{v:Value}(h:Rel X (.sl o sz l) v):((∃a c,v=.slice a 0 c)∧l=[])∨∃b off cap n,v=.slice (some ⟨b,off,none⟩) l.length cap∧X.g b=some n∧off+l.length * sz≤n∧l.length≤cap∧
  ∃c:Nat→Nat→Value,(∀ (i:Nat) (r:List AV),l[i]? =some r→r.length=sz)∧(∀ (i j:Nat) (r:List AV) (u:AV),l[i]? =some r→r[j]? =some u→X.w.cell? ⟨b,off+i * sz+j,none⟩=some (c i j))∧(∀ (i j:Nat) (r:List AV) (u:AV),l[i]? =some r→r[j]? =some u→Rel X u (c i j)):=by
 cases h with
 |nl _ _ a c=>exact .inl ⟨⟨a,c,rfl⟩,rfl⟩
 |sl _ _ _ b off cap n c h1 h2 h3 h4 h5 h6=>exact .inr ⟨b,off,cap,n,rfl,h1,h2,h3,c,h4,h5,h6⟩
theorem tK{lo hi:Option Operand}{o:Bool}{sz:Nat}{l:List (List AV)}{k1 k2:IntKind}{i j:Int}{e:TypeId}{by_:Nat}(hx:opV σ x=some (.sl o sz l))(h0:look T.ty t=some (.slice e))(hsz:look T.sz e=some (sz,by_))
  (hlo:m8 σ lo k1 i 0) (hhi:m8 σ hi k2 j l.length) (h1:0≤i) (h2:i≤j) (h3:j≤l.length):
  OpV P ⟨d,.slice t x lo hi none,ty,pos,af,g⟩ σ (.sl false sz ((l.take j.toNat).drop i.toNat)):=by
 refine aG rfl fun F X ac hs=> ?_
 have e1:=co hs (by simp[Op.operands]) hx
 have hu:=T.tyOk _ _ h0
 obtain⟨inf,hi1,hi2,hi3⟩:=T.szOk _ _ _ hsz
 have hls:∀w:World,(sizeOf e).run P w=.ok sz w:=fun w=>by simp[sizeOf,typeInfo,hi1,hi2]
 obtain⟨a0,c0,hform⟩:=gy e1
 have hcap:l.length≤c0:=by
  rcases n4 e1 with ⟨h,hl⟩| ⟨b,off,cap,n,h,_,_,hc,_⟩
  ·rw[hl];exact Nat.zero_le _
  ·rw[hform] at h;cases h;exact hc
 have hB:=jO (P:=P) (isS:=true) (len:=l.length) (cap:=c0) (w:=X.w) (jd (q:=lo) (k:=k1) (i:=i) (z:=0) hs (fun p hp=>by subst hp;cases hi<;> simp[Op.operands]) hlo) (jd (q:=hi) (k:=k2) (i:=j) (z:=l.length) hs (fun p hp=>by subst hp;cases lo<;> simp[Op.operands]) hhi) h1 h2 (by omega)
 refine⟨.slice (if c0=i.toNat then a0 else a0.map (·.add (i.toNat * sz))) (j.toNat - i.toNat) (c0 - i.toNat),?_,?_⟩
 ·simp only[execOp,hform]
  refine aW ?_
  simp only[Instr.sliceAt,Instr.slice,Option.map_none]
  simp[run_underlying hu,hB,hls]
 ·have hlen:((l.take j.toNat).drop i.toNat).length=j.toNat - i.toNat:=by simp;omega
  rcases n4 e1 with ⟨⟨a1,c1,h⟩,hl⟩| ⟨b,off,cap,n,h,hg,hn,hc,c,c1,c2,c3⟩
  ·subst hl
   have:j.toNat - i.toNat=0:=by simp at h3;omega
   rw[this]
   simp only[List.take_nil,List.drop_nil]
   exact .nl _ _ _ _
  ·rw[hform] at h;cases h
   rw[← hlen]
   by_cases hci:c0=i.toNat
   ·rw[if_pos hci]
    have hnil:(l.take j.toNat).drop i.toNat=[] :=List.eq_nil_of_length_eq_zero (by omega)
    rw[hnil]
    exact .sl _ _ [] b off _ n (fun _ _=>undef) hg (by simp;have:=Nat.zero_le (l.length * sz);omega) (Nat.zero_le _) (by simp) (by simp) (by simp)
   ·rw[if_neg hci]
    simp only[Option.map,en]
    have hget:∀ (q:Nat) (r:List AV),((l.take j.toNat).drop i.toNat)[q]? =some r→l[i.toNat+q]? =some r:=by
     intro q r hr
     rw[List.getElem?_drop,List.getElem?_take] at hr
     split at hr
     ·exact hr
     ·cases hr
    refine .sl _ _ _ b (off+i.toNat * sz) _ n (fun q p=>c (i.toNat+q) p) hg ?_ (by omega) (fun q r hr=>c1 _ r (hget q r hr)) (fun q p r u hr hu=> ?_) (fun q p r u hr hu=>c3 _ p r u (hget q r hr) hu)
    ·rw[hlen,Nat.add_assoc,← Nat.add_mul,show i.toNat+ (j.toNat - i.toNat)=j.toNat by omega]
     have:j.toNat * sz≤l.length * sz:=Nat.mul_le_mul_right _ (by omega)
     omega
    ·rw[← c2 (i.toNat+q) p r u (hget q r hr) hu,Nat.add_mul]
     congr 2;omega
theorem iw{k:IntKind}{o:Bool}{sz:Nat}{l:List (List AV)}{i:Int}{e:TypeId}{by_:Nat}(hx:opV σ x=some (.sl o sz l))(hy:opV σ y=some (.v (.int k i)))(h0:look T.ty t=some (.slice e))(hsz:look T.sz e=some (sz,by_))(h1:0≤i)(h2:i < l.length):
  OpV P ⟨d,.indexAddr t x y,ty,pos,af,g⟩ σ (.el (l.getD i.toNat [])):=by
 refine aG rfl fun F X ac hs=> ?_
 have e1:=co hs (by simp[Op.operands]) hx
 have e2:=aL hs (by simp[Op.operands]) hy
 have hu:=T.tyOk _ _ h0
 obtain⟨inf,hi1,hi2,hi3⟩:=T.szOk _ _ _ hsz
 rcases n4 e1 with ⟨h,hl⟩| ⟨b,off,cap,n,h,hg,hn,hc,c,c1,c2,c3⟩
 ·subst hl;simp at h2;omega
 ·have hlt:i.toNat < l.length:=by omega
  have hr:l[i.toNat]? =some (l.getD i.toNat []):=by rw[List.getD_eq_getElem?_getD,List.getElem?_eq_getElem hlt];rfl
  refine⟨.pointer (some ⟨b,off+i.toNat * sz,none⟩),?_,?_⟩
  ·simp only[execOp,h,e2]
   refine aW ?_
   simp[Instr.indexAt,asIntOf,run_underlying hu,sizeOf,typeInfo,hi1,hi2,h1,h2,en]
  ·refine .el _ b _ n (c i.toNat) hg ?_ (fun q u hq=>c2 _ q _ u hr hq) (fun q u hq=>c3 _ q _ u hr hq)
   rw[c1 _ _ hr]
   have:i.toNat * sz+sz≤l.length * sz:=by rw[← Nat.succ_mul];exact Nat.mul_le_mul_right _ hlt
   omega
theorem wf{s:TypeId}{fs:Array Field}{f:Field}{i:Nat}{b off:Nat}{w:World}{fsz:Nat × Nat}(h0:P.underlying s=some (.struct fs))(hf:fs[i]? =some f)(hz:look T.sz f.type=some fsz)(hp:Nat.ble 1 fsz.1=true):
  (Instr.fieldAt s (.pointer (some ⟨b,off,none⟩)) i).run P w=.ok (.pointer (some ⟨b,off+f.offset,none⟩)) w:=by
 obtain⟨inf,hi1,hi2,hi3⟩:=T.szOk _ _ _ hz
 have hne:¬inf.size=0:=by have:=Nat.le_of_ble_eq_true hp;omega
 simp[Instr.fieldAt,run_underlying h0,hf,Instr.sureAddr,fieldPlace,sizeOf,typeInfo,hi1,hne,en]
theorem kG{fs:Array Field}{f:Field}{i:Nat}{cs:List AV}{fsz:Nat × Nat}(hx:opV σ x=some (.el cs))(h0:look T.ty t=some (.struct fs))(hf:fs[i]? =some f)(hz:look T.sz f.type=some fsz)(hp:Nat.ble 1 fsz.1=true)(hl:Nat.ble f.offset cs.length=true):
  OpV P ⟨d,.fieldAddr t x i,ty,pos,af,g⟩ σ (.el (cs.drop f.offset)):=by
 refine aG rfl fun F X ac hs=> ?_
 have e1:=co hs (by simp[Op.operands]) hx
 simp only[execOp]
 generalize ac.eval x=v at e1
 have hle:=Nat.le_of_ble_eq_true hl
 cases e1 with
 |el _ b off n c hg hn hm hr=>
  refine⟨_,aW (wf (T.tyOk _ _ h0) hf hz hp),.el _ b _ n (fun j=>c (f.offset+j)) hg (by simp;omega) (fun j u hj=> ?_) (fun j u hj=> ?_)⟩
  ·rw[List.getElem?_drop] at hj
   rw[← hm _ u hj];congr 2;omega
  ·rw[List.getElem?_drop] at hj
   exact hr _ u hj
theorem iE{fs:Array Field}{f:Field}{i b off:Nat}{fsz:Nat × Nat}(hx:opV σ x=some (.v (.pointer (some ⟨b,off,none⟩))))(h0:look T.ty t=some (.struct fs))(hf:fs[i]? =some f)(hz:look T.sz f.type=some fsz)(hp:Nat.ble 1 fsz.1=true):
  OpV P ⟨d,.fieldAddr t x i,ty,pos,af,g⟩ σ (.v (.pointer (some ⟨b,off+f.offset,none⟩))):=by
 refine aG rfl fun F X ac hs=>⟨_,?_,.v _⟩
 have e1:=aL hs (by simp[Op.operands]) hx
 simp only[execOp,e1]
 exact aW (wf (T.tyOk _ _ h0) hf hz hp)
def lf:TypeDesc→Bool
 |.struct _=>false
 |.array _ _=>false
 |_=>true
theorem oQ{dsc:TypeDesc}{a:Addr}{v:Value}{w:World}(h0:P.underlying t=some dsc)(h1:lf dsc=true)(hc:w.cell? a=some v):(Instr.loadAt t (.pointer (some a))).run P w=.ok v w:=by
 cases dsc<;> simp[lf] at h1<;> simp[Instr.loadAt,Instr.sureAddr,loadVar,isAgg,run_underlying h0,hc]
theorem qk{dsc:TypeDesc}{u:AV}{cs:List AV}(hx:opV σ x=some (.el (u::cs)))(h0:look T.ty t=some dsc)(h1:lf dsc=true):OpV P ⟨d,.load t x,ty,pos,af,g⟩ σ u.rd:=by
 refine aG (ef u) fun F X ac hs=> ?_
 have e1:=co hs (by simp[Op.operands]) hx
 simp only[execOp]
 generalize ac.eval x=v at e1
 cases e1 with
 |el _ b off n c hg hn hm hr=>
  have hc:=hm 0 u rfl
  exact⟨c 0,aW (oQ (T.tyOk _ _ h0) h1 (by simpa using hc)),(hr 0 u rfl).rd⟩
theorem px{fs:Array Field}{n by_:Nat}{cs:List AV}(hx:opV σ x=some (.el cs))(h0:look T.ty t=some (.struct fs))(hz:look T.sz t=some (n,by_))(hl:Nat.ble n cs.length=true):OpV P ⟨d,.load t x,ty,pos,af,g⟩ σ (.ag (cs.take n)):=by
 refine aG rfl fun F X ac hs=> ?_
 have e1:=co hs (by simp[Op.operands]) hx
 have hu:=T.tyOk _ _ h0
 obtain⟨inf,hi1,hi2,hi3⟩:=T.szOk _ _ _ hz
 have hle:=Nat.le_of_ble_eq_true hl
 simp only[execOp]
 generalize ac.eval x=v at e1
 cases e1 with
 |el _ b off n' c hg hn hm hr=>
  have hld:=run_loadCells (P:=P) (w:=X.w) ⟨b,off,none⟩ n c (fun j hj=>by
   rw[en]
   have hj':j < cs.length:=by omega
   exact hm j cs[j] (List.getElem?_eq_getElem hj'))
  refine⟨.agg ((List.range n).map c).toArray,aW ?_,.ag _ _ (by simp;omega) (fun j u v hj hv=> ?_)⟩
  ·simp[Instr.loadAt,Instr.sureAddr,loadVar,isAgg,run_underlying hu,sizeOf,typeInfo,hi1,hi2,hld]
  ·rw[List.getElem?_take] at hj
   split at hj
   ·rename_i hjn
    simp[hjn] at hv
    subst hv
    exact hr j u hj
   ·cases hj
theorem kW{dsc:TypeDesc}{k o:Nat}{cs:List AV}{u:AV}(hx:opV σ x=some (.v (.pointer (some ⟨k,o,none⟩))))(hb:look σ.h k=some cs)(hu:cs[o]? =some u)(h0:look T.ty t=some dsc)(h1:lf dsc=true)(hm:u.isMp=false):
  OpV P ⟨d,.load t x,ty,pos,af,g⟩ σ u.rd:=by
 refine aG (ef u) fun F X ac hs=> ?_
 have e1:=aL hs (by simp[Op.operands]) hx
 obtain⟨b1,b2,arr,e,fr,b3,b4,b5,b6⟩:=(hs.box k cs hb).at hu hm
 have hlt:=(List.getElem?_eq_some_iff.1 hu).1
 have hx:arr[o]? =some arr[o] :=Array.getElem?_eq_getElem (by omega)
 refine⟨arr[o],?_,(b6 o u _ hu hx).rd⟩
 simp only[execOp,e1]
 exact aW (oQ (T.tyOk _ _ h0) h1 (by simp only[World.cell?,b3];exact hx))
theorem zF{fs:Array Field}{n by_ k o:Nat}{cs:List AV}(hx:opV σ x=some (.v (.pointer (some ⟨k,o,none⟩))))(hb:look σ.h k=some cs)(h0:look T.ty t=some (.struct fs))(hz:look T.sz t=some (n,by_))(hl:Nat.ble (o+n) cs.length=true)(hm:fx cs=false):
  OpV P ⟨d,.load t x,ty,pos,af,g⟩ σ (.ag ((cs.drop o).take n)):=by
 refine aG rfl fun F X ac hs=> ?_
 have e1:=aL hs (by simp[Op.operands]) hx
 have hu:=T.tyOk _ _ h0
 obtain⟨inf,hi1,hi2,hi3⟩:=T.szOk _ _ _ hz
 have hle:=Nat.le_of_ble_eq_true hl
 obtain⟨b1,b2,arr,e,fr,b3,b4,b5,b6⟩:=(hs.box k cs hb).cells hm
 have hld:=run_loadCells (P:=P) (w:=X.w) ⟨k,o,none⟩ n (fun j=>arr.getD (o+j) undef) (fun j hj=>by
  rw[en]
  have:o+j < arr.size:=by omega
  simp[World.cell?,b3,this])
 refine⟨.agg ((List.range n).map fun j=>arr.getD (o+j) undef).toArray,?_,.ag _ _ (by simp;omega) (fun j u v hj hv=> ?_)⟩
 ·simp only[execOp,e1]
  refine aW ?_
  simp[Instr.loadAt,Instr.sureAddr,loadVar,isAgg,run_underlying hu,sizeOf,typeInfo,hi1,hi2,hld]
 ·rw[List.getElem?_take] at hj
  split at hj
  ·rename_i hjn
   have:o+j < arr.size:=by omega
   simp[hjn,this] at hv
   subst hv
   rw[List.getElem?_drop] at hj
   exact b6 _ u _ hj (Array.getElem?_eq_getElem this)
  ·cases hj
end
section
variable {P:Program} {Q:Exit→AS→Prop} {ks:List It} {T:Tys P} {σ:AS} {d:Option Tmp} {t t2 yt ty e:TypeId} {x y z:Operand} {pos:String} {af:Array Edge} {g:Option (Nat × Bool)} {F:Nat→Prop} {X:GW}
theorem bm{op:Op}{v:Value}(hp:(cst v).plain)(ho:op=.move (.const v)∨op=.assign (.const v)):OpV P ⟨d,op,ty,pos,af,g⟩ σ (cst v):=by
 refine aG hp fun F X ac hs=>⟨v,?_,nH X v⟩
 rcases ho with rfl|rfl<;> rfl
theorem bg(v:Value):(cst v).plain:=by cases v<;> rfl
def AV.isSl:AV→Bool
 |.sl _ _ _=>true
 |_=>false
theorem yO{u:AV}(hx:opV σ x=some u)(hp:u.isSl=false):OpV P ⟨d,.move x,ty,pos,af,g⟩ σ u:=by
 refine aG (by cases u<;> first|rfl|cases hp) fun F X ac hs=>⟨ac.eval x,rfl,co hs (by simp[Op.operands]) hx⟩
theorem FP{u:AV}(hx:opV σ x=some u)(hp:u.isSl=false):OpV P ⟨d,.assign x,ty,pos,af,g⟩ σ u:=by
 refine aG (by cases u<;> first|rfl|cases hp) fun F X ac hs=>⟨ac.eval x,rfl,co hs (by simp[Op.operands]) hx⟩
def kI(σ:AS)(s:Nat):Option Root:=match look σ.t s with
 |some (.sl true _ _)=>some (.s s)
 |some (.sl false _ _)=>look σ.e s
 |_=>none
theorem nq{tm:Array Value}{s:Nat}{r:Root}(hs:SimE F X σ tm)(h:kI σ s=some r):rootV tm X.w r=some (tm.getD s undef):=by
 unfold kI at h
 split at h
 ·cases h;rfl
 ·exact hs.eqs s r h
 ·cases h
def AS.mv(σ:AS)(d s:Nat)(u:AV):AS:=match kI σ s with
 |some r=>match r.in d with|true=>σ.put d u.rd|false=>(σ.put d u.rd).alias d r
 |none=>σ.put d u.rd
theorem SimE.mv{tm:Array Value}{d s:Nat}{u:AV}(h:SimE F X σ tm)(hd:d < σ.n)(hu:look σ.t s=some u):SimE F X (σ.mv d s u) (tm.setIfInBounds d (tm.getD s undef)):=by
 have hput:SimE F X (σ.put d u.rd) (tm.setIfInBounds d (tm.getD s undef)):=h.put_new hd (New.refl X) h.gb (h.slot s u hu).rd (FreshOk.plain (ef u))
 unfold AS.mv
 cases hr:kI σ s with
 |none=>exact hput
 |some r=>
  simp only
  cases hin:r.in d with
  |true=>exact hput
  |false=>
   refine hput.alias ?_
   rw[mA hin,iF (by rw[h.size];exact hd)]
   exact nq h hr
theorem dv{l:List Oper}{k:Nat}{rest:List Oper}{d s:Nat}{u:AV}(ho:l[k]? =some ⟨some d,.move (.tmp s),ty,pos,af,g⟩)(hw:bp l σ ⟨some d,.move (.tmp s),ty,pos,af,g⟩=some true)(hd:Nat.ble (d+1) σ.n=true)(hu:look σ.t s=some u)
  (hn:aY P Q (.o l (k+1) rest::ks) (σ.mv d s u)):aY P Q (.o l k (⟨some d,.move (.tmp s),ty,pos,af,g⟩::rest)::ks) σ:=by
 refine dZ ho hw fun F X a hs=>ci (x:=a.eval (.tmp s)) (w':=X.w) rfl ⟨X,_,rfl,hn,?_,Ext.refl F X⟩
 exact hs.mv (ba hd) hu
theorem cr{l:List Oper}{k:Nat}{rest:List Oper}{d s:Nat}{u:AV}(ho:l[k]? =some ⟨some d,.assign (.tmp s),ty,pos,af,g⟩)(hw:bp l σ ⟨some d,.assign (.tmp s),ty,pos,af,g⟩=some true)(hd:Nat.ble (d+1) σ.n=true)(hu:look (σ.free d).t s=some u)
  (hn:aY P Q (.o l (k+1) rest::ks) ((σ.free d).mv d s u)):aY P Q (.o l k (⟨some d,.assign (.tmp s),ty,pos,af,g⟩::rest)::ks) σ:=by
 refine dZ ho hw fun F X a hs=>ci (x:=a.eval (.tmp s)) (w':=X.w) rfl ⟨X,_,rfl,hn,?_,Ext.refl F X⟩
 exact(hs.free d).mv (by rw[FN];exact ba hd) hu
theorem gd{l:List Oper}{k:Nat}{o:Oper}{rest:List Oper}{d:Nat}{u:AV}(ho:l[k]? =some o)(hw:bp l σ o=some true)(hdst:o.dst=some d)(hd:Nat.ble (d+1) σ.n=true)(h:OpV P o σ u)
  (hn:aY P Q (.o l (k+1) rest::ks) (σ.put d u)):aY P Q (.o l k (o::rest)::ks) σ:=by
 refine dZ ho hw fun F X a hs=>(h F X a (hs.r o.op)).mono fun x w' ⟨X',h1,h2,h3,h4,h5⟩=>⟨X',σ.put d u,h1,hn,?_,h2.ext hs.gb hs.fb⟩
 rw[hdst]
 exact hs.put_new (ba hd) h2 h3 h4 h5
theorem kL{l:List Oper}{k:Nat}{o:Oper}{rest:List Oper}{d:Nat}(ho:l[k]? =some o)(hw:bp l σ o=some false)(hdst:o.dst=some d)(hd:Nat.ble (d+1) σ.n=true)
  (hn:aY P Q (.o l (k+1) rest::ks) (σ.put d (.v undef))):aY P Q (.o l k (o::rest)::ks) σ:=by
 intro F X a hs D hdf
 have hk:k < l.length:=(List.getElem?_eq_some_iff.1 ho).1
 rw[lQ hk]
 have ho':(l.toArray)[k]? =some o:=by simpa using ho
 simp only[wpOps,ho']
 rw[if_neg (by rw[lF hs hw];simp)]
 refine hn F X (a.put o.dst undef) ?_ D (by rw[eM];exact hdf)
 rw[hdst]
 exact hs.put_new (ba hd) (New.refl X) hs.gb (.v _) (FreshOk.plain rfl)
theorem j0{l:List Oper}{k:Nat}{rest:List Oper}{d b o:Nat}{cs:List AV}{u:AV}{dsc:TypeDesc}(ho:l[k]? =some ⟨some d,.load t x,ty,pos,af,g⟩)(hw:bp l σ ⟨some d,.load t x,ty,pos,af,g⟩=some true)(hd:Nat.ble (d+1) σ.n=true)
  (hx:opV σ x=some (.v (.pointer (some ⟨b,o,none⟩)))) (hb:look σ.h b=some cs) (hu:cs[o]? =some u) (h0:look T.ty t=some dsc) (h1:lf dsc=true)
  (hm:u.isMp=false) (hn:aY P Q (.o l (k+1) rest::ks) ((σ.put d u.rd).alias d (.c b o))):aY P Q (.o l k (⟨some d,.load t x,ty,pos,af,g⟩::rest)::ks) σ:=by
 refine dZ ho hw fun F X a hs=> ?_
 have e1:=aL (hs.r (.load t x)) (by simp[Op.operands]) hx
 obtain⟨b1,b2,arr,e,fr,b3,b4,b5,b6⟩:=(hs.box b cs hb).at hu hm
 have hlt:=(List.getElem?_eq_some_iff.1 hu).1
 have hx:arr[o]? =some arr[o] :=Array.getElem?_eq_getElem (by omega)
 have hc:X.w.cell? ⟨b,o,none⟩=some arr[o] :=by simp only[World.cell?,b3];exact hx
 refine ci (x:=arr[o]) (w':=X.w) (by simp only[execOp,e1];exact aW (oQ (T.tyOk _ _ h0) h1 hc)) ⟨X,_,rfl,hn,?_,Ext.refl F X⟩
 have hput:=hs.put_new (ba hd) (New.refl X) hs.gb (b6 o u _ hu hx).rd (FreshOk.plain (ef u))
 refine hput.alias ?_
 simp only[rootV]
 rw[iF (by rw[hs.size];exact ba hd),hc]
def GW.with(X:GW)(w':World)(b n:Nat):GW:=⟨w',fun c=>match Nat.beq c b with|true=>some n|false=>X.g c⟩
theorem oZ{X:GW}{w':World}{b n:Nat}:(X.with w' b n).g b=some n:=by simp[GW.with]
theorem ro{X:GW}{w':World}{b n c:Nat}(h:c≠b):(X.with w' b n).g c=X.g c:=by
 simp only[GW.with]
 cases hb:Nat.beq c b
 ·rfl
 ·exact absurd (Nat.eq_of_beq_eq_true hb) h
theorem uE{w':World}{cells:Array Value}{el:TypeId}{fr:Nat × Nat}{sz cap:Nat}{rows:List (List AV)}(hos:w'.os=X.w.os)(htape:w'.tape=X.w.tape)(hout:w'.output=X.w.output)(hh:w'.heap=X.w.heap.push (.cells cells el fr))
  (hgb:∀b n,X.g b=some n→b < X.w.heap.size) (hfb:∀b,F b→b < X.w.heap.size) (hlen:∀r∈rows,r.length=sz) (hcs:cells.size=cap * sz) (hcap:rows.length≤cap)
  (hrel:∀ (i j:Nat) (r:List AV) (u:AV),rows[i]? =some r→r[j]? =some u→∃v,cells[i * sz+j]? =some v∧Rel X u v) (hfr:∀j,rows.length * sz≤j→j < cells.size→(fr.1≤j && j < fr.2)=false):
  ∃X':GW,X'.w=w'∧New X X'∧(∀b n,X'.g b=some n→b < X'.w.heap.size)∧Rel X' (.sl true sz rows) (.slice (some ⟨X.w.heap.size,0,none⟩) rows.length cap)∧FreshOk F X.w.heap.size X' (.sl true sz rows) (.slice (some ⟨X.w.heap.size,0,none⟩) rows.length cap):=by
 have hnewh:w'.heap[X.w.heap.size]? =some (.cells cells el fr):=by rw[hh];simp
 have holdh:∀b,b < X.w.heap.size→w'.heap[b]? =X.w.heap[b]? :=fun b hb=>by rw[hh,Array.getElem?_push,if_neg (by omega)]
 have hsz':w'.heap.size=X.w.heap.size+1:=by rw[hh];simp
 have hnew:New X (X.with w' X.w.heap.size (rows.length * sz)):=⟨hos,htape,hout,by show X.w.heap.size≤w'.heap.size;omega,fun b hb=>⟨holdh b hb,ro (by omega)⟩⟩
 have hp:=hnew.pres hgb
 refine⟨X.with w' X.w.heap.size (rows.length * sz),rfl,hnew,fun b n hb=> ?_,?_,fun sz' l' hu=> ?_⟩
 ·show b < w'.heap.size
  by_cases e:b=X.w.heap.size
  ·omega
  ·rw[ro e] at hb
   have:=hgb b n hb;omega
 ·refine .sl true sz rows X.w.heap.size 0 cap (rows.length * sz) (fun i j=>cells.getD (i * sz+j) undef) oZ (by omega) hcap (fun i r hr=>hlen r (List.mem_of_getElem? hr)) (fun i j r u hr hu=> ?_) (fun i j r u hr hu=> ?_)
  ·obtain⟨v,h1,h2⟩:=hrel i j r u hr hu
   show w'.cell? ⟨X.w.heap.size,0+i * sz+j,none⟩=_
   simp[World.cell?,hnewh,h1]
  ·obtain⟨v,h1,h2⟩:=hrel i j r u hr hu
   have:cells.getD (i * sz+j) undef=v:=by simp[h1]
   rw[this];exact h2.mono hp
 ·simp only[cw,Option.some.injEq,Prod.mk.injEq] at hu
  obtain⟨rfl,rfl⟩:=hu
  refine⟨.inr ⟨X.w.heap.size,cap,cells,el,fr,rfl,oZ,hnewh,hcs,fun j h1 h2=> ?_,fun hF=> ?_⟩,fun a n c hx=> ?_⟩
  ·show w'.frozen? ⟨X.w.heap.size,j,none⟩=false
   simp only[World.frozen?,hnewh]
   exact hfr j h1 h2
  ·exact Nat.lt_irrefl _ (hfb _ hF)
  ·cases hx;exact Nat.le_refl _
def AV.cells:AV→List AV
 |.ag cs=>cs
 |u=>[u]
theorem mE{u:AV}{v:Value}(h:Rel X u v)(hv:∀xs,v=.agg xs→∃cs,u=.ag cs):u.cells.length=v.cells.size∧∀ (j:Nat) c y,u.cells[j]? =some c→v.cells[j]? =some y→Rel X c y:=by
 cases h with
 |ag us xs hl hr=>exact⟨hl,hr⟩
 |v _=>
  cases v with
  |agg xs=>obtain⟨cs,hc⟩:=hv xs rfl;cases hc
  |_=>exact⟨rfl,fun j c y hc hy=>by
    cases j with
    |zero=>simp[AV.cells,Value.cells] at hc hy;subst hc hy;exact .v _
    |succ j=>simp[AV.cells] at hc⟩
 |nl _ _ a0 c0=>exact⟨rfl,fun j c y hc hy=>by
     cases j with
     |zero=>simp[AV.cells,Value.cells] at hc hy;subst hc hy;exact .nl _ _ _ _
     |succ j=>simp[AV.cells] at hc⟩
 |sl o sz l b off cap n c hg hn hc hs hm hr=>exact⟨rfl,fun j c y hc' hy=>by
     cases j with
     |zero=>simp[AV.cells,Value.cells] at hc' hy;subst hc' hy;exact .sl o sz l b off cap n _ hg hn hc hs hm hr
     |succ j=>simp[AV.cells] at hc'⟩
 |tu us xs hl hr=>exact⟨rfl,fun j c y hc' hy=>by
     cases j with
     |zero=>simp[AV.cells,Value.cells] at hc' hy;subst hc' hy;exact .tu us xs hl hr
     |succ j=>simp[AV.cells] at hc'⟩
 |el us b off n c hg hn hm hr=>exact⟨rfl,fun j c y hc' hy=>by
     cases j with
     |zero=>simp[AV.cells,Value.cells] at hc' hy;subst hc' hy;exact .el us b off n _ hg hn hm hr
     |succ j=>simp[AV.cells] at hc'⟩
 |fn f us xs hl hr=>exact⟨rfl,fun j c y hc' hy=>by
     cases j with
     |zero=>simp[AV.cells,Value.cells] at hc' hy;subst hc' hy;exact .fn f us xs hl hr
     |succ j=>simp[AV.cells] at hc'⟩
 |ifc t u x hr=>exact⟨rfl,fun j c y hc' hy=>by
   cases j with
   |zero=>simp[AV.cells,Value.cells] at hc' hy;subst hc' hy;exact .ifc t u x hr
   |succ j=>simp[AV.cells] at hc'⟩
 |cl sz l a n hr=>exact⟨rfl,fun j c y hc' hy=>by
     cases j with
     |zero=>simp[AV.cells,Value.cells] at hc' hy;subst hc' hy;exact .cl sz l a n hr
     |succ j=>simp[AV.cells] at hc'⟩
end
section
variable {P:Program} {Q:Exit→AS→Prop} {ks:List It} {T:Tys P} {σ:AS} {t u ty e:TypeId} {x y z:Operand} {pos:String} {af:Array Edge} {g:Option (Nat × Bool)} {F:Nat→Prop} {X:GW}
structure Adds (P:Program) (w:World) (size m:Nat) (x:Value) (news:List Value):Prop where
 len:(Builtin.lenOf x).run P w=.ok m w
 first:∀w',w'.heap=w.heap→(Builtin.firstCells size m x).run P w'=.ok news.toArray w'
 length:news.length=m * size
theorem od{w:World}{i:TypeInfo}{du:TypeDesc}{x:Value}{m b sLen sCap:Nat}{news:List Value}(ht:P.underlying t=some (.slice e))(hu:P.underlying u=some du)(hnz:du=.string∨∃e',du=.slice e')(hi:P.info? e=some i)
  (hx:Adds P w i.size m x news) (h1:∀v∈news,v.oneCell'=true) (hroom:sLen+m≤sCap)
  (hc:∀j,j < news.length→(w.cell? ⟨b,sLen * i.size+j,none⟩).isSome=true) (hf:∀j,j < news.length→w.frozen? ⟨b,sLen * i.size+j,none⟩=false):
  (Builtin.append_ #[t,u] ty #[.slice (some ⟨b,0,none⟩) sLen sCap,x]).run P w=.ok (.slice (some ⟨b,0,none⟩) (sLen+m) sCap) (w.setCells b (sLen * i.size) news):=by
 have hst:=run_storeCells_cells (P:=P) b (sLen * i.size) news 0 w (by simpa using hc) (by simpa using hf) h1
 simp only[Nat.add_zero] at hst
 have hfi:=hx.first w rfl
 rcases hnz with rfl| ⟨e',rfl⟩<;> simp[Builtin.append_,run_underlying ht,run_underlying hu,sizeOf,typeInfo,hi,hx.len,hroom,hfi,Addr.add_lit,hst]
theorem wK{w:World}{i:TypeInfo}{du:TypeDesc}{x:Value}{news:List Value}(ht:P.underlying t=some (.slice e))(hu:P.underlying u=some du)(hnz:du=.string∨∃e',du=.slice e')(hi:P.info? e=some i)
  (hx:Adds P w i.size 0 x news):(Builtin.append_ #[t,u] ty #[.slice none 0 0,x]).run P w=.ok (.slice none 0 0) w:=by
 have hfi:=hx.first w rfl
 rcases hnz with rfl| ⟨e',rfl⟩<;> simp[Builtin.append_,run_underlying ht,run_underlying hu,sizeOf,typeInfo,hi,hx.len,hfi]
theorem gc{w:World}{i:TypeInfo}{zv:Value}{du:TypeDesc}{x:Value}{m sLen sCap:Nat}{a:Option Addr}{olds news:List Value}(ht:P.underlying t=some (.slice e))(hu:P.underlying u=some du)(hnz:du=.string∨∃e',du=.slice e')(hi:P.info? e=some i)(hz:i.zero=some zv)
  (hx:Adds P w i.size m x news) (hold:∀w',w'.heap=w.heap→(Builtin.firstCells i.size sLen (.slice a sLen sCap)).run P w'=.ok olds.toArray w') (hg:sCap < sLen+m) (hfit:(sLen+m) * i.bytes≤140737488355328) (hb:1≤i.bytes):
  (Builtin.append_ #[t,u] ty #[.slice a sLen sCap,x]).run P w=.ok (.slice (some ⟨w.heap.size,0,none⟩) (sLen+m) (grownCap w (sLen+m) sCap e))
   (w.drew.alloc (.cells (olds.toArray++news.toArray++Builtin.zeroCells zv.cells (grownCap w (sLen+m) sCap e - (sLen+m))) e)):=by
 have hfi:=hx.first w.drew rfl
 have hol:=hold w.drew rfl
 have hn:¬(sLen+m≤sCap):=by omega
 have hle:(sLen+m) * 1≤(sLen+m) * i.bytes:=Nat.mul_le_mul_left _ hb
 have h63:¬(9223372036854775807 < ((sLen:Int)+ (m:Int))):=by omega
 have h48:=growslice_fits hg hfit
 have h48':¬(281474976710656 < Builtin.nextslicecap (sLen+m) sCap * i.bytes):=by omega
 rcases hnz with rfl| ⟨e',rfl⟩<;>
 (simp[Builtin.append_,run_underlying ht,run_underlying hu,sizeOf,typeInfo,zeroValue,hi,hz,hx.len,hn,h63,h48',Question.forced,hfi,hol,newRow,grownCap]
  try (congr 2;apply Array.ext';simp[List.append_assoc]))
def AS.dropC(σ:AS):AS:={ n:=σ.n,t:=σ.t,h:=σ.h,e:=σ.e.filter fun p=>match p.2 with|.s _=>true|.c _ _=>false }
theorem SimE.dropC{tm:Array Value}(h:SimE F X σ tm):SimE F X σ.dropC tm:=h.sub rfl (fun _ _ h=>h) (fun _ _ h=>h) (fun _ hp=>(List.mem_filter.1 hp).1)
theorem p9{σ:AS}{b:Nat}:∀p∈σ.dropC.e,∀o,p.2≠.c b o:=by
 intro p hp o he
 have:=(List.mem_filter.1 hp).2
 rw[he] at this;cases this
theorem uK{l:List (List AV)}{sz off b:Nat}{c:Nat→Nat→Value}(c1:∀ (i:Nat) (r:List AV),l[i]? =some r→r.length=sz)(c2:∀ (i j:Nat) (r:List AV) (u:AV),l[i]? =some r→r[j]? =some u→X.w.cell? ⟨b,off+i * sz+j,none⟩=some (c i j)):
  ∀q,q < l.length * sz→X.w.cell? ⟨b,off+q,none⟩=some (c (q / sz) (q % sz)):=by
 intro q hq
 have hsz:0 < sz:=by
  rcases Nat.eq_zero_or_pos sz with h|h
  ·subst h;omega
  ·exact h
 have hi:q / sz < l.length:=Nat.div_lt_of_lt_mul (by rw[Nat.mul_comm];exact hq)
 have hj:q % sz < sz:=Nat.mod_lt _ hsz
 have hr:=c1 _ _ (List.getElem?_eq_getElem hi)
 have:=c2 (q / sz) (q % sz) _ (l[q / sz][q % sz]'(by omega)) (List.getElem?_eq_getElem hi) (List.getElem?_eq_getElem (by omega))
 rw[← this]
 congr 2
 have:=Nat.div_add_mod q sz
 rw[Nat.mul_comm] at this
 omega
def rowCells(sz n:Nat)(c:Nat→Nat→Value):List Value:=(List.range (n * sz)).map fun q=>c (q / sz) (q % sz)
theorem bx(sz n:Nat)(c:Nat→Nat→Value):(rowCells sz n c).length=n * sz:=by simp[rowCells]
theorem kY{sz n:Nat}{c:Nat→Nat→Value}{i j:Nat}(hi:i < n)(hj:j < sz):(rowCells sz n c)[i * sz+j]? =some (c i j):=by
 have hlt:i * sz+j < n * sz:=by
  have:i * sz+sz≤n * sz:=by rw[← Nat.succ_mul];exact Nat.mul_le_mul_right _ hi
  omega
 have h1:(i * sz+j) / sz=i:=by rw[Nat.mul_comm,Nat.mul_add_div (by omega),Nat.div_eq_of_lt hj,Nat.add_zero]
 have h2:(i * sz+j) % sz=j:=by rw[Nat.mul_comm,Nat.mul_add_mod,Nat.mod_eq_of_lt hj]
 simp[rowCells,hlt,h1,h2]
structure AddsA (P:Program) (X:GW) (sz:Nat) (m:List (List AV)) (x:Value) (c:Nat→Nat→Value):Prop where
 len:(Builtin.lenOf x).run P X.w=.ok m.length X.w
 first:∀w',w'.heap=X.w.heap→(Builtin.firstCells sz m.length x).run P w'=.ok (rowCells sz m.length c).toArray w'
 rows:∀r∈m,r.length=sz
 rel:∀ (i j:Nat) (r:List AV) (u:AV),m[i]? =some r→r[j]? =some u→Rel X u (c i j)
 one:∀v∈rowCells sz m.length c,v.oneCell'=true
def AV.one:AV→Bool
 |.v x=>x.oneCell'
 |.sl _ _ _=>true
 |.el _=>true
 |.fn _ _=>true
 |.ifc _ _=>true
 |_=>false
theorem AV.one_rel{u:AV}{v:Value}(h:Rel X u v)(ho:u.one=true):v.oneCell'=true:=by
 cases h<;> first|exact ho|rfl|cases ho
theorem tv{o:Bool}{sz:Nat}{m:List (List AV)}{v:Value}(h:Rel X (.sl o sz m) v)(h1:∀r∈m,r.length=sz∧∀u∈r,u.one=true):∃c,AddsA P X sz m v c:=by
 rcases n4 h with ⟨⟨a0,c0,rfl⟩,rfl⟩| ⟨b,off,cap,n,rfl,hg,hn,hc,c,c1,c2,c3⟩
 ·exact⟨fun _ _=>undef,⟨rfl,fun w' _=>by
   cases a0 with
   |none=>simp[Builtin.firstCells,rowCells]
   |some a0=>simp[Builtin.firstCells,rowCells];exact run_loadCells (P:=P) (w:=w') a0 0 (fun _=>undef) (fun j hj=>absurd hj (Nat.not_lt_zero _)),by simp,by simp,by simp[rowCells]⟩⟩
 ·have hcell:=uK (X:=X) c1 c2
  refine⟨c,⟨rfl,fun w' hw=> ?_,fun r hr=>(h1 r hr).1,c3,fun v hv=> ?_⟩⟩
  ·refine run_firstCells_some (P:=P) w' sz m.length ⟨b,off,none⟩ m.length cap _ (bx _ _ _) (fun j v hv=> ?_)
   rw[en]
   simp only[rowCells,List.getElem?_map,Option.map_eq_some_iff] at hv
   obtain⟨q,hq,rfl⟩:=hv
   have hq':=List.getElem?_eq_some_iff.1 hq
   obtain⟨hlt,he⟩:=hq'
   simp only[List.getElem_range] at he
   subst he
   simp only[List.length_range] at hlt
   rw[show w'.cell? ⟨b,off+j,none⟩=X.w.cell? ⟨b,off+j,none⟩ by simp only[World.cell?,hw]]
   exact hcell j hlt
  ·simp only[rowCells,List.mem_map,List.mem_range] at hv
   obtain⟨q,hq,rfl⟩:=hv
   have hsz:0 < sz:=by
    rcases Nat.eq_zero_or_pos sz with h|h
    ·subst h;omega
    ·exact h
   have hi:q / sz < m.length:=Nat.div_lt_of_lt_mul (by rw[Nat.mul_comm];exact hq)
   have hj:q % sz < sz:=Nat.mod_lt _ hsz
   have hr:=c1 _ _ (List.getElem?_eq_getElem hi)
   exact AV.one_rel (c3 (q / sz) (q % sz) _ (m[q / sz][q % sz]'(by omega)) (List.getElem?_eq_getElem hi) (List.getElem?_eq_getElem (by omega))) ((h1 _ (List.getElem_mem hi)).2 _ (List.getElem_mem (by omega)))
end
section
variable {P:Program} {Q:Exit→AS→Prop} {ks:List It} {T:Tys P} {σ:AS} {t u ty e:TypeId} {x y z:Operand} {pos:String} {af:Array Edge} {g:Option (Nat × Bool)} {F:Nat→Prop} {X:GW}
theorem B9{o:Option AV}{sz:Nat}{l:List (List AV)}(h:cw o=some (sz,l)):o=some (.sl true sz l):=by
 unfold cw at h
 split at h
 ·cases h;rfl
 ·cases h
theorem wX{tm:Array Value}{r:Root}{sz:Nat}{l:List (List AV)}{v:Value}(hs:SimE F X σ tm)(ho:σ.own r=some (sz,l))(hv:rootV tm X.w r=some v):Rel X (.sl true sz l) v:=by
 cases r with
 |s t=>
  have:=B9 ho
  have h1:=hs.slot t _ this
  simp only[rootV,Option.some.injEq] at hv
  rw[← hv];exact h1
 |c k o=>
  obtain⟨cs,hc,h1⟩:=iB ho
  have h2:=B9 h1
  obtain⟨b1,b2,arr,e,fr,b3,b4,b5,b6⟩:=(hs.box k cs hc).own h1
  simp only[rootV,World.cell?,b3] at hv
  exact b6 o _ v h2 (by simpa using hv)
theorem yK{sz:Nat}{L m:List (List AV)}{c c':Nat→Nat→Value}{rest:Array Value}(hL:∀r∈L,r.length=sz)(hm:∀r∈m,r.length=sz)(rL:∀ (i j:Nat) (r:List AV) (u:AV),L[i]? =some r→r[j]? =some u→Rel X u (c i j))(rm:∀ (i j:Nat) (r:List AV) (u:AV),m[i]? =some r→r[j]? =some u→Rel X u (c' i j)):
  ∀ (i j:Nat) (r:List AV) (u:AV),(L++m)[i]? =some r→r[j]? =some u→∃v,((rowCells sz L.length c).toArray++ (rowCells sz m.length c').toArray++rest)[i * sz+j]? =some v∧Rel X u v:=by
 intro i j r u hr hu
 have hj:j < r.length:=(List.getElem?_eq_some_iff.1 hu).1
 have hsz:r.length=sz:=by
  rcases List.mem_append.1 (List.mem_of_getElem? hr) with h|h
  ·exact hL r h
  ·exact hm r h
 have s1:(rowCells sz L.length c).toArray.size=L.length * sz:=by simp[bx]
 have s2:(rowCells sz m.length c').toArray.size=m.length * sz:=by simp[bx]
 by_cases hi:i < L.length
 ·rw[List.getElem?_append_left hi] at hr
  refine⟨c i j,?_,rL i j r u hr hu⟩
  have hlt:i * sz+j < L.length * sz:=by
   have:i * sz+sz≤L.length * sz:=by rw[← Nat.succ_mul];exact Nat.mul_le_mul_right _ hi
   omega
  rw[Array.getElem?_append_left (by simp only[Array.size_append,s1];omega),Array.getElem?_append_left (by omega)]
  simpa using kY hi (by omega)
 ·rw[List.getElem?_append_right (by omega)] at hr
  refine⟨c' (i - L.length) j,?_,rm _ j r u hr hu⟩
  have hi2:i - L.length < m.length:=(List.getElem?_eq_some_iff.1 hr).1
  have hlt:(i - L.length) * sz+j < m.length * sz:=by
   have:(i - L.length) * sz+sz≤m.length * sz:=by rw[← Nat.succ_mul];exact Nat.mul_le_mul_right _ hi2
   omega
  have he:i * sz+j=L.length * sz+ ((i - L.length) * sz+j):=by
   have:i * sz=L.length * sz+ (i - L.length) * sz:=by rw[← Nat.add_mul];congr 1;omega
   omega
  rw[Array.getElem?_append_left (by simp only[Array.size_append,s1,s2];omega),Array.getElem?_append_right (by omega),s1,he,Nat.add_sub_cancel_left]
  simpa using kY hi2 (by omega)
structure Appended (F:Nat→Prop) (X X':GW) (σ:AS) (tm:Array Value) (sz:Nat) (l:List (List AV)) (y:Value):Prop where
 sim:SimE F X' σ tm
 ext:Ext F X X'
 rel:Rel X' (.sl true sz l) y
 own:gl F X' sz l y
 apart:∀r sz l a n c a' n' c',σ.own r=some (sz,l)→rootV tm X'.w r=some (.slice (some a) n c)→y=.slice (some a') n' c'→a.block≠a'.block
theorem pH{X':GW}{tm:Array Value}{sz:Nat}{l:List (List AV)}{y:Value}(hs:SimE F X σ tm)(hn:New X X')(hg:∀b n,X'.g b=some n→b < X'.w.heap.size)(hr:Rel X' (.sl true sz l) y)(hf:FreshOk F X.w.heap.size X' (.sl true sz l) y):Appended F X X' σ tm sz l y:=by
 have h1:=hf sz l rfl
 refine⟨hs.new hn hg,hn.ext hs.gb hs.fb,hr,h1.1,fun r sz' l' a n c a' n' c' ho hrv hy=> ?_⟩
 have h2:=h1.2 a' n' c' hy
 obtain⟨v,k1,k2⟩:=hs.own r sz' l' ho
 rw[vu hn k1] at hrv;cases hrv
 rcases k2 with ⟨k2,_⟩| ⟨b,cap,cs,e,fr,k2,_,k3,_⟩
 ·cases k2
 ·cases k2
  have:=(Array.getElem?_eq_some_iff.1 k3).1
  simp only;omega
set_option maxHeartbeats 1000000 in
theorem vS{tm:Array Value}{i:TypeInfo}{zv:Value}{du:TypeDesc}{sz:Nat}{L m:List (List AV)}{xv yv:Value}{c':Nat→Nat→Value}(hs:SimE F X σ tm)(ht:P.underlying t=some (.slice e))(hu:P.underlying u=some du)(hnz:du=.string∨∃e',du=.slice e')(hi:P.info? e=some i)(hz:i.zero=some zv)(hzs:zv.cells.size=sz)(his:i.size=sz)
  (hrel:Rel X (.sl true sz L) xv) (hown:gl F X sz L xv) (hL:∀r∈L,r.length=sz) (hadd:AddsA P X sz m yv c') (hfit:(L.length+m.length) * i.bytes≤140737488355328) (hb:1≤i.bytes)
  (hap:∀r sz l a n c a' n' c',σ.own r=some (sz,l)→rootV tm X.w r=some (.slice (some a) n c)→xv=.slice (some a') n' c'→a.block≠a'.block) (hal:∀b,∀p∈σ.e,∀o,p.2≠.c b o):
  ∃X' y,(Builtin.append_ #[t,u] ty #[xv,yv]).run P X.w=.ok y X'.w∧Appended F X X' σ tm sz (L++m) y:=by
 have hA:Adds P X.w i.size m.length yv (rowCells sz m.length c'):=⟨hadd.len,by rw[his];exact hadd.first,by rw[his];exact bx _ _ _⟩
 rcases hown with ⟨rfl,rfl⟩| ⟨b,cap,cs,el,fr,rfl,hg,hh,hcs,hfr,hF⟩
 ·by_cases hm0:m=[]
  ·subst hm0
   refine⟨X,.slice none 0 0,wK ht hu hnz hi hA,hs,Ext.refl F X,.nil _ _,.inl ⟨rfl,rfl⟩,fun r sz' l' a n c a' n' c' _ _ h=>by cases h⟩
  ·have hmp:0 < m.length:=List.length_pos_iff.2 hm0
   have hrun:=gc (P:=P) (ty:=ty) (sLen:=0) (sCap:=0) (a:=none) (olds:=[]) ht hu hnz hi hz hA (fun w' _=>by simp[Builtin.firstCells]) (by omega) (by simpa using hfit) hb
   have hcge:=grownCap_ge X.w (0+m.length) 0 e
   obtain⟨X',h1,h2,h3,h4,h5⟩:=uE (X:=X) (F:=F) (w':=X.w.drew.alloc (.cells ((rowCells sz ([] :List (List AV)).length c').toArray++ (rowCells sz m.length c').toArray++Builtin.zeroCells zv.cells (grownCap X.w (0+m.length) 0 e - (0+m.length))) e)) (cap:=grownCap X.w (0+m.length) 0 e) (sz:=sz) (rows:=[] ++m) rfl rfl rfl rfl hs.gb hs.fb (by simpa using hadd.rows)
    (by simp only[Array.size_append,size_zeroCells,List.size_toArray,bx,hzs];simp only[List.length_nil,Nat.zero_mul,Nat.zero_add] at hcge ⊢;rw[← Nat.add_mul];congr 1;omega) (by simpa using hcge) (yK (by simp) hadd.rows (by simp) hadd.rel) (fun j _ _=>by simp)
   refine⟨X',_,?_,pH hs h2 h3 h4 h5⟩
   rw[hrun,h1]
   simp[rowCells]
 ·have hform : ∃ b' off cap' n, (Value.slice (some ⟨b, 0, none⟩) L.length cap = .slice (some ⟨b', off, none⟩) L.length cap') ∧ X.g b' = some n ∧ off + L.length * sz ≤ n ∧ L.length ≤ cap' ∧
    ∃c:Nat→Nat→Value,(∀ (i:Nat) (r:List AV),L[i]? =some r→r.length=sz)∧(∀ (i j:Nat) (r:List AV) (u:AV),L[i]? =some r→r[j]? =some u→X.w.cell? ⟨b',off+i * sz+j,none⟩=some (c i j))∧(∀ (i j:Nat) (r:List AV) (u:AV),L[i]? =some r→r[j]? =some u→Rel X u (c i j)):=by
   rcases n4 hrel with ⟨_,hl0⟩|h2
   ·subst hl0
    exact⟨b,0,cap,_,rfl,hg,by simp,Nat.zero_le _,fun _ _=>undef,by simp,by simp,by simp⟩
   ·exact h2
  obtain⟨b',off,cap',n,h,hg',hn,hc,c,c1,c2,c3⟩:=hform
  ·cases h
   by_cases hroom:L.length+m.length≤cap
   ·have hle:(L.length+m.length) * sz≤cap * sz:=Nat.mul_le_mul_right _ hroom
    rw[Nat.add_mul] at hle
    have hcell:∀j,j < (rowCells sz m.length c').length→(X.w.cell? ⟨b,L.length * i.size+j,none⟩).isSome=true:=by
     intro j hj
     rw[bx] at hj
     have:L.length * i.size+j < cs.size:=by rw[his,hcs];omega
     simp[World.cell?,hh,this]
    have hfro:∀j,j < (rowCells sz m.length c').length→X.w.frozen? ⟨b,L.length * i.size+j,none⟩=false:=by
     intro j hj
     rw[bx] at hj
     exact hfr _ (by rw[his];omega) (by rw[his,hcs];omega)
    have hrun:=od (P:=P) (ty:=ty) (b:=b) (sLen:=L.length) (sCap:=cap) ht hu hnz hi hA hadd.one hroom hcell hfro
    let w':=X.w.setCells b (L.length * i.size) (rowCells sz m.length c')
    have hkept:∀q,q < L.length * sz→w'.cell? ⟨b,q,none⟩=X.w.cell? ⟨b,q,none⟩:=fun q hq=>World.cell?_setCells_out b _ _ _ _ (fun _ _=>.inl (by rw[his];exact hq))
    have hheap:∀k,k≠b→w'.heap[k]? =X.w.heap[k]? :=by
     have:∀ (vs:List Value) (o:Nat) (w:World) (k:Nat),k≠b→(w.setCells b o vs).heap[k]? =w.heap[k]? :=by
      intro vs
      induction vs with
      |nil=>intros;rfl
      |cons v r ih=>intro o w k hk;simp only[World.setCells];rw[ih _ _ _ hk];exact Below.heap_setCell _ _ _ _ hk
     exact fun k hk=>this _ _ _ k hk
    have hshape:∀ (vs:List Value) (o:Nat) (w:World) (cs:Array Value),w.heap[b]? =some (.cells cs el fr)→∃cs':Array Value,(w.setCells b o vs).heap[b]? =some (.cells cs' el fr)∧cs'.size=cs.size∧(w.setCells b o vs).heap.size=w.heap.size∧(w.setCells b o vs).os=w.os∧(w.setCells b o vs).tape=w.tape∧(w.setCells b o vs).output=w.output:=by
     intro vs
     induction vs with
     |nil=>intro o w cs h;exact⟨cs,h,rfl,rfl,rfl,rfl,rfl⟩
     |cons v r ih=>
      intro o w cs h
      simp only[World.setCells]
      have h2:(w.setCell ⟨b,o,none⟩ v).heap[b]? =some (.cells (cs.setIfInBounds o v) el fr):=by
       have hlt:=(Array.getElem?_eq_some_iff.1 h).1
       have hv:w.heap[b] =.cells cs el fr:=by rw[Array.getElem?_eq_getElem hlt] at h;exact Option.some.inj h
       simp[World.setCell,Array.getElem_modify,hlt,hv]
      obtain⟨cs',k1,k2,k3,k4,k5,k6⟩:=ih (o+1) _ _ h2
      exact⟨cs',k1,by rw[k2];simp,by rw[k3];simp[World.setCell],k4,k5,k6⟩
    obtain⟨cs',k1,k2,k3,k4,k5,k6⟩:=hshape (rowCells sz m.length c') (L.length * i.size) X.w cs hh
    have hlt:=(Array.getElem?_eq_some_iff.1 hh).1
    have hpres:mH X (X.with w' b ((L.length+m.length) * sz)):=by
     intro q n hq
     by_cases e1:q=b
     ·subst e1
      rw[hg] at hq;cases hq
      exact⟨_,Nat.mul_le_mul_right _ (by omega),oZ,fun j hj=>hkept j hj⟩
     ·exact⟨n,Nat.le_refl _,by rw[ro e1];exact hq,fun j _=>cN (hheap q e1)⟩
    have hsim:SimE F (X.with w' b ((L.length+m.length) * sz)) σ tm:=by
     refine hs.turn b (fun k hk _=>⟨hheap k hk,ro hk⟩) (by show X.w.heap.size≤w'.heap.size;rw[k3];exact Nat.le_refl _) hpres (fun q n hq=> ?_) (fun r sz' l' a n c ho hrv=>hap r sz' l' a n c _ _ _ ho hrv rfl) (fun k cs0 hk e1=> ?_) (hal b)
     ·show q < w'.heap.size
      rw[k3]
      by_cases e1:q=b
      ·rw[e1];exact hlt
      ·rw[ro e1] at hq;exact hs.gb q n hq
     ·have:=(hs.box k cs0 hk).gn
      rw[e1,hg] at this;cases this
    have hrw:(X.with w' b ((L.length+m.length) * sz)).w=w':=rfl
    refine⟨X.with w' b ((L.length+m.length) * sz),_,hrun,hsim,⟨k4,k5,k6,by rw[hrw,k3];exact Nat.le_refl _,fun q hq=> ?_,hpres⟩,?_,.inr ⟨b,cap,cs',el,fr,by rw[List.length_append],by rw[List.length_append];exact oZ,k1,by rw[k2,hcs],fun j h1 h2=> ?_,hF⟩,fun r sz' l' a n c a' n' c' ho hrv hy=> ?_⟩
    ·have hne:q≠b:=fun e1=>hF (by rw[← e1];exact hq)
     exact⟨hheap q hne,ro hne⟩
    ·suffices hR:Rel (X.with w' b ((L.length+m.length) * sz)) (.sl true sz (L++m)) (.slice (some ⟨b,0,none⟩) (L++m).length cap) by
      rw[List.length_append] at hR;exact hR
     refine .sl true sz (L++m) b 0 cap _ (fun q j=>if q < L.length then c q j else c' (q - L.length) j) oZ (by simp) (by simpa using hroom) (fun q r hr=> ?_) (fun q j r v hr hv=> ?_) (fun q j r v hr hv=> ?_)
     ·rcases List.mem_append.1 (List.mem_of_getElem? hr) with h|h
      ·exact hL r h
      ·exact hadd.rows r h
     ·have hj:j < r.length:=(List.getElem?_eq_some_iff.1 hv).1
      by_cases hq:q < L.length
      ·rw[List.getElem?_append_left hq] at hr
       rw[if_pos hq,← c2 q j r v hr hv]
       have hsr:=c1 q r hr
       have:q * sz+sz≤L.length * sz:=by rw[← Nat.succ_mul];exact Nat.mul_le_mul_right _ hq
       exact hkept _ (by omega)
      ·rw[List.getElem?_append_right (by omega)] at hr
       rw[if_neg hq]
       have hq2:q - L.length < m.length:=(List.getElem?_eq_some_iff.1 hr).1
       have hsr:=hadd.rows r (List.mem_of_getElem? hr)
       have he:0+q * sz+j=L.length * i.size+ ((q - L.length) * sz+j):=by
        have:q * sz=L.length * sz+ (q - L.length) * sz:=by rw[← Nat.add_mul];congr 1;omega
        rw[his];omega
       have hin:(q - L.length) * sz+j < (rowCells sz m.length c').length:=by
        rw[bx]
        have:(q - L.length) * sz+sz≤m.length * sz:=by rw[← Nat.succ_mul];exact Nat.mul_le_mul_right _ hq2
        omega
       rw[he]
       show w'.cell? _=_
       rw[World.cell?_setCells_in b _ _ _ hcell _ hin]
       have:=kY (sz:=sz) (c:=c') hq2 (j:=j) (by omega)
       rw[List.getElem?_eq_getElem hin] at this
       exact this
     ·by_cases hq:q < L.length
      ·rw[List.getElem?_append_left hq] at hr
       rw[if_pos hq];exact(c3 q j r v hr hv).mono hpres
      ·rw[List.getElem?_append_right (by omega)] at hr
       rw[if_neg hq];exact(hadd.rel _ j r v hr hv).mono hpres
    ·show w'.frozen? _=false
     rw[World.frozen?_setCells]
     rw[List.length_append,Nat.add_mul] at h1
     rw[k2] at h2
     exact hfr j (by omega) h2
    ·cases hy
     have:rootV tm X.w r=some (.slice (some a) n c):=by
      obtain⟨v,v1,v2⟩:=hs.own r sz' l' ho
      cases r with
      |s t0=>exact hrv
      |c k0 o0=>
       obtain⟨cs0,hc0,_⟩:=iB ho
       have hk0:k0≠b:=fun e1=>by
        have:=(hs.box k0 cs0 hc0).gn
        rw[e1,hg] at this;cases this
       simp only[rootV] at hrv ⊢
       rw[← cN (w':=w') (hheap k0 hk0)];exact hrv
     exact hap r sz' l' a n c _ _ _ ho this rfl
   ·have hcell:=uK (X:=X) c1 c2
    have hcell':∀q,q < L.length * sz→X.w.cell? ⟨b,q,none⟩=some (c (q / sz) (q % sz)):=by simpa using hcell
    have hrun:=gc (P:=P) (ty:=ty) (sLen:=L.length) (sCap:=cap) (a:=some ⟨b,0,none⟩) (olds:=rowCells sz L.length c) ht hu hnz hi hz hA (fun w' hw=>by
     rw[his]
     refine run_firstCells_some (P:=P) w' sz L.length ⟨b,0,none⟩ L.length cap _ (bx _ _ _) (fun j v hv=> ?_)
     rw[en]
     simp only[rowCells,List.getElem?_map,Option.map_eq_some_iff] at hv
     obtain⟨q,hq,rfl⟩:=hv
     obtain⟨hlt,he⟩:=List.getElem?_eq_some_iff.1 hq
     simp only[List.getElem_range] at he
     subst he
     simp only[List.length_range] at hlt
     rw[show w'.cell? ⟨b,0+j,none⟩=X.w.cell? ⟨b,j,none⟩ by simp only[World.cell?,hw,Nat.zero_add]]
     exact hcell' j hlt) (by omega) hfit hb
    have hcge:=grownCap_ge X.w (L.length+m.length) cap e
    obtain⟨X',h1,h2,h3,h4,h5⟩:=uE (X:=X) (F:=F) (w':=X.w.drew.alloc (.cells ((rowCells sz L.length c).toArray++ (rowCells sz m.length c').toArray++Builtin.zeroCells zv.cells (grownCap X.w (L.length+m.length) cap e - (L.length+m.length))) e)) (cap:=grownCap X.w (L.length+m.length) cap e) (sz:=sz) (rows:=L++m) rfl rfl rfl rfl hs.gb hs.fb
     (fun r hr=>by
      rcases List.mem_append.1 hr with h|h
      ·exact hL r h
      ·exact hadd.rows r h)
     (by simp only[Array.size_append,size_zeroCells,List.size_toArray,bx,hzs];rw[← Nat.add_mul,← Nat.add_mul];congr 1;omega) (by simpa using hcge) (yK hL hadd.rows c3 hadd.rel) (fun j _ _=>by simp)
    refine⟨X',_,?_,pH hs h2 h3 h4 h5⟩
    rw[hrun,h1,List.length_append]
end
end Go.Proofs.YtobacplonkjigaaDoor
