import Derived.WalkKit
import Derived.WalkLawsBesides
import Derived.Lib.AppendStr
import Derived.Laws.IdiomCopy
import Derived.Laws.AppendOwn
set_option linter.unusedSimpArgs false
set_option linter.unusedVariables false
set_option linter.defProp false
namespace Go.Proofs.Ytlhjbhgkhpbnfaa
def ZC:=@Option.bind_some
def ZH:=@if_neg
def ZF:=@cond_false
def ZI:=@if_pos
def ZG:=@cond_true
def ZD:=@List.getElem?_eq_some_iff
def ZE:=@List.getElem?_eq_getElem
def ZN:=@Nat.le_refl
def ZL:=@List.all_eq_true
def ZK:=@Nat.eq_of_beq_eq_true
def ZM:=@List.mem_cons_of_mem
def ZW:=@List.mem_map
def ZP:=@List.mem_cons_self
def ZY:=@List.mem_cons
def ZJ:=@List.getElem?_append_right
def ZQ:=@List.mem_of_getElem?
def ZR:=@List.length_append
def ZT:=@Bool.and_eq_true
def ZO:=@List.getElem?_append_left
def ZX:=@List.getElem?_take
def Z6:=@Nat.zero_add
def Z0:=@decide_eq_true
def ZZ:=@Option.some.inj
def ZS:=@Nat.le_of_ble_eq_true
def aad:=@Nat.zero_le
def aae:=@Nat.add_mul
def Z1:=@decide_eq_false
def Z2:=@List.mem_filter
def Z3:=@List.length_map
def aas:=@congrArg
def ZV:=@Array.getElem?_eq_getElem
def ZU:=@Array.getElem?_eq_some_iff
def aaf:=@List.mem_append
def aac:=@List.append_assoc
def aah:=@List.map_append
def Z9:=@beq_eq_false_iff_ne
def aag:=@List.flatten_cons
def aap:=@List.map_cons
def aaa:=@Nat.mul_le_mul_right
def aab:=@List.getElem?_of_mem
def Z4:=@Option.map_eq_some_iff
def aau:=@Nat.sub_self
def aaj:=@Nat.lt_of_lt_of_le
def aai:=@List.map_congr_left
def Z5:=@List.getD_eq_getElem?_getD
def Z7:=@Classical.byContradiction
def Z8:=@List.getElem?_zip_eq_some
def aao:=@List.getElem?_map
def aaR:=@beq_iff_eq
def aaq:=@List.getElem?_drop
def aaK:=@Nat.succ_mul
def aaL:=@Nat.beq_refl
def aaM:=@Nat.le_trans
def aan:=@List.take_of_length_le
def aal:=@List.length_eq_zero_iff
def aax:=@List.append_nil
def abj:=@Eq.trans
def aaE:=@Bool.not_true
def aaF:=@List.mem_range
def aar:=@List.mem_append_left
def aaA:=@List.length_set
def aak:=@List.getElem?_eq_none_iff
def aaG:=@Bool.not_false
def aaX:=@Nat.sub_zero
def aaD:=@List.getElem_mem
def aam:=@Array.getD_eq_getD_getElem?
def aaY:=@List.map_map
def aat:=@List.getElem?_set_self
def aa1:=@Nat.lt_irrefl
def aa5:=@Nat.mul_comm
def aa6:=@Nat.add_zero
def aaB:=@List.getElem?_set_ne
def aaI:=@List.find?_eq_none
def aay:=@Array.getElem?_toList
def abg:=@Nat.zero_mul
def aaJ:=@List.mem_singleton
def aaV:=@of_decide_eq_true
def aaP:=@Array.getElem?_push
def aaH:=@List.length_filter_le
def aav:=@List.mem_of_find?_eq_some
def aa7:=@List.find?_some
def aa2:=@List.length_take
def aaz:=@Option.bind_eq_some_iff
def aa8:=@Option.map_some
def aaQ:=@List.mem_map_of_mem
def aaw:=@List.drop_eq_getElem_cons
def aaW:=@Array.length_toList
def aa9:=@List.ext_getElem?
def abc:=@List.filter_cons
def abd:=@List.length_drop
def abp:=@List.map_drop
def abl:=@List.drop_zero
def abe:=@List.mem_flatten
def aaS:=@Nat.ble_eq_true_of_le
def abf:=@Nat.le_add_right
def aaO:=@List.drop_eq_nil_of_le
def abq:=@Bool.false_or
def aaN:=@Array.getElem?_append_left
def aaC:=@List.eq_nil_iff_forall_not_mem
def aaZ:=@List.filter_eq_nil_iff
def abK:=@Array.ext
def abB:=@Nat.mul_one
def abm:=@List.length_cons
def abu:=@List.map_take
def aa3:=@List.length_singleton
def abh:=@List.map_replicate
def aa4:=@List.length_replicate
def aa0:=@Array.getElem?_eq_none
def abU:=@dif_pos
def aaT:=@Option.isSome_iff_exists
def aaU:=@List.getElem?_replicate
def abr:=@Nat.div_eq_of_lt
def aba:=@Nat.add_sub_cancel_left
def abJ:=@Nat.le_zero
def abF:=@List.map_set
def abz:=@Bool.and_false
def abi:=@List.getElem?_eq_none
def abn:=@List.flatten_append
def abo:=@List.filterMap_cons
def abC:=@Bool.true_and
def abb:=@List.getElem?_cons_succ
def abw:=@List.mem_filterMap
def abs:=@List.range_eq_range'
def abM:=@Nat.add_assoc
def abx:=@Nat.eq_zero_or_pos
def abD:=@Nat.mod_eq_of_lt
def abk:=@Option.ne_none_iff_exists'
def abt:=@Array.toArray_toList
def abA:=@List.filter_congr
def abT:=@Nat.one_mul
def abO:=@Nat.add_comm
def abP:=@List.map_nil
def abI:=@List.take_zero
def aby:=@List.mem_replicate
def abG:=@List.nodup_cons
def abv:=@List.map_eq_nil_iff
def abE:=@List.getElem_map
def abQ:=@Nat.le_of_not_lt
def abS:=@Bool.or_eq_true
def abL:=@List.set_cons_zero
def abR:=@List.drop_length
def abN:=@Int.toNat_natCast
def abH:=@List.eq_nil_of_length_eq_zero
end Go.Proofs.Ytlhjbhgkhpbnfaa
namespace Go.Proofs.Ytlhjbhgkhpbnfaa.P
def mkB(l:List UInt8):ByteArray:=⟨l.toArray⟩
def lU(l:List UInt8):(mkB l).size=l.length:=by show l.toArray.size=_;simp
def Is(a b:List UInt8):mkB (a++b)=mkB a++mkB b:=by apply ByteArray.ext;show(a++b).toArray=(mkB a++mkB b).data;rw[ByteArray.data_append];simp[mkB]
def DN(s:ByteArray):s.data.toList.length=s.size:=by rw[aaW];rfl
def bt(n:Nat):UInt8:=UInt8.ofNat n
def Xo:Nat->Nat->List UInt8
 |0,n=>[bt n]
 |f+1,n=>if n < 128 then [bt n] else bt (n % 128+128)::Xo f (n / 128)
def num(n:Nat):List UInt8:=Xo 10 n
def hv:List UInt8->Nat
 | [] =>0
 |c::t=>c.toNat % 128+128 * hv t
def rdF:Nat->Nat->List UInt8->Nat × Nat × Nat
 |_,_,[] =>(0,0,1)
 |i,n,c::t=>if i=9/\1 < c.toNat then(0,0,3) else if c.toNat < 128 then(n+c.toNat * 128 ^ i,i+1,0) else rdF (i+1) (n+ (c.toNat - 128) * 128 ^ i) t
def rd(l:List UInt8):Nat × Nat × Nat:=rdF 0 0 l
end Go.Proofs.Ytlhjbhgkhpbnfaa.P
namespace Go.Proofs.Ytlhjbhgkhpbnfaa
open Go.RowKit P
inductive AV where
 |v (x:Value)
 |sl (own:Bool) (sz:Nat) (l:List (List AV))
 |ag (cs:List AV)
 |tu (us:List AV)
 |el (cs:List AV)
 |fn (f:FuncId) (caps:List AV)
 |ifc (t:TypeId) (u:AV)
 |mp (l:List (Value × AV))
 |cl (sz:Nat) (l:List (List AV))
structure GW where
 w:World
 g:Nat->Option Nat
inductive Rel (X:GW):AV->Value->Prop
 |v (x:Value):Rel X (.v x) x
 |nl (o:Bool) (sz:Nat) (a:Option Addr) (c:Nat):Rel X (.sl o sz []) (.slice a 0 c)
 |sl (o:Bool) (sz:Nat) (l:List (List AV)) (b off cap n:Nat) (c:Nat->Nat->Value) (hg:X.g b=some n) (hn:off+l.length * sz<=n) (hc:l.length<=cap)
     (hs:∀ (i:Nat) (r:List AV),l[i]? =some r->r.length=sz)
     (hm:∀ (i j:Nat) (r:List AV) (u:AV),l[i]? =some r->r[j]? =some u->X.w.cell? ⟨b,off+i * sz+j,none⟩=some (c i j))
     (hr:∀ (i j:Nat) (r:List AV) (u:AV),l[i]? =some r->r[j]? =some u->Rel X u (c i j)):Rel X (.sl o sz l) (.slice (some ⟨b,off,none⟩) l.length cap)
 |ag (us:List AV) (xs:Array Value) (hl:us.length=xs.size) (hr:∀ (i:Nat) (u:AV) (x:Value),us[i]? =some u->xs[i]? =some x->Rel X u x):Rel X (.ag us) (.agg xs)
 |tu (us:List AV) (xs:Array Value) (hl:us.length=xs.size) (hr:∀ (i:Nat) (u:AV) (x:Value),us[i]? =some u->xs[i]? =some x->Rel X u x):Rel X (.tu us) (.tuple xs)
 |el (us:List AV) (b off n:Nat) (c:Nat->Value) (hg:X.g b=some n) (hn:off+us.length<=n)
     (hm:∀ (j:Nat) (u:AV),us[j]? =some u->X.w.cell? ⟨b,off+j,none⟩=some (c j)) (hr:∀ (j:Nat) (u:AV),us[j]? =some u->Rel X u (c j)):Rel X (.el us) (.pointer (some ⟨b,off,none⟩))
 |fn (f:FuncId) (us:List AV) (xs:Array Value) (hl:us.length=xs.size) (hr:∀ (i:Nat) (u:AV) (x:Value),us[i]? =some u->xs[i]? =some x->Rel X u x):Rel X (.fn f us) (.func (.func f) #[] xs)
 |ifc (t:TypeId) (u:AV) (x:Value) (hr:Rel X u x):Rel X (.ifc t u) (.iface t x)
 |cl (sz:Nat) (l:List (List AV)) (a:Option Addr) (n:Nat) (hr:Rel X (.sl false sz l) (.slice a n n)):Rel X (.cl sz l) (.slice a n n)
def Rel.nil{X:GW}(o:Bool)(sz:Nat):Rel X (.sl o sz []) (.slice none 0 0):=.nl o sz none 0
def nj(X X':GW):Prop:=∀b n,X.g b=some n->∃n',n<=n'/\X'.g b=some n'/\∀j,j < n->X'.w.cell? ⟨b,j,none⟩=X.w.cell? ⟨b,j,none⟩
theorem nj.refl(X:GW):nj X X:=fun b n h=>⟨n,ZN _,h,fun _ _=>rfl⟩
def nj.trans{X Y Z:GW}(h:nj X Y)(k:nj Y Z):nj X Z:=fun b n hb=>by obtain⟨n1,h1,h2,h3⟩:=h b n hb;obtain⟨n2,k1,k2,k3⟩:=k b n1 h2;exact⟨n2,by omega,k2,fun j hj=>(k3 j (by omega)).trans (h3 j hj)⟩
def Rel.mono{X X':GW}{u:AV}{x:Value}(h:Rel X u x)(hp:nj X X'):Rel X' u x:=by
 induction h with
 |v x=>exact .v x
 |nl o sz a c=>exact .nl o sz a c
 |sl o sz l b off cap n c hg hn hc hs hm hr ih=>
  obtain⟨n',h1,h2,h3⟩:=hp b n hg;refine .sl o sz l b off cap n' c h2 (by omega) hc hs (fun i j r u hi hj=> ?_) ih;rw[h3 _ ?_];exact hm i j r u hi hj;have hi':=(ZD.1 hi).1;have hj':=(ZD.1 hj).1;have hsz:=hs i r hi;have:i * sz+sz<=l.length * sz:=by rw[<- aaK];exact aaa _ hi'
  omega
 |ag us xs hl hr ih=>exact .ag us xs hl ih
 |tu us xs hl hr ih=>exact .tu us xs hl ih
 |el us b off n c hg hn hm hr ih=>obtain⟨n',h1,h2,h3⟩:=hp b n hg;refine .el us b off n' c h2 (by omega) (fun j u hj=> ?_) ih;have hj':=(ZD.1 hj).1;rw[h3 _ (by omega)];exact hm j u hj
 |fn f us xs hl hr ih=>exact .fn f us xs hl ih
 |ifc t u x hr ih=>exact .ifc t u x ih
 |cl sz l a n hr ih=>exact .cl sz l a n ih
inductive Root where
 |s (t:Nat)
 |c (k o:Nat)
 deriving DecidableEq
structure AS where
 n:Nat
 t:List (Nat × AV)
 h:List (Nat × List AV)
 e:List (Nat × Root)
def look{α:Type}:List (Nat × α)->Nat->Option α
 | [],_=>none
 | (k,a)::r,i=>match Nat.beq i k with|true=>some a|false=>look r i
theorem aP{α:Type}(i:Nat):look ([] :List (Nat × α)) i=none:=rfl
theorem ae{α:Type}(k:Nat)(a:α)(r:List (Nat × α))(i:Nat):look ((k,a)::r) i=if i=k then some a else look r i:=by
 simp only[look];by_cases h:i=k
 ·subst h;rw[ZI rfl,aaL]
 ·rw[ZH h];cases hb:Nat.beq i k
  ·rfl
  ·exact absurd (ZK hb) h
def de:Option AV->Option (Nat × List (List AV))
 |some (.sl true sz l)=>some (sz,l)
 |_=>none
def AS.own(O:AS):Root->Option (Nat × List (List AV))
 |.s t=>de (look O.t t)
 |.c k o=>match look O.h k with|some cs=>de cs[o]? |_=>none
def rootV(tm:Array Value)(w:World):Root->Option Value
 |.s t=>some (tm.getD t undef)
 |.c k o=>w.cell? ⟨k,o,none⟩
def gH(F:Nat->Prop)(X:GW)(sz:Nat)(l:List (List AV))(x:Value):Prop:=
 (x=.slice none 0 0/\l=[])\/∃b cap cs e fr,x=.slice (some ⟨b,0,none⟩) l.length cap/\X.g b=some (l.length * sz)/\X.w.heap[b]? =some (.cells cs e fr)/\cs.size=cap * sz/\
  (∀j,l.length * sz<=j->j < cs.size->X.w.frozen? ⟨b,j,none⟩=false)/\¬F b
def ef(F:Nat->Prop)(X:GW)(k:Nat)(cs:List AV):Prop:=
 X.g k=none/\¬F k/\∃ (arr:Array Value) (e:TypeId) (fr:Nat × Nat),X.w.heap[k]? =some (.cells arr e fr)/\arr.size=cs.length/\(∀o,X.w.frozen? ⟨k,o,none⟩=false)/\∀ (o:Nat) u x,cs[o]? =some u->arr[o]? =some x->Rel X u x
def U4(F:Nat->Prop)(X:GW)(k:Nat)(l:List (Value × AV)):Prop:=
 X.g k=none/\¬F k/\∃ (es:Array MapEntry) (clock:Nat),X.w.heap[k]? =some (.map es clock)/\es.size=l.length/\∀ (i:Nat) (e:MapEntry) p,l[i]? =some p->es[i]? =some e->e.key=p.1/\Rel X p.2 e.val
def AV.isMp:AV->Bool
 |.mp _=>true
 |_=>false
def fU:List AV->Bool
 | [.mp _] =>true
 |_=>false
def eN(F:Nat->Prop)(X:GW)(k:Nat)(cs:List AV):Prop:=(fU cs=false/\ef F X k cs)\/∃l,cs=[.mp l] /\U4 F X k l
def HK{cs:List AV}(h:fU cs=true):∃l,cs=[.mp l] :=by
 match cs,h with
 | [.mp l],_=>exact⟨l,rfl⟩
theorem ef.box{F:Nat->Prop}{X:GW}{k:Nat}{cs:List AV}(h:ef F X k cs):eN F X k cs:=by
 cases hm:fU cs with
 |false=>exact .inl ⟨hm,h⟩
 |true=>
  obtain⟨l,rfl⟩:=HK hm;obtain⟨h1,h2,arr,e,fr,h3,h4,h5,h6⟩:=h;have hlt:0 < arr.size:=by rw[h4];simp
  have:=h6 0 (.mp l) _ rfl (ZV hlt);cases this
def eN.gn{F:Nat->Prop}{X:GW}{k:Nat}{cs:List AV}(h:eN F X k cs):X.g k=none:=by
 rcases h with ⟨_,h⟩| ⟨l,_,h⟩
 ·exact h.1
 ·exact h.1
def eN.nF{F:Nat->Prop}{X:GW}{k:Nat}{cs:List AV}(h:eN F X k cs):¬F k:=by
 rcases h with ⟨_,h⟩| ⟨l,_,h⟩
 ·exact h.2.1
 ·exact h.2.1
theorem eN.cells{F:Nat->Prop}{X:GW}{k:Nat}{cs:List AV}(h:eN F X k cs)(hm:fU cs=false):ef F X k cs:=by
 rcases h with ⟨_,h⟩| ⟨l,rfl,h⟩
 ·exact h
 ·cases hm
theorem eN.at{F:Nat->Prop}{X:GW}{k o:Nat}{cs:List AV}{u:AV}(h:eN F X k cs)(hu:cs[o]? =some u)(hm:u.isMp=false):ef F X k cs:=by
 rcases h with ⟨_,h⟩| ⟨l,rfl,h⟩
 ·exact h
 ·cases o with
  |zero=>simp at hu;subst hu;cases hm
  |succ o=>simp at hu
theorem eN.own{F:Nat->Prop}{X:GW}{k o:Nat}{cs:List AV}{q:Nat × List (List AV)}(h:eN F X k cs)(hu:de cs[o]? =some q):ef F X k cs:=by
 cases hc:cs[o]? with
 |none=>rw[hc] at hu;cases hu
 |some u=>
  refine h.at hc ?_;rw[hc] at hu;cases u with
  |mp l=>simp[de] at hu
  |_=>rfl
theorem eN.map{F:Nat->Prop}{X:GW}{k:Nat}{l:List (Value × AV)}(h:eN F X k [.mp l]):U4 F X k l:=by
 rcases h with ⟨h,_⟩| ⟨l',h1,h2⟩
 ·cases h
 ·cases h1;exact h2
structure Sim (F:Nat->Prop) (X:GW) (O:AS) (tm:Array Value):Prop where
 size:tm.size=O.n
 gb:∀b n,X.g b=some n->b < X.w.heap.size
 fb:∀b,F b->b < X.w.heap.size
 slot:∀t u,look O.t t=some u->Rel X u (tm.getD t undef)
 box:∀k cs,look O.h k=some cs->eN F X k cs
 eqs:∀x r,look O.e x=some r->rootV tm X.w r=some (tm.getD x undef)
 own:∀r sz l,O.own r=some (sz,l)->∃x,rootV tm X.w r=some x/\gH F X sz l x
 disj:∀r r' sz l sz' l' a n c a' n' c',r≠r'->O.own r=some (sz,l)->O.own r'=some (sz',l')->rootV tm X.w r=some (.slice (some a) n c)->rootV tm X.w r'=some (.slice (some a') n' c')->a.block≠a'.block
structure Ext (F:Nat->Prop) (X X':GW):Prop where
 os:X'.w.os=X.w.os
 tape:X'.w.tape=X.w.tape
 output:X'.w.output=X.w.output
 size:X.w.heap.size<=X'.w.heap.size
 frame:∀b,F b->X'.w.heap[b]? =X.w.heap[b]? /\X'.g b=X.g b
 pres:nj X X'
theorem Ext.refl(F:Nat->Prop)(X:GW):Ext F X X:=⟨rfl,rfl,rfl,ZN _,fun _ _=>⟨rfl,rfl⟩,nj.refl X⟩
def Ext.trans{F:Nat->Prop}{X Y Z:GW}(h:Ext F X Y)(k:Ext F Y Z):Ext F X Z:=
 ⟨k.os.trans h.os,k.tape.trans h.tape,k.output.trans h.output,aaM h.size k.size,fun b hb=>⟨(k.frame b hb).1.trans (h.frame b hb).1,(k.frame b hb).2.trans (h.frame b hb).2⟩,h.pres.trans k.pres⟩
def Ext.mono{F F':Nat->Prop}{X Y:GW}(h:Ext F X Y)(hf:∀b,F' b->F b):Ext F' X Y:=⟨h.os,h.tape,h.output,h.size,fun b hb=>h.frame b (hf b hb),h.pres⟩
structure New (X X':GW):Prop where
 os:X'.w.os=X.w.os
 tape:X'.w.tape=X.w.tape
 output:X'.w.output=X.w.output
 size:X.w.heap.size<=X'.w.heap.size
 old:∀b,b < X.w.heap.size->X'.w.heap[b]? =X.w.heap[b]? /\X'.g b=X.g b
theorem New.refl(X:GW):New X X:=⟨rfl,rfl,rfl,ZN _,fun _ _=>⟨rfl,rfl⟩⟩
def dm{w w':World}{b j:Nat}(h:w'.heap[b]? =w.heap[b]?):w'.cell? ⟨b,j,none⟩=w.cell? ⟨b,j,none⟩:=by simp only[World.cell?,h]
def p8{w w':World}{b j:Nat}(h:w'.heap[b]? =w.heap[b]?):w'.frozen? ⟨b,j,none⟩=w.frozen? ⟨b,j,none⟩:=by simp only[World.frozen?,h]
def New.pres{X X':GW}(h:New X X')(hg:∀b n,X.g b=some n->b < X.w.heap.size):nj X X':=fun b n hb=>by obtain⟨h1,h2⟩:=h.old b (hg b n hb);exact⟨n,ZN _,h2.trans hb,fun j _=>dm h1⟩
def New.ext{F:Nat->Prop}{X X':GW}(h:New X X')(hg:∀b n,X.g b=some n->b < X.w.heap.size)(hF:∀b,F b->b < X.w.heap.size):Ext F X X':=
 ⟨h.os,h.tape,h.output,h.size,fun b hb=>h.old b (hF b hb),h.pres hg⟩
def mP{w:World}{b j:Nat}{x:Value}(h:w.cell? ⟨b,j,none⟩=some x):b < w.heap.size:=by
 unfold World.cell? at h;cases hb:w.heap[b]? with
 |none=>rw[hb] at h;cases h
 |some o=>exact(ZU.1 hb).1
theorem gH.keep{F F':Nat->Prop}{X X':GW}{sz:Nat}{l:List (List AV)}{x:Value}(h:gH F X sz l x)(hk:∀b n c,x=.slice (some ⟨b,0,none⟩) n c->X'.w.heap[b]? =X.w.heap[b]? /\X'.g b=X.g b/\¬F' b):gH F' X' sz l x:=by
 rcases h with h| ⟨b,cap,cs,e,fr,h1,h2,h3,h4,h5,h6⟩
 ·exact .inl h
 ·obtain⟨k1,k2,k3⟩:=hk _ _ _ h1;exact .inr ⟨b,cap,cs,e,fr,h1,k2.trans h2,k1.trans h3,h4,fun j a1 a2=>(p8 k1).trans (h5 j a1 a2),k3⟩
theorem eN.keep{F F':Nat->Prop}{X X':GW}{k:Nat}{cs:List AV}(h:eN F X k cs)(hk:X'.w.heap[k]? =X.w.heap[k]? /\X'.g k=X.g k/\¬F' k)(hp:nj X X'):eN F' X' k cs:=by
 rcases h with ⟨_,h1,h2,arr,e,fr,h3,h4,h5,h6⟩| ⟨l,rfl,h1,h2,es,ck,h3,h4,h5⟩
 ·exact ef.box ⟨hk.2.1.trans h1,hk.2.2,arr,e,fr,hk.1.trans h3,h4,fun o=>(p8 hk.1).trans (h5 o),fun o u x hu hx=>(h6 o u x hu hx).mono hp⟩
 ·exact .inr ⟨l,rfl,hk.2.1.trans h1,hk.2.2,es,ck,hk.1.trans h3,h4,fun i e p hp1 he=>⟨(h5 i e p hp1 he).1,(h5 i e p hp1 he).2.mono hp⟩⟩
def eN.lt{F:Nat->Prop}{X:GW}{k:Nat}{cs:List AV}(h:eN F X k cs):k < X.w.heap.size:=by
 rcases h with ⟨_,_,_,arr,e,fr,h3,_⟩| ⟨_,_,_,_,es,ck,h3,_⟩
 ·exact(ZU.1 h3).1
 ·exact(ZU.1 h3).1
def gH.lt{F:Nat->Prop}{X:GW}{sz:Nat}{l:List (List AV)}{x:Value}(h:gH F X sz l x){b n c}(hx:x=.slice (some ⟨b,0,none⟩) n c):b < X.w.heap.size/\¬F b:=by
 rcases h with ⟨h,_⟩| ⟨b',cap,cs,e,fr,h1,h2,h3,h4,h5,h6⟩
 ·rw[h] at hx;cases hx
 ·rw[h1] at hx;cases hx;exact⟨(ZU.1 h3).1,h6⟩
def g6{O:AS}{k o sz:Nat}{l:List (List AV)}(h:O.own (.c k o)=some (sz,l)):∃cs,look O.h k=some cs/\de cs[o]? =some (sz,l):=by
 simp only[AS.own] at h;split at h
 ·rename_i cs hc;exact⟨cs,hc,h⟩
 ·cases h
def Sim.new{F:Nat->Prop}{X X':GW}{O:AS}{tm:Array Value}(h:Sim F X O tm)(hn:New X X')(hg:∀b n,X'.g b=some n->b < X'.w.heap.size):Sim F X' O tm:=by
 have hp:=hn.pres h.gb;have hroot:∀r x,rootV tm X.w r=some x->rootV tm X'.w r=some x:=by
  intro r x hr;cases r with
  |s t=>exact hr
  |c k o=>simp only[rootV] at hr ⊢;rw[dm (hn.old k (mP hr)).1];exact hr
 have hback:∀r sz l,O.own r=some (sz,l)->rootV tm X'.w r=rootV tm X.w r:=by intro r sz l ho;obtain⟨x,hx,_⟩:=h.own r sz l ho;rw[hx];exact hroot r x hx
 refine⟨h.size,hg,fun b hb=>aaj (h.fb b hb) hn.size,fun t u hu=>(h.slot t u hu).mono hp,fun k cs hk=> ?_,fun x r hx=>hroot r _ (h.eqs x r hx),fun r sz l ho=> ?_,fun r r' sz l sz' l' a n c a' n' c' hne ho ho' hr hr'=> ?_⟩
 ·have hb:=h.box k cs hk;exact hb.keep ⟨(hn.old k hb.lt).1,(hn.old k hb.lt).2,hb.nF⟩ hp
 ·obtain⟨x,hx,hok⟩:=h.own r sz l ho;refine⟨x,hroot r x hx,hok.keep fun b n c hxe=> ?_⟩;have:=hok.lt hxe;exact⟨(hn.old b this.1).1,(hn.old b this.1).2,this.2⟩
 ·rw[hback r sz l ho] at hr;rw[hback r' sz' l' ho'] at hr';exact h.disj r r' sz l sz' l' a n c a' n' c' hne ho ho' hr hr'
def Root.in(d:Nat):Root->Bool
 |.s t=>t==d
 |.c _ _=>false
def FreshOk(F:Nat->Prop)(B:Nat)(X':GW)(u:AV)(x:Value):Prop:=
 ∀sz l,de (some u)=some (sz,l)->gH F X' sz l x/\∀a n c,x=.slice (some a) n c->B<=a.block
def AV.plain(u:AV):Prop:=de (some u)=none
def FreshOk.plain{F:Nat->Prop}{B:Nat}{X':GW}{u:AV}{x:Value}(h:u.plain):FreshOk F B X' u x:=
 fun sz l hp=>by rw[h] at hp;cases hp
def MV(us:List AV):(AV.ag us).plain:=rfl
def uO(us:List AV):(AV.tu us).plain:=rfl
def AV.rd:AV->AV
 |.sl _ sz l=>.sl false sz l
 |u=>u
theorem Rel.own{X:GW}{o o':Bool}{sz:Nat}{l:List (List AV)}{x:Value}(h:Rel X (.sl o sz l) x):Rel X (.sl o' sz l) x:=by
 cases h with
 |nl o sz a c=>exact .nl _ _ a c
 |sl o sz l b off cap n c hg hn hc hs hm hr=>exact .sl _ _ l b off cap n c hg hn hc hs hm hr
theorem Rel.rd{X:GW}{u:AV}{x:Value}(h:Rel X u x):Rel X u.rd x:=by
 cases u with
 |sl o sz l=>exact h.own
 |_=>exact h
def eq(u:AV):u.rd.plain:=by cases u<;> rfl
def Sim.reown{F:Nat->Prop}{X:GW}{O σ':AS}{tm:Array Value}(h:Sim F X O tm)(hn:σ'.n=O.n)(hslot:∀t u,look σ'.t t=some u->Rel X u (tm.getD t undef))
  (hbox:∀k cs,look σ'.h k=some cs->eN F X k cs) (heqs:∀x r,look σ'.e x=some r->rootV tm X.w r=some (tm.getD x undef))
  (f:Root->Root) (hf:∀r sz l,σ'.own r=some (sz,l)->(rootV tm X.w r=some (.slice none 0 0)/\l=[])\/(O.own (f r)=some (sz,l)/\rootV tm X.w r=rootV tm X.w (f r)))
  (hinj:∀r r',r≠r'->σ'.own r≠none->σ'.own r'≠none->f r≠f r'):Sim F X σ' tm:=by
 refine⟨by rw[hn];exact h.size,h.gb,h.fb,hslot,hbox,heqs,fun r sz l ho=> ?_,fun r r' sz l sz' l' a n c a' n' c' hne ho ho' hr hr'=> ?_⟩
 ·rcases hf r sz l ho with ⟨h1,h2⟩| ⟨h1,h2⟩
  ·exact⟨_,h1,.inl ⟨rfl,h2⟩⟩
  ·rw[h2];exact h.own _ _ _ h1
 ·rcases hf r sz l ho with ⟨h1,h2⟩| ⟨h1,h2⟩
  ·rw[h1] at hr;cases hr
  ·rcases hf r' sz' l' ho' with ⟨k1,k2⟩| ⟨k1,k2⟩
   ·rw[k1] at hr';cases hr'
   ·rw[h2] at hr;rw[k2] at hr';exact h.disj (f r) (f r') sz l sz' l' a n c a' n' c' (hinj r r' hne (by rw[ho];simp) (by rw[ho'];simp)) h1 k1 hr hr'
def iV{tm:Array Value}{d:Nat}{x:Value}(h:d < tm.size):(tm.setIfInBounds d x).getD d undef=x:=by simp[h]
def qw{tm:Array Value}{d t:Nat}{x:Value}(h:t≠d):(tm.setIfInBounds d x).getD t undef=tm.getD t undef:=by simp only[Array.getD_eq_getD_getElem?,Array.getElem?_setIfInBounds];rw[ZH (fun e=>h e.symm)]
def db{α:Type}:∀ {l:List (Nat × α)} {x:Nat} {a:α},look l x=some a->(x,a)∈l
 | [],_,_,h=>by cases h
 | (k,b)::r,x,a,h=>by
   simp only[ae] at h;split at h
   ·rename_i e;subst e;cases h;exact ZP
   ·exact ZM _ (db h)
def kQ(e:List (Nat × Root))(tm:Array Value)(w:World):Prop:=∀p∈e,rootV tm w p.2=some (tm.getD p.1 undef)
theorem kQ.look{e:List (Nat × Root)}{tm:Array Value}{w:World}(h:kQ e tm w):∀x r,look e x=some r->rootV tm w r=some (tm.getD x undef):=fun _ _ hx=>h _ (db hx)
structure SimE (F:Nat->Prop) (X:GW) (O:AS) (tm:Array Value):Prop extends Sim F X O tm where
 eqm:kQ O.e tm X.w
def v8{X X':GW}(hn:New X X'){tm:Array Value}{r:Root}{x:Value}(h:rootV tm X.w r=some x):rootV tm X'.w r=some x:=by
 cases r with
 |s t=>exact h
 |c k o=>simp only[rootV] at h ⊢;rw[dm (hn.old k (mP h)).1];exact h
def SimE.new{F:Nat->Prop}{X X':GW}{O:AS}{tm:Array Value}(h:SimE F X O tm)(hn:New X X')(hg:∀b n,X'.g b=some n->b < X'.w.heap.size):SimE F X' O tm:=
 ⟨h.toSim.new hn hg,fun p hp=>v8 hn (h.eqm p hp)⟩
def AS.put(O:AS)(d:Nat)(u:AV):AS:={ n:=O.n,t:=(d,u)::O.t,h:=O.h,e:=O.e.filter fun p=> !(p.1==d) && !p.2.in d }
def lR{tm:Array Value}{w:World}{d:Nat}{x:Value}{r:Root}(h:r.in d=false):rootV (tm.setIfInBounds d x) w r=rootV tm w r:=by
 cases r with
 |s t=>simp only[Root.in,beq_eq_false_iff_ne] at h;simp only[rootV];rw[qw h]
 |c k o=>rfl
def Pn{d:Nat}{r:Root}(h:r.in d=true):r=.s d:=by
 cases r with
 |s t=>simp only[Root.in,beq_iff_eq] at h;rw[h]
 |c k o=>cases h
def oI{O:AS}{d:Nat}{u:AV}{r:Root}(h:r.in d=false):(O.put d u).own r=O.own r:=by
 cases r with
 |s t=>simp only[Root.in,beq_eq_false_iff_ne] at h;simp only[AS.own,AS.put,ae];rw[ZH h]
 |c k o=>rfl
def ym{O:AS}{d:Nat}{u:AV}:(O.put d u).own (.s d)=de (some u):=by simp[AS.own,AS.put,ae]
def SimE.put'{F:Nat->Prop}{X:GW}{O:AS}{tm:Array Value}(h:SimE F X O tm){d:Nat}{u:AV}{x:Value}(hd:d < O.n)(hr:Rel X u x)(hok:∀sz l,de (some u)=some (sz,l)->gH F X sz l x)
  (hlow:∀r sz l sz' l' a n c a' n' c',O.own r=some (sz,l)->de (some u)=some (sz',l')->rootV tm X.w r=some (.slice (some a) n c)->x=.slice (some a') n' c'->a.block≠a'.block):SimE F X (O.put d u) (tm.setIfInBounds d x):=by
 have hd':d < tm.size:=by rw[h.size];exact hd
 have heq:kQ (O.put d u).e (tm.setIfInBounds d x) X.w:=by intro p hp;simp only[AS.put,List.mem_filter,Bool.and_eq_true,Bool.not_eq_true',beq_eq_false_iff_ne] at hp;rw[lR hp.2.2,qw hp.2.1];exact h.eqm p hp.1
 refine⟨⟨by simp[AS.put,h.size],h.gb,h.fb,fun t u' hu=> ?_,h.box,heq.look,fun r sz l ho=> ?_,fun r r' sz l sz' l' a n c a' n' c' hne ho ho' hr1 hr2=> ?_⟩,heq⟩
 ·simp only[AS.put,ae] at hu;split at hu
  ·rename_i e;subst e;cases hu;rw[iV hd'];exact hr
  ·rename_i e;rw[qw e];exact h.slot t u' hu
 ·by_cases hin:r.in d=true
  ·obtain rfl:=Pn hin;rw[ym] at ho;exact⟨x,by simp only[rootV];rw[iV hd'],hok sz l ho⟩
  ·simp only[Bool.not_eq_true] at hin;rw[oI hin] at ho;rw[lR hin];exact h.own r sz l ho
 ·have key:∀r r' sz l sz' l' a n c a' n' c',r≠r'->(O.put d u).own r=some (sz,l)->(O.put d u).own r'=some (sz',l')->rootV (tm.setIfInBounds d x) X.w r=some (.slice (some a) n c)->rootV (tm.setIfInBounds d x) X.w r'=some (.slice (some a') n' c')->r.in d=true->a'.block≠a.block:=by
   intro r r' sz l sz' l' a n c a' n' c' hne ho ho' hr1 hr2 hin;obtain rfl:=Pn hin;rw[ym] at ho;simp only[rootV] at hr1;rw[iV hd'] at hr1;have hin':r'.in d=false:=by
    cases hc:r'.in d
    ·rfl
    ·exact absurd (Pn hc).symm hne
   rw[oI hin'] at ho';rw[lR hin'] at hr2;exact hlow r' sz' l' sz l a' n' c' a n c ho' ho hr2 (ZZ hr1)
  cases hin:r.in d
  ·cases hin':r'.in d
   ·rw[oI hin] at ho;rw[oI hin'] at ho';rw[lR hin] at hr1;rw[lR hin'] at hr2;exact h.disj r r' sz l sz' l' a n c a' n' c' hne ho ho' hr1 hr2
   ·exact key r' r sz' l' sz l a' n' c' a n c (fun e=>hne e.symm) ho' ho hr2 hr1 hin'
  ·exact(key r r' sz l sz' l' a n c a' n' c' hne ho ho' hr1 hr2 hin).symm
theorem SimE.put{F:Nat->Prop}{X:GW}{O:AS}{tm:Array Value}(h:SimE F X O tm){d:Nat}{u:AV}{x:Value}{B:Nat}(hd:d < O.n)(hr:Rel X u x)(hfr:FreshOk F B X u x)
  (hB:∀r sz l b n c,O.own r=some (sz,l)->rootV tm X.w r=some (.slice (some ⟨b,0,none⟩) n c)->b < B):SimE F X (O.put d u) (tm.setIfInBounds d x):=by
 refine h.put' hd hr (fun sz l ho=>(hfr sz l ho).1) fun r sz l sz' l' a n c a' n' c' ho hu hrv hx=> ?_;have h4:=(hfr sz' l' hu).2 a' n' c' hx;obtain⟨y,k1,k2⟩:=h.own r sz l ho;rw[hrv] at k1;cases k1;rcases k2 with ⟨k2,_⟩| ⟨b,cap,cs,e,fr,k2,_⟩
 ·cases k2
 ·cases k2;have:=hB r sz l _ _ _ ho hrv;simp only;omega
def SimE.turn{F:Nat->Prop}{X X':GW}{O:AS}{tm:Array Value}(h:SimE F X O tm)(b:Nat)(hheap:∀c,c≠b->c < X.w.heap.size->X'.w.heap[c]? =X.w.heap[c]? /\X'.g c=X.g c)(hs:X.w.heap.size<=X'.w.heap.size)(hp:nj X X')(hg:∀b n,X'.g b=some n->b < X'.w.heap.size)
  (hno:∀r sz l a n c,O.own r=some (sz,l)->rootV tm X.w r=some (.slice (some a) n c)->a.block≠b) (hbox:∀k cs,look O.h k=some cs->k≠b) (hal:∀p∈O.e,∀o,p.2≠.c b o):SimE F X' O tm:=by
 have hroot:∀r x,rootV tm X.w r=some x->(∀o,r≠.c b o)->rootV tm X'.w r=some x:=by
  intro r x hr hne;cases r with
  |s t=>exact hr
  |c k o=>simp only[rootV] at hr ⊢;rw[dm (hheap k (fun e=>hne o (by rw[e])) (mP hr)).1];exact hr
 have hownne:∀r sz l,O.own r=some (sz,l)->∀o,r≠.c b o:=by intro r sz l ho o e;subst e;obtain⟨cs,hc,_⟩:=g6 ho;exact hbox b cs hc rfl
 have hback:∀r sz l,O.own r=some (sz,l)->rootV tm X'.w r=rootV tm X.w r:=by intro r sz l ho;obtain⟨x,hx,_⟩:=h.own r sz l ho;rw[hx];exact hroot r x hx (hownne r sz l ho)
 have heq:kQ O.e tm X'.w:=fun p hp=>hroot p.2 _ (h.eqm p hp) (hal p hp);refine⟨⟨h.size,hg,fun b hb=>aaj (h.fb b hb) hs,fun t u hu=>(h.slot t u hu).mono hp,fun k cs hk=> ?_,heq.look,fun r sz l ho=> ?_,fun r r' sz l sz' l' a n c a' n' c' hne ho ho' hr hr'=> ?_⟩,heq⟩
 ·have hb:=h.box k cs hk;have:=hheap k (hbox k cs hk) hb.lt;exact hb.keep ⟨this.1,this.2,hb.nF⟩ hp
 ·obtain⟨x,hx,hok⟩:=h.own r sz l ho;refine⟨x,hroot r x hx (hownne r sz l ho),hok.keep fun c n q hxe=> ?_⟩;have h1:=hok.lt hxe;have h2:=hheap c (hno r sz l _ _ _ ho (by rw[hx,hxe])) h1.1;exact⟨h2.1,h2.2,h1.2⟩
 ·rw[hback r sz l ho] at hr;rw[hback r' sz' l' ho'] at hr';exact h.disj r r' sz l sz' l' a n c a' n' c' hne ho ho' hr hr'
def SimE.put_new{F:Nat->Prop}{X X':GW}{O:AS}{tm:Array Value}(h:SimE F X O tm){d:Nat}{u:AV}{x:Value}(hd:d < O.n)(hn:New X X')(hg:∀b n,X'.g b=some n->b < X'.w.heap.size)(hr:Rel X' u x)(hfr:FreshOk F X.w.heap.size X' u x):
  SimE F X' (O.put d u) (tm.setIfInBounds d x):=by
 refine(h.new hn hg).put hd hr hfr fun r sz l b n c ho hrv=> ?_;obtain⟨y,h1,h2⟩:=h.own r sz l ho;rw[v8 hn h1] at hrv;cases hrv;exact(h2.lt rfl).1
def AS.alias(O:AS)(d:Nat)(r:Root):AS:={ n:=O.n,t:=O.t,h:=O.h,e:=(d,r)::O.e }
theorem SimE.alias{F:Nat->Prop}{X:GW}{O:AS}{tm:Array Value}(h:SimE F X O tm){d:Nat}{r:Root}(hr:rootV tm X.w r=some (tm.getD d undef)):SimE F X (O.alias d r) tm:=by
 have heq:kQ (O.alias d r).e tm X.w:=by
  intro p hp;rcases ZY.1 hp with rfl|hp
  ·exact hr
  ·exact h.eqm p hp
 exact⟨⟨h.size,h.gb,h.fb,h.slot,h.box,heq.look,h.own,h.disj⟩,heq⟩
def AS.lay(O:AS):Root->AS
 |.s t=>{ n:=O.n,t:=(match look O.t t with|some u=>(t,u.rd)::O.t|none=>O.t),h:=O.h,e:=O.e }
 |.c k o=>{ n:=O.n,t:=O.t,h:=(match look O.h k with|some cs=>(k,(match cs[o]? with|some u=>cs.set o u.rd|none=>cs))::O.h|none=>O.h),e:=O.e }
def lH{O:AS}(r:Root):(O.lay r).own r=none:=by
 cases r with
 |s t=>
  simp only[AS.own,AS.lay];cases h:Go.Proofs.Ytlhjbhgkhpbnfaa.look O.t t with
  |none=>simp only;rw[h];rfl
  |some u=>simp only[ae,if_true];exact eq u
 |c k o=>
  simp only[AS.own,AS.lay];cases h:Go.Proofs.Ytlhjbhgkhpbnfaa.look O.h k with
  |none=>simp only;rw[h]
  |some cs=>
   simp only[ae,if_true];cases hc:cs[o]? with
   |none=>simp only;rw[hc];rfl
   |some u=>simp only;rw[aat (ZD.1 hc).1];exact eq u
def sN{O:AS}{r r':Root}(h:r'≠r):(O.lay r).own r'=O.own r':=by
 cases r with
 |s t=>
  cases r' with
  |c k o=>rfl
  |s t'=>
   have hne:t'≠t:=fun e=>h (by rw[e]);simp only[AS.own,AS.lay];cases hl:Go.Proofs.Ytlhjbhgkhpbnfaa.look O.t t with
   |none=>rfl
   |some u=>simp only[ae];rw[ZH hne]
 |c k o=>
  cases r' with
  |s t=>rfl
  |c k' o'=>
   simp only[AS.own,AS.lay];cases hl:Go.Proofs.Ytlhjbhgkhpbnfaa.look O.h k with
   |none=>rfl
   |some cs=>
    simp only[ae];by_cases hk:k'=k
    ·subst hk;rw[ZI rfl,hl];simp only;cases hc:cs[o]? with
     |none=>rfl
     |some u=>simp only;rw[aaB (fun e=>h (by rw[e]))]
    ·rw[ZH hk]
theorem SimE.lay{F:Nat->Prop}{X:GW}{O:AS}{tm:Array Value}(h:SimE F X O tm)(r:Root):SimE F X (O.lay r) tm:=by
 refine⟨h.toSim.reown (by cases r<;> rfl) (fun t u hu=> ?_) (fun k cs hk=> ?_) (by cases r<;> exact h.eqs) id (fun r' sz l ho=>.inr ⟨?_,rfl⟩) (fun r1 r2 hne _ _=>hne),by cases r<;> exact h.eqm⟩
 ·cases r with
  |c k o=>exact h.slot t u hu
  |s t'=>
   simp only[AS.lay] at hu;cases hl:Go.Proofs.Ytlhjbhgkhpbnfaa.look O.t t' with
   |none=>rw[hl] at hu;exact h.slot t u hu
   |some u0=>
    rw[hl] at hu;simp only[ae] at hu;split at hu
    ·rename_i e;subst e;cases hu;exact(h.slot t u0 hl).rd
    ·exact h.slot t u hu
 ·cases r with
  |s t=>exact h.box k cs hk
  |c k' o=>
   simp only[AS.lay] at hk;cases hl:Go.Proofs.Ytlhjbhgkhpbnfaa.look O.h k' with
   |none=>rw[hl] at hk;exact h.box k cs hk
   |some cs0=>
    rw[hl] at hk;simp only[ae] at hk;split at hk
    ·rename_i e;subst e;cases hk;rcases h.box k cs0 hl with ⟨_,b1,b2,arr,e,fr,b3,b4,b5,b6⟩| ⟨l,rfl,hmk⟩
     case inr=>
      cases o with
      |zero=>exact .inr ⟨l,rfl,hmk⟩
      |succ o=>exact .inr ⟨l,rfl,hmk⟩
     cases hc:cs0[o]? with
     |none=>exact ef.box ⟨b1,b2,arr,e,fr,b3,b4,b5,b6⟩
     |some u0=>
      refine ef.box ⟨b1,b2,arr,e,fr,b3,by simpa using b4,b5,fun o' u x hu hx=> ?_⟩;simp only at hu;by_cases ho:o'=o
      ·subst ho;rw[aat (ZD.1 hc).1] at hu;cases hu;exact(b6 o' u0 x hc hx).rd
      ·rw[aaB (fun e=>ho e.symm)] at hu;exact b6 o' u x hu hx
    ·exact h.box k cs hk
 ·by_cases e:r'=r
  ·subst e;rw[lH] at ho;cases ho
  ·rw[sN e] at ho;exact ho
def AS.hand(O:AS)(x:Nat)(r:Root):AS:=
 match O.own r with
 |some (sz,l)=>{ n:=O.n,t:=(x,.sl true sz l)::(O.lay r).t,h:=(O.lay r).h,e:=O.e.filterMap fun p=>if p.1==x then none else if p.2=r then some (p.1,.s x) else if p.2.in x then none else some p }
 |none=>O
def Ad{O:AS}{x sz:Nat}{l:List (List AV)}{T:List (Nat × AV)}{H:List (Nat × List AV)}{e:List (Nat × Root)}:AS.own { n:=O.n,t:=(x,.sl true sz l)::T,h:=H,e:=e } (.s x)=some (sz,l):=by simp[AS.own,ae,de]
theorem SimE.hand{F:Nat->Prop}{X:GW}{O:AS}{tm:Array Value}(h:SimE F X O tm){x:Nat}{r:Root}(hr:rootV tm X.w r=some (tm.getD x undef)):SimE F X (O.hand x r) tm:=by
 unfold AS.hand;cases ho:O.own r with
 |none=>exact h
 |some q=>
  obtain⟨sz,l⟩:=q;simp only;have hl:=h.lay r;have hrel:Rel X (.sl true sz l) (tm.getD x undef):=by
   cases r with
   |s t=>
    simp only[AS.own] at ho;cases hlk:look O.t t with
    |none=>rw[hlk] at ho;cases ho
    |some u=>
     rw[hlk] at ho;have h1:=h.slot t u hlk;simp only[rootV,Option.some.injEq] at hr;rw[hr] at h1;cases u with
     |sl o sz' l'=>cases o<;> simp[de] at ho;obtain⟨rfl,rfl⟩:=ho;exact h1
     |_=>simp[de] at ho
   |c k o=>
    simp only[AS.own] at ho;cases hlk:look O.h k with
    |none=>rw[hlk] at ho;cases ho
    |some cs=>
     rw[hlk] at ho;simp only at ho;obtain⟨b1,b2,arr,e,fr,b3,b4,b5,b6⟩:=(h.box k cs hlk).own ho;cases hc:cs[o]? with
     |none=>rw[hc] at ho;cases ho
     |some u=>
      rw[hc] at ho;simp only[rootV,World.cell?,b3] at hr;have h1:=b6 o u (tm.getD x undef) hc (by simpa using hr);cases u with
      |sl o sz' l'=>cases o<;> simp[de] at ho;obtain⟨rfl,rfl⟩:=ho;exact h1
      |_=>simp[de] at ho
  refine⟨h.toSim.reown rfl (fun t u hu=> ?_) (fun k cs hk=>hl.box k cs hk) ?_ (fun r'=>if r'=.s x then r else r') (fun r' sz' l' ho'=>.inr ?_) (fun r1 r2 hne h1 h2=> ?_),?_⟩
  ·simp only[ae] at hu;split at hu
   ·rename_i e;subst e;cases hu;exact hrel
   ·exact hl.slot t u hu
  ·refine kQ.look ?_;intro p hp;obtain⟨q',hq,hq2⟩:=abw.1 hp;split at hq2
   ·cases hq2
   ·split at hq2
    ·rename_i e2;rw[<- ZZ hq2];have:=h.eqm q' hq;rw[e2,hr] at this;exact this
    ·split at hq2
     ·cases hq2
     ·rw[<- ZZ hq2];exact h.eqm q' hq
  ·by_cases e:r'=.s x
   ·subst e;rw[ZI rfl];rw[Ad] at ho';cases ho';exact⟨ho,by rw[hr];rfl⟩
   ·rw[ZH e];refine⟨?_,rfl⟩;have h1:(O.lay r).own r'=some (sz',l'):=by
     cases r' with
     |s t=>have hne:t≠x:=fun e2=>e (by rw[e2]);simp only[AS.own,ae] at ho' ⊢;rw[ZH hne] at ho';exact ho'
     |c k o=>exact ho'
    by_cases e2:r'=r
    ·subst e2;rw[lH] at h1;cases h1
    ·rw[sN e2] at h1;exact h1
  ·have noR:∀q,q≠.s x->AS.own { n:=O.n,t:=(x,.sl true sz l)::(O.lay r).t,h:=(O.lay r).h,e:=O.e.filterMap fun p=>if p.1==x then none else if p.2=r then some (p.1,.s x) else if p.2.in x then none else some p } q≠none->q≠r:=by
    intro q hq hown e;subst e;apply hown;have:AS.own { n:=O.n,t:=(x,.sl true sz l)::(O.lay q).t,h:=(O.lay q).h,e:=O.e.filterMap fun p=>if p.1==x then none else if p.2=q then some (p.1,.s x) else if p.2.in x then none else some p } q=(O.lay q).own q:=by
     cases q with
     |s t=>have hne:t≠x:=fun e2=>hq (by rw[e2]);simp only[AS.own,ae];rw[ZH hne]
     |c k o=>rfl
    rw[this];exact lH q
   by_cases e1:r1=.s x
   ·rw[ZI e1];by_cases e2:r2=.s x
    ·exact absurd (e1.trans e2.symm) hne
    ·rw[ZH e2];exact fun e=>noR r2 e2 h2 e.symm
   ·rw[ZH e1];by_cases e2:r2=.s x
    ·rw[ZI e2];exact noR r1 e1 h1
    ·rw[ZH e2];exact hne
  ·intro p hp;obtain⟨q',hq,hq2⟩:=abw.1 hp;split at hq2
   ·cases hq2
   ·split at hq2
    ·rename_i e2;rw[<- ZZ hq2];have:=h.eqm q' hq;rw[e2,hr] at this;exact this
    ·split at hq2
     ·cases hq2
     ·rw[<- ZZ hq2];exact h.eqm q' hq
def SimE.sub{F:Nat->Prop}{X:GW}{O σ':AS}{tm:Array Value}(h:SimE F X O tm)(hn:σ'.n=O.n)(ht:∀t u,look σ'.t t=some u->look O.t t=some u)(hh:∀k cs,look σ'.h k=some cs->look O.h k=some cs)(he:∀p∈σ'.e,p∈O.e):SimE F X σ' tm:=by
 have heq:kQ σ'.e tm X.w:=fun p hp=>h.eqm p (he p hp);refine⟨h.toSim.reown hn (fun t u hu=>h.slot t u (ht t u hu)) (fun k cs hk=>h.box k cs (hh k cs hk)) heq.look id (fun r sz l ho=>.inr ⟨?_,rfl⟩) (fun _ _ hne _ _=>hne),heq⟩;cases r with
 |s t=>
  simp only[AS.own] at ho;cases hlk:look σ'.t t with
  |none=>rw[hlk] at ho;cases ho
  |some u=>rw[hlk] at ho;simp only[id,AS.own];rw[ht t u hlk];exact ho
 |c k o=>
  simp only[AS.own] at ho;cases hlk:look σ'.h k with
  |none=>rw[hlk] at ho;cases ho
  |some u=>rw[hlk] at ho;simp only[id,AS.own];rw[hh k u hlk];exact ho
def AS.save(K:List Nat):List (Nat × Root)->AS->AS
 | [],O=>O
 | (x,r)::es,O=>AS.save K es (if K.contains x then(match r with|.s t=>if K.contains t then O else O.hand x r|.c _ _=>O) else O)
theorem SimE.save{F:Nat->Prop}{X:GW}{tm:Array Value}(K:List Nat):∀ (es:List (Nat × Root)) (O:AS),SimE F X O tm->kQ es tm X.w->SimE F X (O.save K es) tm
 | [],O,h,_=>h
 | (x,r)::es,O,h,he=>by
   refine SimE.save K es _ ?_ (fun p hp=>he p (ZM _ hp));have h1:=he (x,r) ZP;split
   ·cases r with
    |s t=>
     simp only;split
     ·exact h
     ·exact h.hand h1
    |c k o=>exact h
   ·exact h
def AM(T:List (Nat × AV)):List Nat->List (Nat × AV)
 | [] =>[]
 |k::ks=>match look T k with|some u=>(k,u)::AM T ks|none=>AM T ks
def s7{T:List (Nat × AV)}:∀ {K:List Nat} {t:Nat} {u:AV},look (AM T K) t=some u->look T t=some u
 | [],_,_,h=>by cases h
 |k::ks,t,u,h=>by
  simp only[AM] at h;cases hl:look T k with
  |none=>rw[hl] at h;exact s7 h
  |some u0=>
   rw[hl] at h;simp only[ae] at h;split at h
   ·rename_i e;subst e;rw[hl];exact h
   ·exact s7 h
def Root.keepB(K:List Nat):Root->Bool
 |.s t=>K.contains t
 |.c _ _=>true
def AS.keep(K:List Nat)(O:AS):AS:=
 { n:=O.n,t:=AM (O.save K O.e).t K,h:=(O.save K O.e).h,e:=(O.save K O.e).e.filter fun p=>K.contains p.1 && p.2.keepB K }
theorem N0(O:AS)(x:Nat)(r:Root):(O.hand x r).n=O.n:=by unfold AS.hand;split<;> rfl
def O4(K:List Nat):∀ (es:List (Nat × Root)) (O:AS),(O.save K es).n=O.n
 | [],_=>rfl
 | (x,r)::es,O=>by
   simp only[AS.save];rw[O4 K es];split
   ·cases r with
    |s t=>simp only;split<;> simp[N0]
    |c k o=>rfl
   ·rfl
theorem SimE.keep{F:Nat->Prop}{X:GW}{O:AS}{tm:Array Value}(h:SimE F X O tm)(K:List Nat):SimE F X (O.keep K) tm:=
 (SimE.save K O.e O h h.eqm).sub (O4 K O.e O).symm (fun _ _ hu=>s7 hu) (fun _ _ hk=>hk) (fun _ hp=>(Z2.1 hp).1)
inductive Le1:AV->AV->Prop
 |refl (u:AV):Le1 u u
 |rd (o:Bool) (sz:Nat) (l:List (List AV)):Le1 (.sl o sz l) (.sl false sz l)
 |nil (o:Bool) (sz:Nat):Le1 (.v (.slice none 0 0)) (.sl o sz [])
def Le1.rel{X:GW}{u u':AV}{x:Value}(h:Le1 u u')(hr:Rel X u x):Rel X u' x:=by
 cases h with
 |refl=>exact hr
 |rd=>exact hr.own
 |nil=>cases hr;exact .nil _ _
def LeT(T:List (Nat × AV)):List (Nat × AV)->Prop
 | [] =>True
 | (k,u')::r=>(∃u,look T k=some u/\Le1 u u')/\LeT T r
theorem LeT.look{T:List (Nat × AV)}:∀ {T':List (Nat × AV)},LeT T T'->∀t u',look T' t=some u'->∃u,look T t=some u/\Le1 u u'
 | [],_,_,_,h=>by cases h
 | (k,u0)::r,h,t,u',hl=>by
   simp only[ae] at hl;split at hl
   ·rename_i e;subst e;cases hl;exact h.1
   ·exact LeT.look h.2 t u' hl
inductive LeL:List AV->List AV->Prop
 |nil:LeL [] []
 |cons {u u':AV} {r r':List AV}:Le1 u u'->LeL r r'->LeL (u::r) (u'::r')
theorem LeL.refl:∀l,LeL l l
 | [] =>.nil
 |u::r=>.cons (.refl u) (LeL.refl r)
def LeL.length{l l':List AV}(h:LeL l l'):l.length=l'.length:=by induction h<;> simp_all
def LeL.get{l l':List AV}(h:LeL l l'):∀ (i:Nat) u',l'[i]? =some u'->∃u,l[i]? =some u/\Le1 u u':=by
 induction h with
 |nil=>intro i u' h;simp at h
 |cons hu _ ih=>
  intro i u' h;cases i with
  |zero=>simp at h;subst h;exact⟨_,by simp,hu⟩
  |succ i=>simpa using ih i u' (by simpa using h)
def LeH(H:List (Nat × List AV)):List (Nat × List AV)->Prop
 | [] =>True
 | (k,cs')::r=>(∃cs,look H k=some cs/\LeL cs cs')/\LeH H r
theorem LeH.look{H:List (Nat × List AV)}:∀ {H':List (Nat × List AV)},LeH H H'->∀t u',look H' t=some u'->∃u,look H t=some u/\LeL u u'
 | [],_,_,_,h=>by cases h
 | (k,u0)::r,h,t,u',hl=>by
   simp only[ae] at hl;split at hl
   ·rename_i e;subst e;cases hl;exact h.1
   ·exact LeH.look h.2 t u' hl
structure Le (O σ':AS):Prop where
 n:σ'.n=O.n
 t:LeT O.t σ'.t
 h:LeH O.h σ'.h
 e:σ'.e=[]
theorem Le1.own{u u':AV}(h:Le1 u u'){sz l}(ho:de (some u')=some (sz,l)):de (some u)=some (sz,l)\/(u=.v (.slice none 0 0)/\l=[]):=by
 cases h with
 |refl=>exact .inl ho
 |rd=>cases ho
 |nil o=>cases o<;> simp[de] at ho;exact .inr ⟨rfl,ho.2⟩
def SimE.le{F:Nat->Prop}{X:GW}{O σ':AS}{tm:Array Value}(h:SimE F X O tm)(hle:Le O σ'):SimE F X σ' tm:=by
 have heq:kQ σ'.e tm X.w:=by rw[hle.e];intro p hp;cases hp
 refine⟨h.toSim.reown hle.n (fun t u hu=> ?_) (fun k cs hk=> ?_) heq.look id (fun r sz l ho=> ?_) (fun _ _ hne _ _=>hne),heq⟩
 ·obtain⟨u0,h1,h2⟩:=hle.t.look t u hu;exact h2.rel (h.slot t u0 h1)
 ·obtain⟨cs0,h1,h2⟩:=hle.h.look k cs hk;rcases h.box k cs0 h1 with ⟨_,b1,b2,arr,e,fr,b3,b4,b5,b6⟩| ⟨l,rfl,hmk⟩
  case inr=>
   cases h2 with
   |cons hu hr=>cases hr;cases hu;exact .inr ⟨l,rfl,hmk⟩
  refine ef.box ⟨b1,b2,arr,e,fr,b3,by rw[b4];exact h2.length,b5,fun o u x hu hx=> ?_⟩;obtain⟨u0,k1,k2⟩:=h2.get o u hu;exact k2.rel (b6 o u0 x k1 hx)
 ·cases r with
  |s t=>
   simp only[AS.own] at ho;cases hlk:look σ'.t t with
   |none=>rw[hlk] at ho;cases ho
   |some u=>
    rw[hlk] at ho;obtain⟨u0,h1,h2⟩:=hle.t.look t u hlk;rcases h2.own ho with h3| ⟨h3,h4⟩
    ·right;simp only[id,AS.own];rw[h1];exact⟨h3,trivial⟩
    ·left;subst h3;have:=h.slot t _ h1;refine⟨?_,h4⟩;simp only[rootV];generalize tm.getD t undef=y at this;cases this;rfl
  |c k o=>
   simp only[AS.own] at ho;cases hlk:look σ'.h k with
   |none=>rw[hlk] at ho;cases ho
   |some cs=>
    rw[hlk] at ho;simp only at ho;obtain⟨cs0,h1,h2⟩:=hle.h.look k cs hlk;cases hc:cs[o]? with
    |none=>rw[hc] at ho;cases ho
    |some u=>
     rw[hc] at ho;obtain⟨u0,k1,k2⟩:=h2.get o u hc;rcases k2.own ho with h3| ⟨h3,h4⟩
     ·right;simp only[id,AS.own];rw[h1];simp only;rw[k1];exact⟨h3,trivial⟩
     ·left;subst h3;obtain⟨b1,b2,arr,e,fr,b3,b4,b5,b6⟩:=(h.box k cs0 h1).at k1 rfl;have hlt:=(ZD.1 k1).1;have hx:arr[o]? =some arr[o] :=ZV (by omega);have:=b6 o _ _ k1 hx;refine⟨?_,h4⟩;simp only[rootV,World.cell?,b3];rw[hx];generalize arr[o] =y at this;cases this;rfl
def pL(P:Program)(R:Value->World->Prop):Result Next->Prop
 |.ok (.value x) w'=>R x w'
 |.ok .skip w'=>R undef w'
 |.ok (.enter f args) w'=>Calls P f args w' fun
  |.returned x,w''=>R x w''
  |_,_=>False
 |_=>False
def jz(P:Program)(o:Oper)(a:Act)(w:World)(R:Value->World->Prop):Prop:=pL P R ((execOp a.eval o).run P w)
theorem jz.wp{P:Program}{o:Oper}{a:Act}{w:World}{R:Value->World->Prop}(h:jz P o a w R){next:Act->World->Prop}{Q:Exit->Act->World->Prop}(hn:∀x w',R x w'->next (a.put o.dst x) w'):o.wp P a w next Q:=by
 unfold jz at h;unfold Oper.wp;generalize (execOp a.eval o).run P w=r at h;cases r with
 |halt x w'=>exact h.elim
 |ok n w'=>
  cases n<;> simp only[pL] at h<;> simp only[Oper.upon]
  case value x=>exact hn _ _ h
  case skip=>exact hn _ _ h
  case enter f args=>
   refine h.mono fun e w'' he=> ?_;cases e with
   |returned x=>exact hn _ _ he
   |panicked c=>exact he.elim
   |outgrown=>exact he.elim
def jz.mono{P:Program}{o:Oper}{a:Act}{w:World}{R R':Value->World->Prop}(h:jz P o a w R)(hr:∀x w',R x w'->R' x w'):jz P o a w R':=by
 unfold jz at *;generalize (execOp a.eval o).run P w=r at *;cases r with
 |halt x w'=>exact h.elim
 |ok n w'=>
  cases n<;> simp only[pL] at *
  case value x=>exact hr _ _ h
  case skip=>exact hr _ _ h
  case enter f args=>
   refine h.mono fun e w'' he=> ?_;cases e with
   |returned x=>exact hr _ _ he
   |panicked c=>exact he.elim
   |outgrown=>exact he.elim
def cX{P:Program}{o:Oper}{a:Act}{w w':World}{x:Value}{R:Value->World->Prop}(h:(execOp a.eval o).run P w=.ok (.value x) w')(hR:R x w'):jz P o a w R:=by unfold jz;rw[h];exact hR
structure SimR (F:Nat->Prop) (X:GW) (O:AS) (o:Op) (tm:Array Value):Prop where
 gb:∀b n,X.g b=some n->b < X.w.heap.size
 fb:∀b,F b->b < X.w.heap.size
 slot:∀t u,Operand.tmp t∈o.operands.toList->look O.t t=some u->Rel X u (tm.getD t undef)
 box:∀k cs,look O.h k=some cs->eN F X k cs
theorem SimE.r{F:Nat->Prop}{X:GW}{O:AS}{tm:Array Value}(h:SimE F X O tm)(o:Op):SimR F X O o tm:=⟨h.gb,h.fb,fun t u _ hu=>h.slot t u hu,h.box⟩
def OpV(P:Program)(o:Oper)(O:AS)(u:AV):Prop:=
 ∀F X a,SimR F X O o.op a.tmps->jz P o a X.w fun x w'=>∃X':GW,X'.w=w'/\New X X'/\(∀b n,X'.g b=some n->b < X'.w.heap.size)/\Rel X' u x/\FreshOk F X.w.heap.size X' u x
def dA(F:Nat->Prop)(X:GW)(D:List Deferred)(Q:Exit->AS->Prop)(e:Exit)(a':Act)(w':World):Prop:=
 a'.defers=D/\∃ (X':GW) (σ':AS),X'.w=w'/\Q e σ'/\SimE F X' σ' a'.tmps/\Ext F X X'
def dA.ext{F:Nat->Prop}{X Y:GW}{D:List Deferred}{Q:Exit->AS->Prop}{e:Exit}{a':Act}{w':World}(h:dA F Y D Q e a' w')(hx:Ext F X Y):dA F X D Q e a' w':=
 let ⟨h1,X',σ',h2,h3,h4,h5⟩:=h
 ⟨h1,X',σ',h2,h3,h4,hx.trans h5⟩
def dA.mono{F:Nat->Prop}{X:GW}{D:List Deferred}{Q Q':Exit->AS->Prop}{e:Exit}{a':Act}{w':World}(h:dA F X D Q e a' w')(hq:∀e O,Q e O->Q' e O):dA F X D Q' e a' w':=
 let ⟨h1,X',σ',h2,h3,h4,h5⟩:=h
 ⟨h1,X',σ',h2,hq _ _ h3,h4,h5⟩
def Awp(P:Program)(c:Code)(Q:Exit->AS->Prop)(O:AS):Prop:=
 ∀F X a,SimE F X O a.tmps->∀D,a.defers=D->c.wp P (dA F X D Q) a X.w
def VY(P:Program)(l:List Oper)(k:Nat)(Q:Exit->AS->Prop)(O:AS):Prop:=
 ∀F X a,SimE F X O a.tmps->∀D,a.defers=D->wpOps P l.toArray (dA F X D Q) (List.range' k (l.length - k)) a X.w
inductive It where
 |c (c:Code)
 |b (id:Nat)
 |l (ZB:AS->Prop)
 |o (l:List Oper) (k:Nat) (rest:List Oper)
def Stk(P:Program)(Q:Exit->AS->Prop):List It->Exit->AS->Prop
 | [],e,O=>Q e O
 |.c c::ks,e,O=>match e with|.normal=>Awp P c (Stk P Q ks) O|e=>Stk P Q ks e O
 |.b id::ks,e,O=>match e with|.exit id'=>if id'=id then Stk P Q ks .normal O else Stk P Q ks (.exit id') O|e=>Stk P Q ks e O
 |.l ZB::ks,e,O=>match e with|.normal=>ZB O|e=>Stk P Q ks e O
 |.o l k _::ks,e,O=>match e with|.normal=>VY P l k (Stk P Q ks) O|e=>Stk P Q ks e O
def br(P:Program)(Q:Exit->AS->Prop)(ks:List It)(O:AS):Prop:=Stk P Q ks .normal O
section
variable {P:Program} {Q:Exit->AS->Prop} {ks:List It} {O:AS}
def Awp.mono{c:Code}{R R':Exit->AS->Prop}(h:Awp P c R O)(hq:∀e O,R e O->R' e O):Awp P c R' O:=
 fun F X a hs D hd=>wp_mono (h F X a hs D hd) fun _ _ _ hp=>hp.mono hq
def Mz(h:Q .normal O):br P Q [] O:=h
def WR{c:Code}{σ':AS}(h:br P Q (.c c::ks) σ')(hs:∀F X tm,SimE F X O tm->SimE F X σ' tm):br P Q (.c c::ks) O:=fun F X a hsim D hd=>h F X a (hs _ _ _ hsim) D hd
def Dp(h:br P Q ks O):br P Q (.c .skip::ks) O:=fun F X a hs D hd=>wp_skip ⟨hd,X,O,rfl,h,hs,Ext.refl F X⟩
def Ry{l:Nat}(h:br P Q ks O):br P Q (.c (.label l)::ks) O:=fun F X a hs D hd=>wp_label ⟨hd,X,O,rfl,h,hs,Ext.refl F X⟩
def V8(h:Stk P Q ks .ret O):br P Q (.c .ret::ks) O:=fun F X a hs D hd=>wp_ret ⟨hd,X,O,rfl,h,hs,Ext.refl F X⟩
def RT{id:Nat}(h:Stk P Q ks (.exit id) O):br P Q (.c (.exit id)::ks) O:=fun F X a hs D hd=>wp_exit ⟨hd,X,O,rfl,h,hs,Ext.refl F X⟩
def yU{x y:Code}(h:br P Q (.c x::.c y::ks) O):br P Q (.c (.seq x y)::ks) O:=by
 intro F X a hs D hd;refine wp_seq (wp_mono (h F X a hs D hd) fun e a' w' hp=> ?_);obtain⟨h1,X',σ',h2,h3,h4,h5⟩:=hp;cases e with
 |normal=>subst h2;exact wp_mono (h3 F X' a' h4 D h1) fun e2 a2 w2 hp2=>hp2.ext h5
 |_=>exact⟨h1,X',σ',h2,h3,h4,h5⟩
def M0{id:Nat}{c:Code}(h:br P Q (.c c::.b id::ks) O):br P Q (.c (.block id c)::ks) O:=by
 intro F X a hs D hd;refine wp_block (wp_mono (h F X a hs D hd) fun e a' w' hp=> ?_);obtain⟨h1,X',σ',h2,h3,h4,h5⟩:=hp;cases e with
 |exit id'=>
  simp only[Exit.inBlock];by_cases e:id'=id
  ·subst e;simp only[Stk,if_true] at h3 ⊢;exact⟨h1,X',σ',h2,h3,h4,h5⟩
  ·simp only[Stk,if_neg e] at h3 ⊢;exact⟨h1,X',σ',h2,h3,h4,h5⟩
 |_=>exact⟨h1,X',σ',h2,h3,h4,h5⟩
def Ww{id:Nat}(h:br P Q ks O):br P Q (.b id::ks) O:=h
def Nw{F:Nat->Prop}{X:GW}{a:Act}(hs:SimE F X O a.tmps){t:Nat}{u:AV}(h:look O.t t=some u):Rel X u (a.eval (.tmp t)):=hs.slot t u h
def IT{t:Nat}{b:Bool}{x y:Code}(hc:look O.t t=some (.v (.bool b)))(h:br P Q (.c (if b then x else y)::ks) O):br P Q (.c (.cond (.tmp t) x y)::ks) O:=by
 intro F X a hs D hd;have h1:=Nw hs hc;have h2:a.eval (.tmp t)=.bool b:=by generalize a.eval (.tmp t)=z at h1;cases h1;rfl
 exact wp_cond h2 (h F X a hs D hd)
def pb{t:Nat}{b:Bool}{x y:Code}(hc:look O.t t=some (.v (.bool b)))(hb:b=true)(h:br P Q (.c x::ks) O):br P Q (.c (.cond (.tmp t) x y)::ks) O:=IT hc (by subst hb;exact h)
def kE{t:Nat}{b:Bool}{x y:Code}(hc:look O.t t=some (.v (.bool b)))(hb:b=false)(h:br P Q (.c y::ks) O):br P Q (.c (.cond (.tmp t) x y)::ks) O:=IT hc (by subst hb;exact h)
def ot{id:Nat}{l:List Oper}(h:br P Q (.o l 0 l::ks) O):br P Q (.c (.region id l.toArray false)::ks) O:=by intro F X a hs D hd;refine wp_region ?_;have:=h F X a hs D hd;rw[aaX,<- abs] at this;simpa using this
def xY{l:List Oper}{k:Nat}(hk:k=l.length)(h:br P Q ks O):br P Q (.o l k [] ::ks) O:=by intro F X a hs D hd;subst hk;rw[aau];exact⟨hd,X,O,rfl,h,hs,Ext.refl F X⟩
def cb(l:List Oper)(O:AS)(o:Oper):Option Bool:=
 match o.guard with
 |none=>some true
 |some (j,want)=>match(l[j]?).bind (·.dst) with
  |some d=>if d < O.n then(match look O.t d with|some (.v (.bool b))=>some (b==want)|_=>none) else none
  |none=>none
def kv{l:List Oper}{o:Oper}{b:Bool}{F:Nat->Prop}{X:GW}{tm:Array Value}(hs:SimE F X O tm)(h:cb l O o=some b):Region.wanted o (yielded l.toArray tm)=b:=by
 unfold cb at h;unfold Region.wanted;cases hg:o.guard with
 |none=>rw[hg] at h;cases h;rfl
 |some p=>
  obtain⟨j,want⟩:=p;rw[hg] at h;simp only at h ⊢;cases hj:(l[j]?).bind (·.dst) with
  |none=>rw[hj] at h;cases h
  |some d=>
   rw[hj] at h;simp only at h;split at h
   ·rename_i hd;cases hlk:look O.t d with
    |none=>rw[hlk] at h;cases h
    |some u=>
     rw[hlk] at h;have hr:=hs.slot d u hlk;have hd':d < tm.size:=by rw[hs.size];exact hd
     have hy:yielded l.toArray tm j=match tm.getD d undef with|.bool b=>some b|_=>none:=by
      unfold yielded;have:((l.toArray)[j]?).bind (·.dst)=some d:=by simpa using hj
      rw[this];simp[hd'];cases tm[d] <;> rfl
     rw[hy];cases u with
     |v x=>
      cases x with
      |bool b'=>simp only[Option.some.injEq] at h;generalize tm.getD d undef=z at hr;cases hr;subst h;cases b'<;> cases want<;> rfl
      |_=>cases h
     |_=>cases h
   ·cases h
def fH(l:List Oper)(O:AS)(o:Oper):Bool:=
 match o.guard with
 |none=>false
 |some (j,_)=>match(l[j]?).bind (·.dst) with
  |some d=>(match look O.t d with|some (.v (.tuple _))=>decide (d < O.n)|_=>false)
  |none=>false
def ye{l:List Oper}{O:AS}{o:Oper}{F:Nat->Prop}{X:GW}{tm:Array Value}(hs:SimE F X O tm)(h:fH l O o=true):Region.wanted o (yielded l.toArray tm)=false:=by
 unfold fH at h;unfold Region.wanted;cases hg:o.guard with
 |none=>rw[hg] at h;cases h
 |some p=>
  obtain⟨j,want⟩:=p;rw[hg] at h;simp only at h ⊢;cases hj:(l[j]?).bind (·.dst) with
  |none=>rw[hj] at h;cases h
  |some d=>
   rw[hj] at h;simp only at h;split at h
   ·rename_i c0 hlk;have hd:=aaV h;have hr:=hs.slot d _ hlk;have hd':d < tm.size:=by rw[hs.size];exact hd
    have hv:tm.getD d undef=.tuple c0:=by generalize tm.getD d undef=z at hr;cases hr;rfl
    have hy:yielded l.toArray tm j=none:=by
     unfold yielded;have:((l.toArray)[j]?).bind (·.dst)=some d:=by simpa using hj
     rw[this];simp[hd'] at hv ⊢;rw[hv]
    rw[hy];rfl
   ·cases h
def o8(l:List Oper)(O:AS)(o:Oper):Prop:=cb l O o=some false\/fH l O o=true
def tw{l:List Oper}{O:AS}{o:Oper}{F:Nat->Prop}{X:GW}{tm:Array Value}(hs:SimE F X O tm)(h:o8 l O o):Region.wanted o (yielded l.toArray tm)=false:=by
 rcases h with h|h
 ·exact kv hs h
 ·exact ye hs h
def sI{l:List Oper}{O:AS}{o:Oper}(h:o8 l O o):o.guard≠none:=fun hg=>by
 rcases h with h|h
 ·unfold cb at h;rw[hg] at h;cases h
 ·unfold fH at h;rw[hg] at h;cases h
def kP{k n:Nat}(h:k < n):List.range' k (n - k)=k::List.range' (k+1) (n - (k+1)):=by
 obtain⟨m,rfl⟩:∃m,n=k+ (m+1):=⟨n - k - 1,by omega⟩
 rw[show k+ (m+1) - k=m+1 by omega,show k+ (m+1) - (k+1)=m by omega];rfl
def v6{o:Oper}{a:Act}{next next':Act->World->Prop}{R R':Exit->Act->World->Prop}{r:Result Next}(hn:∀a w,next a w->next' a w)(hR:∀e a w,R e a w->R' e a w)(h:o.upon P a next R r):o.upon P a next' R' r:=by
 cases r with
 |halt x w=>cases x<;> simp only[Oper.upon] at h ⊢ <;> exact hR _ _ _ h
 |ok n w=>
  cases n<;> simp only[Oper.upon] at h ⊢
  case value x=>exact hn _ _ h
  case skip=>exact hn _ _ h
  case defer d=>exact hn _ _ h
  case row r args=>exact h.mono fun v w' hv=>hn _ _ hv
  case enter f args=>
   refine h.mono fun e w' he=> ?_;cases e with
   |returned v=>exact hn _ _ he
   |panicked c=>exact hR _ _ _ he
   |outgrown=>obtain⟨a0,w0,h0⟩:=he;exact⟨a0,w0,hR _ _ _ h0⟩
def ij{ops:Array Oper}{R R':Exit->Act->World->Prop}(hR:∀e a w,R e a w->R' e a w):∀ (l:List Nat) (a:Act) (w:World),wpOps P ops R l a w->wpOps P ops R' l a w
 | [],a,w,h=>hR _ _ _ h
 |i::rest,a,w,h=>by
  simp only[wpOps] at h ⊢;cases ho:ops[i]? with
  |none=>rw[ho] at h;exact ij hR rest a w h
  |some o=>
   rw[ho] at h;simp only at h ⊢;split
   ·rename_i hw;rw[ZI hw] at h;rcases h with h| ⟨h,a0,w0,h0⟩
    ·exact .inl (v6 (fun a w h=>ij hR rest a w h) hR h)
    ·exact .inr ⟨h,a0,w0,hR _ _ _ h0⟩
   ·rename_i hw;rw[ZH hw] at h;exact ij hR rest _ w h
def dM(P:Program)(o:Oper)(O:AS)(R:AS->Prop):Prop:=
 ∀F X a,SimE F X O a.tmps->jz P o a X.w fun x w'=>∃ (X':GW) (σ':AS),X'.w=w'/\R σ'/\SimE F X' σ' (a.put o.dst x).tmps/\Ext F X X'
def eG(a:Act)(d:Option Tmp)(x:Value):(a.put d x).defers=a.defers:=by cases d<;> rfl
def l7{l:List Oper}{k:Nat}{o:Oper}{rest:List Oper}(ho:l[k]? =some o)(hw:cb l O o=some true)(h:dM P o O (fun σ'=>br P Q (.o l (k+1) rest::ks) σ')):br P Q (.o l k (o::rest)::ks) O:=by
 intro F X a hs D hd;have hk:k < l.length:=(ZD.1 ho).1;rw[kP hk];have ho':(l.toArray)[k]? =some o:=by simpa using ho
 simp only[wpOps,ho'];rw[ZI (kv hs hw)];left;refine(h F X a hs).wp fun x w' hx=> ?_;obtain⟨X',σ',h1,h2,h3,h4⟩:=hx;subst h1;exact ij (fun _ _ _ hp=>hp.ext h4) _ _ _ (h2 F X' (a.put o.dst x) h3 D (by rw[eG];exact hd))
end
structure Tys (P:Program) where
 ty:List (Nat × TypeDesc)
 sz:List (Nat × (Nat × Nat))
 zr:List (Nat × Value)
 tyOk:∀t d,look ty t=some d->P.underlying t=some d
 szOk:∀t s b,look sz t=some (s,b)->∃i,P.info? t=some i/\i.size=s/\i.bytes=b/\∃z,i.zero=some z/\z.cells.size=s
 zrOk:∀t z,look zr t=some z->∃i,P.info? t=some i/\i.zero=some z
def cst:Value->AV
 |.agg xs=>.ag (xs.toList.map .v)
 |.tuple xs=>.tu (xs.toList.map .v)
 |x=>.v x
def o7(X:GW)(x:Value):Rel X (cst x) x:=by
 cases x with
 |agg xs=>exact .ag _ xs (by simp) (fun i u y hu hy=>by simp only[List.getElem?_map,Option.map_eq_some_iff] at hu;obtain⟨z,hz,rfl⟩:=hu;have:some z=some y:=hz.symm.trans (by simpa using hy);cases this;exact .v _)
 |tuple xs=>exact .tu _ xs (by simp) (fun i u y hu hy=>by simp only[List.getElem?_map,Option.map_eq_some_iff] at hu;obtain⟨z,hz,rfl⟩:=hu;have:some z=some y:=hz.symm.trans (by simpa using hy);cases this;exact .v _)
 |_=>exact .v _
def opV(O:AS):Operand->Option AV
 |.tmp t=>look O.t t
 |.const v=>some (cst v)
 |.func f=>some (.v (.func (.func f) #[] #[]))
 |.global g=>some (.v (.pointer (some ⟨g,0,none⟩)))
section
variable {P:Program} {Q:Exit->AS->Prop} {ks:List It} {O:AS} {F:Nat->Prop} {X:GW} {a:Act} {o:Op}
def cO{x:Operand}{u:AV}(hs:SimR F X O o a.tmps)(hm:x∈o.operands.toList)(h:opV O x=some u):Rel X u (a.eval x):=by
 cases x with
 |tmp t=>exact hs.slot t u hm h
 |const v=>cases h;exact o7 X v
 |func f=>cases h;exact .v _
 |global g=>cases h;exact .v _
def cE{x y:Value}(h:Rel X (.v x) y):y=x:=by cases h;rfl
def aZ{x:Operand}{v:Value}(hs:SimR F X O o a.tmps)(hm:x∈o.operands.toList)(h:opV O x=some (.v v)):a.eval x=v:=cE (cO hs hm h)
def aQ{o:Oper}{u:AV}(hp:u.plain)(h:∀F X (a:Act),SimR F X O o.op a.tmps->∃x,(execOp a.eval o).run P X.w=.ok (.value x) X.w/\Rel X u x):OpV P o O u:=by intro F X a hs;obtain⟨x,h1,h2⟩:=h F X a hs;exact cX h1 ⟨X,rfl,New.refl X,hs.gb,h2,FreshOk.plain hp⟩
def j8(d:Nat):List (Nat × Root)->Option Nat
 | [] =>none
 | (x,.s t)::r=>match Nat.beq t d,Nat.beq x d with|true,false=>some x|_,_=>j8 d r
 | (_,.c _ _)::r=>j8 d r
def qh{d:Nat}:∀ {e:List (Nat × Root)} {x:Nat},j8 d e=some x->(x,.s d)∈e
 | [],_,h=>by cases h
 | (x0,.s t)::r,x,h=>by
   simp only[j8] at h;split at h
   ·rename_i h1 h2;cases h;rw[ZK h1];exact ZP
   ·exact ZM _ (qh h)
 | (_,.c _ _)::r,x,h=>ZM _ (qh (by simpa only[j8] using h))
def AS.free(O:AS)(d:Nat):AS:=match j8 d O.e with|some x=>O.hand x (.s d)|none=>O
theorem SimE.free{tm:Array Value}(h:SimE F X O tm)(d:Nat):SimE F X (O.free d) tm:=by
 unfold AS.free;cases hf:j8 d O.e with
 |none=>exact h
 |some x=>exact h.hand (h.eqm _ (qh hf))
def W2(O:AS)(d:Nat):(O.free d).n=O.n:=by unfold AS.free;split<;> simp[N0]
def bJ{m n:Nat}(h:Nat.ble (m+1) n=true):m < n:=ZS h
def fP(s:ByteArray):List UInt8:=s.data.toList
theorem qL(l:List UInt8):fP (mkB l)=l:=rfl
theorem G3(s:ByteArray):mkB (fP s)=s:=rfl
def Ys(op:BinOp)(a b:Int):Option Value:=
 match op with
 |.eql=>some (.bool (a==b))
 |.neq=>some (.bool (a != b))
 |.lss=>some (.bool (decide (a < b)))
 |.leq=>some (.bool (decide (a<=b)))
 |.gtr=>some (.bool (decide (a > b)))
 |.geq=>some (.bool (decide (a>=b)))
 |_=>none
def arV(op:BinOp)(k:IntKind)(a b:Int):Option Value:=
 match op with
 |.add=>some (.int k (k.wrap (a+b)))
 |.sub=>some (.int k (k.wrap (a - b)))
 |.mul=>some (.int k (k.wrap (a * b)))
 |.and=>some (.int k (bits .and k a b))
 |.or=>some (.int k (bits .or k a b))
 |.xor=>some (.int k (bits .xor k a b))
 |op=>Ys op a b
def YX(op:BinOp)(a b:List UInt8):Option Value:=
 match op with
 |.eql=>some (.bool (decide (a=b)))
 |.neq=>some (.bool (!decide (a=b)))
 |.lss=>some (.bool (Op.bytesLess a b))
 |.leq=>some (.bool (Op.bytesLess a b || decide (a=b)))
 |.gtr=>some (.bool (!(Op.bytesLess a b || decide (a=b))))
 |.geq=>some (.bool (!Op.bytesLess a b))
 |_=>none
def bd{s:Sem Value}{x:Value}{w w':World}(h:s.run P w=.ok x w'):(do pure (Next.value (<- s)):Sem Next).run P w=.ok (.value x) w':=by simp[h,go_sem]
def EQ(op:BinOp)(t:TypeId)(xo yo:Operand)(k:IntKind)(a b:Int)(v:Value)(w:World)(h:arV op k a b=some v):
  (do eqGuard op t xo yo (.int k a) (.int k b);binOp op t (.int k a) (.int k b):Sem Value).run P w=.ok v w:=by
 cases op<;> simp[arV,Ys] at h<;> subst h<;> simp[eqGuard,binOp,Op.intArith,Op.intCmp,Op.intBits,bits,go_sem]
def fR{d:Option Tmp}{op:BinOp}{t yt ty:TypeId}{x y:Operand}{pos:String}{af:Array Edge}{g:Option (Nat × Bool)}{k:IntKind}{a b:Int}{v:Value}
  (hx:opV O x=some (.v (.int k a))) (hy:opV O y=some (.v (.int k b))) (hr:arV op k a b=some v):OpV P ⟨d,.binOp op t x y yt,ty,pos,af,g⟩ O (.v v):=by
 refine aQ rfl fun F X ac hs=>⟨v,?_,.v _⟩
 have h1:=aZ hs (by simp[Op.operands]) hx;have h2:=aZ hs (by simp[Op.operands]) hy;have h3:=EQ (P:=P) op t x y k a b v X.w hr;simp only[execOp,h1,h2];exact bd h3
end
section
variable {P:Program} {O:AS} {d:Option Tmp} {t yt ty:TypeId} {x y z:Operand} {pos:String} {af:Array Edge} {g:Option (Nat × Bool)}
theorem vg(s:ByteArray):s.toList=fP s:=by rw[ByteArray.toList_eq];rfl
theorem gX(s:ByteArray):s.size=(fP s).length:=(DN s).symm
theorem FL(s:ByteArray)(i j:Nat):s.extract i j=mkB (((fP s).take j).drop i):=by apply ByteArray.ext;rw[ByteArray.data_extract];apply Array.ext';simp only[mkB,fP,Array.toList_extract,List.extract_eq_take_drop,List.drop_take]
def Kb{op:BinOp}{k yk:IntKind}{a b:Int}(hx:opV O x=some (.v (.int k a)))(hy:opV O y=some (.v (.int yk b)))(hop:op=.shl)(hb:0<=b):
  OpV P ⟨d,.binOp op t x y yt,ty,pos,af,g⟩ O (.v (.int k (k.wrap (a * 2 ^ (min b.toNat k.bits))))):=by
 subst hop;refine aQ rfl fun F X ac hs=>⟨_,?_,.v _⟩
 have h1:=aZ hs (by simp[Op.operands]) hx;have h2:=aZ hs (by simp[Op.operands]) hy;simp only[execOp,h1,h2];refine bd ?_;simp[eqGuard,binOp,Op.shift,Int.not_lt.2 hb]
def C4{op:BinOp}{k yk:IntKind}{a b:Int}(hx:opV O x=some (.v (.int k a)))(hy:opV O y=some (.v (.int yk b)))(hop:op=.shr)(hb:0<=b):
  OpV P ⟨d,.binOp op t x y yt,ty,pos,af,g⟩ O (.v (.int k (a.fdiv (2 ^ (min b.toNat k.bits))))):=by
 subst hop;refine aQ rfl fun F X ac hs=>⟨_,?_,.v _⟩
 have h1:=aZ hs (by simp[Op.operands]) hx;have h2:=aZ hs (by simp[Op.operands]) hy;simp only[execOp,h1,h2];refine bd ?_;simp[eqGuard,binOp,Op.shift,Int.not_lt.2 hb]
def CJ{op:BinOp}{k:IntKind}{a b:Int}(hx:opV O x=some (.v (.int k a)))(hy:opV O y=some (.v (.int k b)))(hop:op=.quo)(hb:b≠0):
  OpV P ⟨d,.binOp op t x y yt,ty,pos,af,g⟩ O (.v (.int k (k.wrap (a.tdiv b)))):=by
 subst hop;refine aQ rfl fun F X ac hs=>⟨_,?_,.v _⟩
 have h1:=aZ hs (by simp[Op.operands]) hx;have h2:=aZ hs (by simp[Op.operands]) hy;simp only[execOp,h1,h2];refine bd ?_;simp[eqGuard,binOp,Op.intDiv,hb]
def Ei{op:BinOp}{k:IntKind}{a b:Int}(hx:opV O x=some (.v (.int k a)))(hy:opV O y=some (.v (.int k b)))(hop:op=.rem)(hb:b≠0):
  OpV P ⟨d,.binOp op t x y yt,ty,pos,af,g⟩ O (.v (.int k (a.tmod b))):=by
 subst hop;refine aQ rfl fun F X ac hs=>⟨_,?_,.v _⟩
 have h1:=aZ hs (by simp[Op.operands]) hx;have h2:=aZ hs (by simp[Op.operands]) hy;simp only[execOp,h1,h2];refine bd ?_;simp[eqGuard,binOp,Op.intDiv,hb]
def rP{op:BinOp}{a b:ByteArray}{v:Value}(hx:opV O x=some (.v (.string a)))(hy:opV O y=some (.v (.string b)))(hr:YX op (fP a) (fP b)=some v):
  OpV P ⟨d,.binOp op t x y yt,ty,pos,af,g⟩ O (.v v):=by
 refine aQ rfl fun F X ac hs=>⟨_,?_,.v _⟩
 have h1:=aZ hs (by simp[Op.operands]) hx;have h2:=aZ hs (by simp[Op.operands]) hy;simp only[execOp,h1,h2];refine bd ?_;have hd:∀u v:List UInt8,(u==v)=decide (u=v):=fun u v=>by
  by_cases e:u=v
  ·subst e;simp
  ·simp[e]
 cases op<;> simp[YX] at hr<;> subst hr<;> simp[eqGuard,binOp,Op.stringOp,vg,hd]
def Jd{a b:ByteArray}(hx:opV O x=some (.v (.string a)))(hy:opV O y=some (.v (.string b)))(hl:(fP a).length+ (fP b).length<=9223372036854775807):
  OpV P ⟨d,.binOp .add t x y yt,ty,pos,af,g⟩ O (.v (.string (mkB (fP a++fP b)))):=by
 refine aQ rfl fun F X ac hs=>⟨_,?_,.v _⟩
 have h1:=aZ hs (by simp[Op.operands]) hx;have h2:=aZ hs (by simp[Op.operands]) hy;simp only[execOp,h1,h2];refine bd ?_;rw[Is];simp[eqGuard,binOp,Op.stringOp,G3];rw[gX,gX];omega
def xM{op:UnOp}{b:Bool}(hx:opV O x=some (.v (.bool b)))(hop:op=.not):OpV P ⟨d,.unOp op t x,ty,pos,af,g⟩ O (.v (.bool (!b))):=by
 subst hop;refine aQ rfl fun F X ac hs=>⟨_,?_,.v _⟩
 have h1:=aZ hs (by simp[Op.operands]) hx;simp only[execOp,h1];exact bd rfl
def Sk{op:UnOp}{k:IntKind}{n:Int}(hx:opV O x=some (.v (.int k n)))(hop:op=.neg):OpV P ⟨d,.unOp op t x,ty,pos,af,g⟩ O (.v (.int k (k.wrap (0 - n)))):=by
 subst hop;refine aQ rfl fun F X ac hs=>⟨_,?_,.v _⟩
 have h1:=aZ hs (by simp[Op.operands]) hx;simp only[execOp,h1];exact bd rfl
def rh{c:Operand}{b:Bool}{u:AV}(hc:opV O c=some (.v (.bool b)))(hb:b=true)(hx:opV O x=some u):OpV P ⟨d,.pick c x y,ty,pos,af,g⟩ O u.rd:=by
 subst hb;refine aQ (eq u) fun F X ac hs=>⟨ac.eval x,?_,(cO hs (by simp[Op.operands]) hx).rd⟩
 have h1:=aZ hs (by simp[Op.operands]) hc;simp only[execOp,h1];rfl
def rN{c:Operand}{b:Bool}{u:AV}(hc:opV O c=some (.v (.bool b)))(hb:b=false)(hy:opV O y=some u):OpV P ⟨d,.pick c x y,ty,pos,af,g⟩ O u.rd:=by
 subst hb;refine aQ (eq u) fun F X ac hs=>⟨ac.eval y,?_,(cO hs (by simp[Op.operands]) hy).rd⟩
 have h1:=aZ hs (by simp[Op.operands]) hc;simp only[execOp,h1];rfl
def pV{i:Nat}{us:List AV}{u:AV}(hx:opV O x=some (.tu us))(hu:us[i]? =some u):OpV P ⟨d,.extract x i,ty,pos,af,g⟩ O u.rd:=by
 refine aQ (eq u) fun F X ac hs=> ?_;have h1:=cO hs (by simp[Op.operands]) hx;simp only[execOp];generalize ac.eval x=v at h1;cases h1 with
 |tu _ xs hl hr=>have hlt:=(ZD.1 hu).1;have hx:xs[i]? =some xs[i] :=ZV (by omega);exact⟨xs[i],bd (by simp[Instr.extract,hx]),(hr i u _ hu hx).rd⟩
def Jv{a:Addr}(hx:opV O x=some (.v (.pointer (some a)))):OpV P ⟨d,.nilCheck x,ty,pos,af,g⟩ O (.v (.pointer (some a))):=by
 refine aQ rfl fun F X ac hs=>⟨_,?_,.v _⟩
 have h1:=aZ hs (by simp[Op.operands]) hx;simp only[execOp,h1];rfl
def WO{X:GW}{cs:List AV}{v:Value}(h:Rel X (.el cs) v):∃b off,v=.pointer (some ⟨b,off,none⟩):=by cases h with|el _ b off n c=>exact⟨b,off,rfl⟩
def oW{cs:List AV}(hx:opV O x=some (.el cs)):OpV P ⟨d,.nilCheck x,ty,pos,af,g⟩ O (.el cs):=by refine aQ rfl fun F X ac hs=> ?_;have h1:=cO hs (by simp[Op.operands]) hx;obtain⟨b,off,he⟩:=WO h1;simp only[execOp,he] at h1 ⊢;exact⟨_,rfl,h1⟩
def QS{T:Tys P}{u:AV}{dsc:TypeDesc}(hx:opV O x=some u)(ht:look T.ty t=some dsc)(hi:(match dsc with|.interface _=>false|_=>true)=true):OpV P ⟨d,.makeInterface t x,ty,pos,af,g⟩ O (.ifc t u):=by
 refine aQ rfl fun F X ac hs=>⟨.iface t (ac.eval x),?_,.ifc t u _ (cO hs (by simp[Op.operands]) hx)⟩
 have hu:=T.tyOk t dsc ht;simp only[execOp];refine bd ?_;cases dsc<;> simp[Instr.makeInterface,run_underlying hu] at hi ⊢
def DZ{T:Tys P}{t2:TypeId}{k k0:IntKind}{n:Int}{d0:TypeDesc}(hx:opV O x=some (.v (.int k0 n)))(h0:look T.ty t=some d0)(ht:look T.ty t2=some (.int k)):
  OpV P ⟨d,.convert t t2 x,ty,pos,af,g⟩ O (.v (.int k (k.wrap n))):=by
 refine aQ rfl fun F X ac hs=>⟨_,?_,.v _⟩
 have h1:=aZ hs (by simp[Op.operands]) hx;have hu:=T.tyOk _ _ h0;have hu2:=T.tyOk _ _ ht;simp only[execOp,h1];refine bd ?_;simp[convert,run_underlying hu,run_underlying hu2,Conv.intToInt]
def C3{T:Tys P}{t2:TypeId}{s:ByteArray}(hx:opV O x=some (.v (.string s)))(h0:look T.ty t=some .string)(ht:look T.ty t2=some .string):
  OpV P ⟨d,.convert t t2 x,ty,pos,af,g⟩ O (.v (.string s)):=by
 refine aQ rfl fun F X ac hs=>⟨_,?_,.v _⟩
 have h1:=aZ hs (by simp[Op.operands]) hx;have hu:=T.tyOk _ _ h0;have hu2:=T.tyOk _ _ ht;simp only[execOp,h1];refine bd ?_;simp[convert,run_underlying hu,run_underlying hu2]
def GM{T:Tys P}{ats:Array TypeId}{s:ByteArray}(hx:opV O x=some (.v (.string s)))(ha:ats[0]? =some t)(h0:look T.ty t=some .string):
  OpV P ⟨d,.call { callee:=.builtin .len,args:= #[x],argTypes:=ats },ty,pos,af,g⟩ O (.v (.int .i64 (fP s).length)):=by
 refine aQ rfl fun F X ac hs=>⟨_,?_,.v _⟩
 have h1:=aZ hs (by simp[Op.operands,Call.operands]) hx;have hu:=T.tyOk _ _ h0;simp[execOp,resolve,invoke,builtin,Builtin.len_,h1,ha,run_underlying hu,goInt,gX]
def kW{T:Tys P}{ats:Array TypeId}{e:TypeId}{a:Option Addr}{n c:Nat}(hx:opV O x=some (.v (.slice a n c)))(ha:ats[0]? =some t)(h0:look T.ty t=some (.slice e)):
  OpV P ⟨d,.call { callee:=.builtin .len,args:= #[x],argTypes:=ats },ty,pos,af,g⟩ O (.v (.int .i64 n)):=by
 refine aQ rfl fun F X ac hs=>⟨_,?_,.v _⟩
 have h1:=aZ hs (by simp[Op.operands,Call.operands]) hx;have hu:=T.tyOk _ _ h0;simp[execOp,resolve,invoke,builtin,Builtin.len_,h1,ha,run_underlying hu,goInt]
def gI{X:GW}{o:Bool}{sz:Nat}{l:List (List AV)}{v:Value}(h:Rel X (.sl o sz l) v):∃a c,v=.slice a l.length c:=by
 cases h with
 |nl _ _ a c=>exact⟨a,c,rfl⟩
 |sl _ _ _ b off cap n c=>exact⟨_,_,rfl⟩
def Ia{T:Tys P}{ats:Array TypeId}{e:TypeId}{o:Bool}{sz:Nat}{l:List (List AV)}(hx:opV O x=some (.sl o sz l))(ha:ats[0]? =some t)(h0:look T.ty t=some (.slice e)):
  OpV P ⟨d,.call { callee:=.builtin .len,args:= #[x],argTypes:=ats },ty,pos,af,g⟩ O (.v (.int .i64 l.length)):=by
 refine aQ rfl fun F X ac hs=>⟨_,?_,.v _⟩
 obtain⟨a,c,h1⟩:=gI (cO hs (by simp[Op.operands,Call.operands]) hx);have hu:=T.tyOk _ _ h0;simp[execOp,resolve,invoke,builtin,Builtin.len_,h1,ha,run_underlying hu,goInt]
def Uy{ats:Array TypeId}{k k':IntKind}{a b:Int}(hx:opV O x=some (.v (.int k a)))(hy:opV O y=some (.v (.int k' b))):
  OpV P ⟨d,.call { callee:=.builtin .min,args:= #[x,y],argTypes:=ats },ty,pos,af,g⟩ O (.v (.int k (if b < a then b else a))):=by
 refine aQ rfl fun F X ac hs=>⟨_,?_,.v _⟩
 have h1:=aZ hs (by simp[Op.operands,Call.operands]) hx;have h2:=aZ hs (by simp[Op.operands,Call.operands]) hy;simp[execOp,resolve,invoke,builtin,Builtin.min_,Builtin.min2,h1,h2]
def sG{T:Tys P}{k:IntKind}{s:ByteArray}{i:Int}(hx:opV O x=some (.v (.string s)))(hy:opV O y=some (.v (.int k i)))(h0:look T.ty t=some .string)(h1:0<=i)(h2:i < (fP s).length):
  OpV P ⟨d,.index t x y,ty,pos,af,g⟩ O (.v (.int .u8 (((fP s).getD i.toNat 0).toNat))):=by
 refine aQ rfl fun F X ac hs=>⟨_,?_,.v _⟩
 have e1:=aZ hs (by simp[Op.operands]) hx;have e2:=aZ hs (by simp[Op.operands]) hy;have hu:=T.tyOk _ _ h0;simp only[execOp,e1,e2];refine bd ?_;have hlt:i.toNat < (fP s).length:=by omega
 have hs:s[i.toNat]? =some ((fP s).getD i.toNat 0):=by
  rw[Z5,ZE hlt];have:i.toNat < s.size:=by rw[gX];exact hlt
  rw[getElem?_pos s i.toNat this];rfl
 simp[Instr.index,asIntOf,run_underlying hu,h1,hs]
end
section
variable {P:Program} {T:Tys P} {O:AS} {d:Option Tmp} {t yt ty:TypeId} {x y z:Operand} {pos:String} {af:Array Edge} {g:Option (Nat × Bool)}
def n8{code:BoundsCode}{k:IntKind}{i:Int}{n:Nat}{w:World}(h0:0<=i)(h1:i<=n):(Instr.sliceBound (.int k i) n code).run P w=.ok i.toNat w:=by simp[Instr.sliceBound,asIntOf,h0,h1]
def nY(O:AS)(q:Option Operand)(k:IntKind)(i z:Int):Prop:=match q with|some q=>opV O q=some (.v (.int k i))|none=>i=z
def Hc(q:Option Value)(i z:Int):Prop:=match q with|some v=>∃k,v=.int k i|none=>i=z
def kz{isS:Bool}{len cap:Nat}{lo hi:Option Value}{i j:Int}{w:World}(hlo:Hc lo i 0)(hhi:Hc hi j len)(h1:0<=i)(h2:i<=j)(h3:j<=cap):
  (Instr.sliceBounds isS len cap lo hi none).run P w=.ok (i.toNat,j.toNat,cap) w:=by
 have hB:∀ (k:IntKind) (c:BoundsCode),(Instr.sliceBound (.int k j) cap c).run P w=.ok j.toNat w:=fun k c=>n8 (by omega) h3;have hA:∀ (k:IntKind) (c:BoundsCode),(Instr.sliceBound (.int k i) j.toNat c).run P w=.ok i.toNat w:=fun k c=>n8 h1 (by omega);cases lo with
 |none=>
  simp only[Hc] at hlo;subst hlo;cases hi with
  |none=>simp only[Hc] at hhi;subst hhi;simp[Instr.sliceBounds]
  |some v=>obtain⟨k,rfl⟩:=hhi;simp[Instr.sliceBounds,hB]
 |some v0=>
  obtain⟨k0,rfl⟩:=hlo;cases hi with
  |none=>simp only[Hc] at hhi;have hA':=hA k0 .sliceB;rw[hhi] at hA';simp only[Int.toNat_natCast] at hA';simp[Instr.sliceBounds,hA',hhi]
  |some v=>obtain⟨k,rfl⟩:=hhi;simp[Instr.sliceBounds,hB,hA]
def jJ{o:Op}{F:Nat->Prop}{X:GW}{ac:Act}{q:Option Operand}{k:IntKind}{i z:Int}(hs:SimR F X O o ac.tmps)(hm:∀p,q=some p->p∈o.operands.toList)(h:nY O q k i z):Hc (q.map ac.eval) i z:=by
 cases q with
 |none=>exact h
 |some p=>exact⟨k,aZ hs (hm p rfl) h⟩
def sh{lo hi:Option Operand}{s:ByteArray}{k1 k2:IntKind}{i j:Int}(hx:opV O x=some (.v (.string s)))(h0:look T.ty t=some .string)
  (hlo:nY O lo k1 i 0) (hhi:nY O hi k2 j (fP s).length) (h1:0<=i) (h2:i<=j) (h3:j<=(fP s).length):
  OpV P ⟨d,.slice t x lo hi none,ty,pos,af,g⟩ O (.v (.string (mkB (((fP s).take j.toNat).drop i.toNat)))):=by
 refine aQ rfl fun F X ac hs=>⟨_,?_,.v _⟩
 have e1:=aZ hs (by simp[Op.operands]) hx;have hu:=T.tyOk _ _ h0;simp only[execOp,e1];refine bd ?_;have hsz:(j<=s.size):=by rw[gX];exact h3
 have:=kz (P:=P) (isS:=false) (len:=s.size) (cap:=s.size) (w:=X.w) (jJ (q:=lo) (k:=k1) (i:=i) (z:=0) hs (fun p hp=>by subst hp;cases hi<;> simp[Op.operands]) hlo) (jJ (q:=hi) (k:=k2) (i:=j) (z:=s.size) hs (fun p hp=>by subst hp;cases lo<;> simp[Op.operands]) (by rw[gX];exact hhi)) h1 h2 hsz
 simp only[Instr.sliceAt,Instr.slice,Option.map_none];simp[run_underlying hu,this,FL]
theorem e9(b off n:Nat):(⟨b,off,none⟩:Addr).add n=⟨b,off+n,none⟩:=by unfold Addr.add;split<;> simp_all
def ni{X:GW}{o:Bool}{sz:Nat}{l:List (List AV)}{v:Value}(h:Rel X (.sl o sz l) v):((∃a c,v=.slice a 0 c)/\l=[])\/∃b off cap n,v=.slice (some ⟨b,off,none⟩) l.length cap/\X.g b=some n/\off+l.length * sz<=n/\l.length<=cap/\
  ∃c:Nat->Nat->Value,(∀ (i:Nat) (r:List AV),l[i]? =some r->r.length=sz)/\(∀ (i j:Nat) (r:List AV) (u:AV),l[i]? =some r->r[j]? =some u->X.w.cell? ⟨b,off+i * sz+j,none⟩=some (c i j))/\(∀ (i j:Nat) (r:List AV) (u:AV),l[i]? =some r->r[j]? =some u->Rel X u (c i j)):=by
 cases h with
 |nl _ _ a c=>exact .inl ⟨⟨a,c,rfl⟩,rfl⟩
 |sl _ _ _ b off cap n c h1 h2 h3 h4 h5 h6=>exact .inr ⟨b,off,cap,n,rfl,h1,h2,h3,c,h4,h5,h6⟩
def tJ{lo hi:Option Operand}{o:Bool}{sz:Nat}{l:List (List AV)}{k1 k2:IntKind}{i j:Int}{e:TypeId}{by_:Nat}(hx:opV O x=some (.sl o sz l))(h0:look T.ty t=some (.slice e))(hsz:look T.sz e=some (sz,by_))
  (hlo:nY O lo k1 i 0) (hhi:nY O hi k2 j l.length) (h1:0<=i) (h2:i<=j) (h3:j<=l.length):
  OpV P ⟨d,.slice t x lo hi none,ty,pos,af,g⟩ O (.sl false sz ((l.take j.toNat).drop i.toNat)):=by
 refine aQ rfl fun F X ac hs=> ?_;have e1:=cO hs (by simp[Op.operands]) hx;have hu:=T.tyOk _ _ h0;obtain⟨inf,hi1,hi2,hi3⟩:=T.szOk _ _ _ hsz;have hls:∀w:World,(sizeOf e).run P w=.ok sz w:=fun w=>by simp[sizeOf,typeInfo,hi1,hi2]
 obtain⟨a0,c0,hform⟩:=gI e1;have hcap:l.length<=c0:=by
  rcases ni e1 with ⟨h,hl⟩| ⟨b,off,cap,n,h,_,_,hc,_⟩
  ·rw[hl];exact aad _
  ·rw[hform] at h;cases h;exact hc
 have hB:=kz (P:=P) (isS:=true) (len:=l.length) (cap:=c0) (w:=X.w) (jJ (q:=lo) (k:=k1) (i:=i) (z:=0) hs (fun p hp=>by subst hp;cases hi<;> simp[Op.operands]) hlo) (jJ (q:=hi) (k:=k2) (i:=j) (z:=l.length) hs (fun p hp=>by subst hp;cases lo<;> simp[Op.operands]) hhi) h1 h2 (by omega)
 refine⟨.slice (if c0=i.toNat then a0 else a0.map (·.add (i.toNat * sz))) (j.toNat - i.toNat) (c0 - i.toNat),?_,?_⟩
 ·simp only[execOp,hform];refine bd ?_;simp only[Instr.sliceAt,Instr.slice,Option.map_none];simp[run_underlying hu,hB,hls]
 ·have hlen:((l.take j.toNat).drop i.toNat).length=j.toNat - i.toNat:=by simp;omega
  rcases ni e1 with ⟨⟨a1,c1,h⟩,hl⟩| ⟨b,off,cap,n,h,hg,hn,hc,c,c1,c2,c3⟩
  ·subst hl;have:j.toNat - i.toNat=0:=by simp at h3;omega
   rw[this];simp only[List.take_nil,List.drop_nil];exact .nl _ _ _ _
  ·rw[hform] at h;cases h;rw[<- hlen];by_cases hci:c0=i.toNat
   ·rw[ZI hci];have hnil:(l.take j.toNat).drop i.toNat=[] :=abH (by omega);rw[hnil];exact .sl _ _ [] b off _ n (fun _ _=>undef) hg (by simp;have:=aad (l.length * sz);omega) (aad _) (by simp) (by simp) (by simp)
   ·rw[ZH hci];simp only[Option.map,e9];have hget:∀ (q:Nat) (r:List AV),((l.take j.toNat).drop i.toNat)[q]? =some r->l[i.toNat+q]? =some r:=by
     intro q r hr;rw[aaq,ZX] at hr;split at hr
     ·exact hr
     ·cases hr
    refine .sl _ _ _ b (off+i.toNat * sz) _ n (fun q p=>c (i.toNat+q) p) hg ?_ (by omega) (fun q r hr=>c1 _ r (hget q r hr)) (fun q p r u hr hu=> ?_) (fun q p r u hr hu=>c3 _ p r u (hget q r hr) hu)
    ·rw[hlen,abM,<- aae,show i.toNat+ (j.toNat - i.toNat)=j.toNat by omega];have:j.toNat * sz<=l.length * sz:=aaa _ (by omega);omega
    ·rw[<- c2 (i.toNat+q) p r u (hget q r hr) hu,aae]
     congr 2;omega
def Ah{k:IntKind}{o:Bool}{sz:Nat}{l:List (List AV)}{i:Int}{e:TypeId}{by_:Nat}(hx:opV O x=some (.sl o sz l))(hy:opV O y=some (.v (.int k i)))(h0:look T.ty t=some (.slice e))(hsz:look T.sz e=some (sz,by_))(h1:0<=i)(h2:i < l.length):
  OpV P ⟨d,.indexAddr t x y,ty,pos,af,g⟩ O (.el (l.getD i.toNat [])):=by
 refine aQ rfl fun F X ac hs=> ?_;have e1:=cO hs (by simp[Op.operands]) hx;have e2:=aZ hs (by simp[Op.operands]) hy;have hu:=T.tyOk _ _ h0;obtain⟨inf,hi1,hi2,hi3⟩:=T.szOk _ _ _ hsz;rcases ni e1 with ⟨h,hl⟩| ⟨b,off,cap,n,h,hg,hn,hc,c,c1,c2,c3⟩
 ·subst hl;simp at h2;omega
 ·have hlt:i.toNat < l.length:=by omega
  have hr:l[i.toNat]? =some (l.getD i.toNat []):=by rw[Z5,ZE hlt];rfl
  refine⟨.pointer (some ⟨b,off+i.toNat * sz,none⟩),?_,?_⟩
  ·simp only[execOp,h,e2];refine bd ?_;simp[Instr.indexAt,asIntOf,run_underlying hu,sizeOf,typeInfo,hi1,hi2,h1,h2,e9]
  ·refine .el _ b _ n (c i.toNat) hg ?_ (fun q u hq=>c2 _ q _ u hr hq) (fun q u hq=>c3 _ q _ u hr hq);rw[c1 _ _ hr];have:i.toNat * sz+sz<=l.length * sz:=by rw[<- aaK];exact aaa _ hlt
   omega
def wD{s:TypeId}{fs:Array Field}{f:Field}{i:Nat}{b off:Nat}{w:World}{fsz:Nat × Nat}(h0:P.underlying s=some (.struct fs))(hf:fs[i]? =some f)(hz:look T.sz f.type=some fsz)(hp:Nat.ble 1 fsz.1=true):
  (Instr.fieldAt s (.pointer (some ⟨b,off,none⟩)) i).run P w=.ok (.pointer (some ⟨b,off+f.offset,none⟩)) w:=by
 obtain⟨inf,hi1,hi2,hi3⟩:=T.szOk _ _ _ hz;have hne:¬inf.size=0:=by have:=ZS hp;omega
 simp[Instr.fieldAt,run_underlying h0,hf,Instr.sureAddr,fieldPlace,sizeOf,typeInfo,hi1,hne,e9]
def D6{fs:Array Field}{f:Field}{i:Nat}{cs:List AV}{fsz:Nat × Nat}(hx:opV O x=some (.el cs))(h0:look T.ty t=some (.struct fs))(hf:fs[i]? =some f)(hz:look T.sz f.type=some fsz)(hp:Nat.ble 1 fsz.1=true)(hl:Nat.ble f.offset cs.length=true):
  OpV P ⟨d,.fieldAddr t x i,ty,pos,af,g⟩ O (.el (cs.drop f.offset)):=by
 refine aQ rfl fun F X ac hs=> ?_;have e1:=cO hs (by simp[Op.operands]) hx;simp only[execOp];generalize ac.eval x=v at e1;have hle:=ZS hl;cases e1 with
 |el _ b off n c hg hn hm hr=>
  refine⟨_,bd (wD (T.tyOk _ _ h0) hf hz hp),.el _ b _ n (fun j=>c (f.offset+j)) hg (by simp;omega) (fun j u hj=> ?_) (fun j u hj=> ?_)⟩
  ·rw[aaq] at hj;rw[<- hm _ u hj];congr 2;omega
  ·rw[aaq] at hj;exact hr _ u hj
def sB{fs:Array Field}{f:Field}{i b off:Nat}{fsz:Nat × Nat}(hx:opV O x=some (.v (.pointer (some ⟨b,off,none⟩))))(h0:look T.ty t=some (.struct fs))(hf:fs[i]? =some f)(hz:look T.sz f.type=some fsz)(hp:Nat.ble 1 fsz.1=true):
  OpV P ⟨d,.fieldAddr t x i,ty,pos,af,g⟩ O (.v (.pointer (some ⟨b,off+f.offset,none⟩))):=by
 refine aQ rfl fun F X ac hs=>⟨_,?_,.v _⟩
 have e1:=aZ hs (by simp[Op.operands]) hx;simp only[execOp,e1];exact bd (wD (T.tyOk _ _ h0) hf hz hp)
def kH:TypeDesc->Bool
 |.struct _=>false
 |.array _ _=>false
 |_=>true
def rt{dsc:TypeDesc}{a:Addr}{v:Value}{w:World}(h0:P.underlying t=some dsc)(h1:kH dsc=true)(hc:w.cell? a=some v):(Instr.loadAt t (.pointer (some a))).run P w=.ok v w:=by cases dsc<;> simp[kH] at h1<;> simp[Instr.loadAt,Instr.sureAddr,loadVar,isAgg,run_underlying h0,hc]
def G6{dsc:TypeDesc}{u:AV}{cs:List AV}(hx:opV O x=some (.el (u::cs)))(h0:look T.ty t=some dsc)(h1:kH dsc=true):OpV P ⟨d,.load t x,ty,pos,af,g⟩ O u.rd:=by
 refine aQ (eq u) fun F X ac hs=> ?_;have e1:=cO hs (by simp[Op.operands]) hx;simp only[execOp];generalize ac.eval x=v at e1;cases e1 with
 |el _ b off n c hg hn hm hr=>have hc:=hm 0 u rfl;exact⟨c 0,bd (rt (T.tyOk _ _ h0) h1 (by simpa using hc)),(hr 0 u rfl).rd⟩
def CF{fs:Array Field}{n by_:Nat}{cs:List AV}(hx:opV O x=some (.el cs))(h0:look T.ty t=some (.struct fs))(hz:look T.sz t=some (n,by_))(hl:Nat.ble n cs.length=true):OpV P ⟨d,.load t x,ty,pos,af,g⟩ O (.ag (cs.take n)):=by
 refine aQ rfl fun F X ac hs=> ?_;have e1:=cO hs (by simp[Op.operands]) hx;have hu:=T.tyOk _ _ h0;obtain⟨inf,hi1,hi2,hi3⟩:=T.szOk _ _ _ hz;have hle:=ZS hl;simp only[execOp];generalize ac.eval x=v at e1;cases e1 with
 |el _ b off n' c hg hn hm hr=>
  have hld:=run_loadCells (P:=P) (w:=X.w) ⟨b,off,none⟩ n c (fun j hj=>by
   rw[e9];have hj':j < cs.length:=by omega
   exact hm j cs[j] (ZE hj'))
  refine⟨.agg ((List.range n).map c).toArray,bd ?_,.ag _ _ (by simp;omega) (fun j u v hj hv=> ?_)⟩
  ·simp[Instr.loadAt,Instr.sureAddr,loadVar,isAgg,run_underlying hu,sizeOf,typeInfo,hi1,hi2,hld]
  ·rw[ZX] at hj;split at hj
   ·rename_i hjn;simp[hjn] at hv;subst hv;exact hr j u hj
   ·cases hj
def lI{dsc:TypeDesc}{k o:Nat}{cs:List AV}{u:AV}(hx:opV O x=some (.v (.pointer (some ⟨k,o,none⟩))))(hb:look O.h k=some cs)(hu:cs[o]? =some u)(h0:look T.ty t=some dsc)(h1:kH dsc=true)(hm:u.isMp=false):
  OpV P ⟨d,.load t x,ty,pos,af,g⟩ O u.rd:=by
 refine aQ (eq u) fun F X ac hs=> ?_;have e1:=aZ hs (by simp[Op.operands]) hx;obtain⟨b1,b2,arr,e,fr,b3,b4,b5,b6⟩:=(hs.box k cs hb).at hu hm;have hlt:=(ZD.1 hu).1;have hx:arr[o]? =some arr[o] :=ZV (by omega);refine⟨arr[o],?_,(b6 o u _ hu hx).rd⟩;simp only[execOp,e1]
 exact bd (rt (T.tyOk _ _ h0) h1 (by simp only[World.cell?,b3];exact hx))
def Ax{fs:Array Field}{n by_ k o:Nat}{cs:List AV}(hx:opV O x=some (.v (.pointer (some ⟨k,o,none⟩))))(hb:look O.h k=some cs)(h0:look T.ty t=some (.struct fs))(hz:look T.sz t=some (n,by_))(hl:Nat.ble (o+n) cs.length=true)(hm:fU cs=false):
  OpV P ⟨d,.load t x,ty,pos,af,g⟩ O (.ag ((cs.drop o).take n)):=by
 refine aQ rfl fun F X ac hs=> ?_;have e1:=aZ hs (by simp[Op.operands]) hx;have hu:=T.tyOk _ _ h0;obtain⟨inf,hi1,hi2,hi3⟩:=T.szOk _ _ _ hz;have hle:=ZS hl;obtain⟨b1,b2,arr,e,fr,b3,b4,b5,b6⟩:=(hs.box k cs hb).cells hm;have hld:=run_loadCells (P:=P) (w:=X.w) ⟨k,o,none⟩ n (fun j=>arr.getD (o+j) undef) (fun j hj=>by
  rw[e9];have:o+j < arr.size:=by omega
  simp[World.cell?,b3,this])
 refine⟨.agg ((List.range n).map fun j=>arr.getD (o+j) undef).toArray,?_,.ag _ _ (by simp;omega) (fun j u v hj hv=> ?_)⟩
 ·simp only[execOp,e1];refine bd ?_;simp[Instr.loadAt,Instr.sureAddr,loadVar,isAgg,run_underlying hu,sizeOf,typeInfo,hi1,hi2,hld]
 ·rw[ZX] at hj;split at hj
  ·rename_i hjn;have:o+j < arr.size:=by omega
   simp[hjn,this] at hv;subst hv;rw[aaq] at hj;exact b6 _ u _ hj (ZV this)
  ·cases hj
end
section
variable {P:Program} {Q:Exit->AS->Prop} {ks:List It} {T:Tys P} {O:AS} {d:Option Tmp} {t t2 yt ty e:TypeId} {x y z:Operand} {pos:String} {af:Array Edge} {g:Option (Nat × Bool)} {F:Nat->Prop} {X:GW}
def B4(v:Value):(cst v).plain:=by cases v<;> rfl
def AV.isSl:AV->Bool
 |.sl _ _ _=>true
 |_=>false
def Na{u:AV}(hx:opV O x=some u)(hp:u.isSl=false):OpV P ⟨d,.move x,ty,pos,af,g⟩ O u:=by refine aQ (by cases u<;> first|rfl|cases hp) fun F X ac hs=>⟨ac.eval x,rfl,cO hs (by simp[Op.operands]) hx⟩
def HH{u:AV}(hx:opV O x=some u)(hp:u.isSl=false):OpV P ⟨d,.assign x,ty,pos,af,g⟩ O u:=by refine aQ (by cases u<;> first|rfl|cases hp) fun F X ac hs=>⟨ac.eval x,rfl,cO hs (by simp[Op.operands]) hx⟩
def jZ(O:AS)(s:Nat):Option Root:=match look O.t s with
 |some (.sl true _ _)=>some (.s s)
 |some (.sl false _ _)=>look O.e s
 |_=>none
def oN{tm:Array Value}{s:Nat}{r:Root}(hs:SimE F X O tm)(h:jZ O s=some r):rootV tm X.w r=some (tm.getD s undef):=by
 unfold jZ at h;split at h
 ·cases h;rfl
 ·exact hs.eqs s r h
 ·cases h
def AS.mv(O:AS)(d s:Nat)(u:AV):AS:=match jZ O s with
 |some r=>match r.in d with|true=>O.put d u.rd|false=>(O.put d u.rd).alias d r
 |none=>O.put d u.rd
theorem SimE.mv{tm:Array Value}{d s:Nat}{u:AV}(h:SimE F X O tm)(hd:d < O.n)(hu:look O.t s=some u):SimE F X (O.mv d s u) (tm.setIfInBounds d (tm.getD s undef)):=by
 have hput:SimE F X (O.put d u.rd) (tm.setIfInBounds d (tm.getD s undef)):=h.put_new hd (New.refl X) h.gb (h.slot s u hu).rd (FreshOk.plain (eq u));unfold AS.mv;cases hr:jZ O s with
 |none=>exact hput
 |some r=>
  simp only;cases hin:r.in d with
  |true=>exact hput
  |false=>refine hput.alias ?_;rw[lR hin,iV (by rw[h.size];exact hd)];exact oN h hr
def zy{l:List Oper}{k:Nat}{rest:List Oper}{d s:Nat}{u:AV}(ho:l[k]? =some ⟨some d,.move (.tmp s),ty,pos,af,g⟩)(hw:cb l O ⟨some d,.move (.tmp s),ty,pos,af,g⟩=some true)(hd:Nat.ble (d+1) O.n=true)(hu:look O.t s=some u)
  (hn:br P Q (.o l (k+1) rest::ks) (O.mv d s u)):br P Q (.o l k (⟨some d,.move (.tmp s),ty,pos,af,g⟩::rest)::ks) O:=by
 refine l7 ho hw fun F X a hs=>cX (x:=a.eval (.tmp s)) (w':=X.w) rfl ⟨X,_,rfl,hn,?_,Ext.refl F X⟩;exact hs.mv (bJ hd) hu
def zH{l:List Oper}{k:Nat}{o:Oper}{rest:List Oper}{d:Nat}{u:AV}(ho:l[k]? =some o)(hw:cb l O o=some true)(hdst:o.dst=some d)(hd:Nat.ble (d+1) O.n=true)(h:OpV P o O u)
  (hn:br P Q (.o l (k+1) rest::ks) (O.put d u)):br P Q (.o l k (o::rest)::ks) O:=by
 refine l7 ho hw fun F X a hs=>(h F X a (hs.r o.op)).mono fun x w' ⟨X',h1,h2,h3,h4,h5⟩=>⟨X',O.put d u,h1,hn,?_,h2.ext hs.gb hs.fb⟩
 rw[hdst];exact hs.put_new (bJ hd) h2 h3 h4 h5
def Ds{l:List Oper}{k:Nat}{o:Oper}{rest:List Oper}{d:Nat}(ho:l[k]? =some o)(hw:cb l O o=some false)(hdst:o.dst=some d)(hd:Nat.ble (d+1) O.n=true)
  (hn:br P Q (.o l (k+1) rest::ks) (O.put d (.v undef))):br P Q (.o l k (o::rest)::ks) O:=by
 intro F X a hs D hdf;have hk:k < l.length:=(ZD.1 ho).1;rw[kP hk];have ho':(l.toArray)[k]? =some o:=by simpa using ho
 simp only[wpOps,ho'];rw[ZH (by rw[kv hs hw];simp)];refine hn F X (a.put o.dst undef) ?_ D (by rw[eG];exact hdf);rw[hdst];exact hs.put_new (bJ hd) (New.refl X) hs.gb (.v _) (FreshOk.plain rfl)
def GW.with(X:GW)(w':World)(b n:Nat):GW:=⟨w',fun c=>match Nat.beq c b with|true=>some n|false=>X.g c⟩
def nO{X:GW}{w':World}{b n:Nat}:(X.with w' b n).g b=some n:=by simp[GW.with]
def rg{X:GW}{w':World}{b n c:Nat}(h:c≠b):(X.with w' b n).g c=X.g c:=by
 simp only[GW.with];cases hb:Nat.beq c b
 ·rfl
 ·exact absurd (ZK hb) h
def uJ{w':World}{cells:Array Value}{el:TypeId}{fr:Nat × Nat}{sz cap:Nat}{rows:List (List AV)}(hos:w'.os=X.w.os)(htape:w'.tape=X.w.tape)(hout:w'.output=X.w.output)(hh:w'.heap=X.w.heap.push (.cells cells el fr))
  (hgb:∀b n,X.g b=some n->b < X.w.heap.size) (hfb:∀b,F b->b < X.w.heap.size) (hlen:∀r∈rows,r.length=sz) (hcs:cells.size=cap * sz) (hcap:rows.length<=cap)
  (hrel:∀ (i j:Nat) (r:List AV) (u:AV),rows[i]? =some r->r[j]? =some u->∃v,cells[i * sz+j]? =some v/\Rel X u v) (hfr:∀j,rows.length * sz<=j->j < cells.size->(fr.1<=j && j < fr.2)=false):
  ∃X':GW,X'.w=w'/\New X X'/\(∀b n,X'.g b=some n->b < X'.w.heap.size)/\Rel X' (.sl true sz rows) (.slice (some ⟨X.w.heap.size,0,none⟩) rows.length cap)/\FreshOk F X.w.heap.size X' (.sl true sz rows) (.slice (some ⟨X.w.heap.size,0,none⟩) rows.length cap):=by
 have hnewh:w'.heap[X.w.heap.size]? =some (.cells cells el fr):=by rw[hh];simp
 have holdh:∀b,b < X.w.heap.size->w'.heap[b]? =X.w.heap[b]? :=fun b hb=>by rw[hh,aaP,ZH (by omega)]
 have hsz':w'.heap.size=X.w.heap.size+1:=by rw[hh];simp
 have hnew:New X (X.with w' X.w.heap.size (rows.length * sz)):=⟨hos,htape,hout,by show X.w.heap.size<=w'.heap.size;omega,fun b hb=>⟨holdh b hb,rg (by omega)⟩⟩
 have hp:=hnew.pres hgb;refine⟨X.with w' X.w.heap.size (rows.length * sz),rfl,hnew,fun b n hb=> ?_,?_,fun sz' l' hu=> ?_⟩
 ·show b < w'.heap.size;by_cases e:b=X.w.heap.size
  ·omega
  ·rw[rg e] at hb;have:=hgb b n hb;omega
 ·refine .sl true sz rows X.w.heap.size 0 cap (rows.length * sz) (fun i j=>cells.getD (i * sz+j) undef) nO (by omega) hcap (fun i r hr=>hlen r (ZQ hr)) (fun i j r u hr hu=> ?_) (fun i j r u hr hu=> ?_)
  ·obtain⟨v,h1,h2⟩:=hrel i j r u hr hu;show w'.cell? ⟨X.w.heap.size,0+i * sz+j,none⟩=_;simp[World.cell?,hnewh,h1]
  ·obtain⟨v,h1,h2⟩:=hrel i j r u hr hu;have:cells.getD (i * sz+j) undef=v:=by simp[h1]
   rw[this];exact h2.mono hp
 ·simp only[de,Option.some.injEq,Prod.mk.injEq] at hu;obtain⟨rfl,rfl⟩:=hu;refine⟨.inr ⟨X.w.heap.size,cap,cells,el,fr,rfl,nO,hnewh,hcs,fun j h1 h2=> ?_,fun hF=> ?_⟩,fun a n c hx=> ?_⟩
  ·show w'.frozen? ⟨X.w.heap.size,j,none⟩=false;simp only[World.frozen?,hnewh];exact hfr j h1 h2
  ·exact aa1 _ (hfb _ hF)
  ·cases hx;exact ZN _
def AV.cells:AV->List AV
 |.ag cs=>cs
 |u=>[u]
def lN{u:AV}{v:Value}(h:Rel X u v)(hv:∀xs,v=.agg xs->∃cs,u=.ag cs):u.cells.length=v.cells.size/\∀ (j:Nat) c y,u.cells[j]? =some c->v.cells[j]? =some y->Rel X c y:=by
 cases h with
 |ag us xs hl hr=>exact⟨hl,hr⟩
 |v _=>
  cases v with
  |agg xs=>obtain⟨cs,hc⟩:=hv xs rfl;cases hc
  |_=>exact⟨rfl,fun j c y hc hy=>by
    cases j with
    |zero=>simp[AV.cells,Value.cells] at hc hy;subst hc hy;exact .v _
    |succ j=>simp[AV.cells] at hc⟩
 |nl _ _ a0 c0=>exact⟨rfl,fun j c y hc hy=>by
     cases j with
     |zero=>simp[AV.cells,Value.cells] at hc hy;subst hc hy;exact .nl _ _ _ _
     |succ j=>simp[AV.cells] at hc⟩
 |sl o sz l b off cap n c hg hn hc hs hm hr=>exact⟨rfl,fun j c y hc' hy=>by
     cases j with
     |zero=>simp[AV.cells,Value.cells] at hc' hy;subst hc' hy;exact .sl o sz l b off cap n _ hg hn hc hs hm hr
     |succ j=>simp[AV.cells] at hc'⟩
 |tu us xs hl hr=>exact⟨rfl,fun j c y hc' hy=>by
     cases j with
     |zero=>simp[AV.cells,Value.cells] at hc' hy;subst hc' hy;exact .tu us xs hl hr
     |succ j=>simp[AV.cells] at hc'⟩
 |el us b off n c hg hn hm hr=>exact⟨rfl,fun j c y hc' hy=>by
     cases j with
     |zero=>simp[AV.cells,Value.cells] at hc' hy;subst hc' hy;exact .el us b off n _ hg hn hm hr
     |succ j=>simp[AV.cells] at hc'⟩
 |fn f us xs hl hr=>exact⟨rfl,fun j c y hc' hy=>by
     cases j with
     |zero=>simp[AV.cells,Value.cells] at hc' hy;subst hc' hy;exact .fn f us xs hl hr
     |succ j=>simp[AV.cells] at hc'⟩
 |ifc t u x hr=>exact⟨rfl,fun j c y hc' hy=>by
   cases j with
   |zero=>simp[AV.cells,Value.cells] at hc' hy;subst hc' hy;exact .ifc t u x hr
   |succ j=>simp[AV.cells] at hc'⟩
 |cl sz l a n hr=>exact⟨rfl,fun j c y hc' hy=>by
     cases j with
     |zero=>simp[AV.cells,Value.cells] at hc' hy;subst hc' hy;exact .cl sz l a n hr
     |succ j=>simp[AV.cells] at hc'⟩
end
section
variable {P:Program} {Q:Exit->AS->Prop} {ks:List It} {T:Tys P} {O:AS} {t u ty e:TypeId} {x y z:Operand} {pos:String} {af:Array Edge} {g:Option (Nat × Bool)} {F:Nat->Prop} {X:GW}
structure Adds (P:Program) (w:World) (size m:Nat) (x:Value) (news:List Value):Prop where
 len:(Builtin.lenOf x).run P w=.ok m w
 first:∀w',w'.heap=w.heap->(Builtin.firstCells size m x).run P w'=.ok news.toArray w'
 length:news.length=m * size
def ns{w:World}{i:TypeInfo}{du:TypeDesc}{x:Value}{m b sLen sCap:Nat}{news:List Value}(ht:P.underlying t=some (.slice e))(hu:P.underlying u=some du)(hnz:du=.string\/∃e',du=.slice e')(hi:P.info? e=some i)
  (hx:Adds P w i.size m x news) (h1:∀v∈news,v.oneCell'=true) (hroom:sLen+m<=sCap)
  (hc:∀j,j < news.length->(w.cell? ⟨b,sLen * i.size+j,none⟩).isSome=true) (hf:∀j,j < news.length->w.frozen? ⟨b,sLen * i.size+j,none⟩=false):
  (Builtin.append_ #[t,u] ty #[.slice (some ⟨b,0,none⟩) sLen sCap,x]).run P w=.ok (.slice (some ⟨b,0,none⟩) (sLen+m) sCap) (w.setCells b (sLen * i.size) news):=by
 have hst:=run_storeCells_cells (P:=P) b (sLen * i.size) news 0 w (by simpa using hc) (by simpa using hf) h1;simp only[Nat.add_zero] at hst;have hfi:=hx.first w rfl
 rcases hnz with rfl| ⟨e',rfl⟩<;> simp[Builtin.append_,run_underlying ht,run_underlying hu,sizeOf,typeInfo,hi,hx.len,hroom,hfi,Addr.add_lit,hst]
def wP{w:World}{i:TypeInfo}{du:TypeDesc}{x:Value}{news:List Value}(ht:P.underlying t=some (.slice e))(hu:P.underlying u=some du)(hnz:du=.string\/∃e',du=.slice e')(hi:P.info? e=some i)
  (hx:Adds P w i.size 0 x news):(Builtin.append_ #[t,u] ty #[.slice none 0 0,x]).run P w=.ok (.slice none 0 0) w:=by
 have hfi:=hx.first w rfl
 rcases hnz with rfl| ⟨e',rfl⟩<;> simp[Builtin.append_,run_underlying ht,run_underlying hu,sizeOf,typeInfo,hi,hx.len,hfi]
def im{w:World}{i:TypeInfo}{zv:Value}{du:TypeDesc}{x:Value}{m sLen sCap:Nat}{a:Option Addr}{olds news:List Value}(ht:P.underlying t=some (.slice e))(hu:P.underlying u=some du)(hnz:du=.string\/∃e',du=.slice e')(hi:P.info? e=some i)(hz:i.zero=some zv)
  (hx:Adds P w i.size m x news) (hold:∀w',w'.heap=w.heap->(Builtin.firstCells i.size sLen (.slice a sLen sCap)).run P w'=.ok olds.toArray w') (hg:sCap < sLen+m) (hfit:(sLen+m) * i.bytes<=140737488355328) (hb:1<=i.bytes):
  (Builtin.append_ #[t,u] ty #[.slice a sLen sCap,x]).run P w=.ok (.slice (some ⟨w.heap.size,0,none⟩) (sLen+m) (grownCap w (sLen+m) sCap e))
   (w.drew.alloc (.cells (olds.toArray++news.toArray++Builtin.zeroCells zv.cells (grownCap w (sLen+m) sCap e - (sLen+m))) e)):=by
 have hfi:=hx.first w.drew rfl
 have hol:=hold w.drew rfl;have hn:¬(sLen+m<=sCap):=by omega
 have hle:(sLen+m) * 1<=(sLen+m) * i.bytes:=Nat.mul_le_mul_left _ hb;have h63:¬(9223372036854775807 < ((sLen:Int)+ (m:Int))):=by omega
 have h48:=growslice_fits hg hfit;have h48':¬(281474976710656 < Builtin.nextslicecap (sLen+m) sCap * i.bytes):=by omega
 rcases hnz with rfl| ⟨e',rfl⟩<;>
 (simp[Builtin.append_,run_underlying ht,run_underlying hu,sizeOf,typeInfo,zeroValue,hi,hz,hx.len,hn,h63,h48',Question.forced,hfi,hol,newRow,grownCap]
  try (congr 2;apply Array.ext';simp[List.append_assoc]))
def AS.dropC(O:AS):AS:={ n:=O.n,t:=O.t,h:=O.h,e:=O.e.filter fun p=>match p.2 with|.s _=>true|.c _ _=>false }
theorem SimE.dropC{tm:Array Value}(h:SimE F X O tm):SimE F X O.dropC tm:=h.sub rfl (fun _ _ h=>h) (fun _ _ h=>h) (fun _ hp=>(Z2.1 hp).1)
def qi{O:AS}{b:Nat}:∀p∈O.dropC.e,∀o,p.2≠.c b o:=by intro p hp o he;have:=(Z2.1 hp).2;rw[he] at this;cases this
def v7{l:List (List AV)}{sz off b:Nat}{c:Nat->Nat->Value}(c1:∀ (i:Nat) (r:List AV),l[i]? =some r->r.length=sz)(c2:∀ (i j:Nat) (r:List AV) (u:AV),l[i]? =some r->r[j]? =some u->X.w.cell? ⟨b,off+i * sz+j,none⟩=some (c i j)):
  ∀q,q < l.length * sz->X.w.cell? ⟨b,off+q,none⟩=some (c (q / sz) (q % sz)):=by
 intro q hq;have hsz:0 < sz:=by
  rcases abx sz with h|h
  ·subst h;omega
  ·exact h
 have hi:q / sz < l.length:=Nat.div_lt_of_lt_mul (by rw[aa5];exact hq);have hj:q % sz < sz:=Nat.mod_lt _ hsz;have hr:=c1 _ _ (ZE hi);have:=c2 (q / sz) (q % sz) _ (l[q / sz][q % sz]'(by omega)) (ZE hi) (ZE (by omega));rw[<- this]
 congr 2
 have:=Nat.div_add_mod q sz;rw[aa5] at this;omega
def rowCells(sz n:Nat)(c:Nat->Nat->Value):List Value:=(List.range (n * sz)).map fun q=>c (q / sz) (q % sz)
theorem bZ(sz n:Nat)(c:Nat->Nat->Value):(rowCells sz n c).length=n * sz:=by simp[rowCells]
def jN{sz n:Nat}{c:Nat->Nat->Value}{i j:Nat}(hi:i < n)(hj:j < sz):(rowCells sz n c)[i * sz+j]? =some (c i j):=by
 have hlt:i * sz+j < n * sz:=by
  have:i * sz+sz<=n * sz:=by rw[<- aaK];exact aaa _ hi
  omega
 have h1:(i * sz+j) / sz=i:=by rw[aa5,Nat.mul_add_div (by omega),abr hj,aa6]
 have h2:(i * sz+j) % sz=j:=by rw[aa5,Nat.mul_add_mod,abD hj]
 simp[rowCells,hlt,h1,h2]
structure AddsA (P:Program) (X:GW) (sz:Nat) (m:List (List AV)) (x:Value) (c:Nat->Nat->Value):Prop where
 len:(Builtin.lenOf x).run P X.w=.ok m.length X.w
 first:∀w',w'.heap=X.w.heap->(Builtin.firstCells sz m.length x).run P w'=.ok (rowCells sz m.length c).toArray w'
 rows:∀r∈m,r.length=sz
 rel:∀ (i j:Nat) (r:List AV) (u:AV),m[i]? =some r->r[j]? =some u->Rel X u (c i j)
 one:∀v∈rowCells sz m.length c,v.oneCell'=true
def AV.one:AV->Bool
 |.v x=>x.oneCell'
 |.sl _ _ _=>true
 |.el _=>true
 |.fn _ _=>true
 |.ifc _ _=>true
 |_=>false
def AV.one_rel{u:AV}{v:Value}(h:Rel X u v)(ho:u.one=true):v.oneCell'=true:=by cases h<;> first|exact ho|rfl|cases ho
def u5{o:Bool}{sz:Nat}{m:List (List AV)}{v:Value}(h:Rel X (.sl o sz m) v)(h1:∀r∈m,r.length=sz/\∀u∈r,u.one=true):∃c,AddsA P X sz m v c:=by
 rcases ni h with ⟨⟨a0,c0,rfl⟩,rfl⟩| ⟨b,off,cap,n,rfl,hg,hn,hc,c,c1,c2,c3⟩
 ·exact⟨fun _ _=>undef,⟨rfl,fun w' _=>by
   cases a0 with
   |none=>simp[Builtin.firstCells,rowCells]
   |some a0=>simp[Builtin.firstCells,rowCells];exact run_loadCells (P:=P) (w:=w') a0 0 (fun _=>undef) (fun j hj=>absurd hj (Nat.not_lt_zero _)),by simp,by simp,by simp[rowCells]⟩⟩
 ·have hcell:=v7 (X:=X) c1 c2;refine⟨c,⟨rfl,fun w' hw=> ?_,fun r hr=>(h1 r hr).1,c3,fun v hv=> ?_⟩⟩
  ·refine run_firstCells_some (P:=P) w' sz m.length ⟨b,off,none⟩ m.length cap _ (bZ _ _ _) (fun j v hv=> ?_)
   rw[e9];simp only[rowCells,List.getElem?_map,Option.map_eq_some_iff] at hv;obtain⟨q,hq,rfl⟩:=hv;have hq':=ZD.1 hq;obtain⟨hlt,he⟩:=hq';simp only[List.getElem_range] at he;subst he;simp only[List.length_range] at hlt;rw[show w'.cell? ⟨b,off+j,none⟩=X.w.cell? ⟨b,off+j,none⟩ by simp only[World.cell?,hw]];exact hcell j hlt
  ·simp only[rowCells,List.mem_map,List.mem_range] at hv;obtain⟨q,hq,rfl⟩:=hv;have hsz:0 < sz:=by
    rcases abx sz with h|h
    ·subst h;omega
    ·exact h
   have hi:q / sz < m.length:=Nat.div_lt_of_lt_mul (by rw[aa5];exact hq);have hj:q % sz < sz:=Nat.mod_lt _ hsz;have hr:=c1 _ _ (ZE hi);exact AV.one_rel (c3 (q / sz) (q % sz) _ (m[q / sz][q % sz]'(by omega)) (ZE hi) (ZE (by omega))) ((h1 _ (aaD hi)).2 _ (aaD (by omega)))
end
section
variable {P:Program} {Q:Exit->AS->Prop} {ks:List It} {T:Tys P} {O:AS} {t u ty e:TypeId} {x y z:Operand} {pos:String} {af:Array Edge} {g:Option (Nat × Bool)} {F:Nat->Prop} {X:GW}
def CG{o:Option AV}{sz:Nat}{l:List (List AV)}(h:de o=some (sz,l)):o=some (.sl true sz l):=by
 unfold de at h;split at h
 ·cases h;rfl
 ·cases h
def Ek{tm:Array Value}{r:Root}{sz:Nat}{l:List (List AV)}{v:Value}(hs:SimE F X O tm)(ho:O.own r=some (sz,l))(hv:rootV tm X.w r=some v):Rel X (.sl true sz l) v:=by
 cases r with
 |s t=>have:=CG ho;have h1:=hs.slot t _ this;simp only[rootV,Option.some.injEq] at hv;rw[<- hv];exact h1
 |c k o=>obtain⟨cs,hc,h1⟩:=g6 ho;have h2:=CG h1;obtain⟨b1,b2,arr,e,fr,b3,b4,b5,b6⟩:=(hs.box k cs hc).own h1;simp only[rootV,World.cell?,b3] at hv;exact b6 o _ v h2 (by simpa using hv)
def yb{sz:Nat}{L m:List (List AV)}{c c':Nat->Nat->Value}{rest:Array Value}(hL:∀r∈L,r.length=sz)(hm:∀r∈m,r.length=sz)(rL:∀ (i j:Nat) (r:List AV) (u:AV),L[i]? =some r->r[j]? =some u->Rel X u (c i j))(rm:∀ (i j:Nat) (r:List AV) (u:AV),m[i]? =some r->r[j]? =some u->Rel X u (c' i j)):
  ∀ (i j:Nat) (r:List AV) (u:AV),(L++m)[i]? =some r->r[j]? =some u->∃v,((rowCells sz L.length c).toArray++ (rowCells sz m.length c').toArray++rest)[i * sz+j]? =some v/\Rel X u v:=by
 intro i j r u hr hu;have hj:j < r.length:=(ZD.1 hu).1;have hsz:r.length=sz:=by
  rcases aaf.1 (ZQ hr) with h|h
  ·exact hL r h
  ·exact hm r h
 have s1:(rowCells sz L.length c).toArray.size=L.length * sz:=by simp[bZ]
 have s2:(rowCells sz m.length c').toArray.size=m.length * sz:=by simp[bZ]
 by_cases hi:i < L.length
 ·rw[ZO hi] at hr;refine⟨c i j,?_,rL i j r u hr hu⟩;have hlt:i * sz+j < L.length * sz:=by
   have:i * sz+sz<=L.length * sz:=by rw[<- aaK];exact aaa _ hi
   omega
  rw[aaN (by simp only[Array.size_append,s1];omega),aaN (by omega)];simpa using jN hi (by omega)
 ·rw[ZJ (by omega)] at hr;refine⟨c' (i - L.length) j,?_,rm _ j r u hr hu⟩;have hi2:i - L.length < m.length:=(ZD.1 hr).1;have hlt:(i - L.length) * sz+j < m.length * sz:=by
   have:(i - L.length) * sz+sz<=m.length * sz:=by rw[<- aaK];exact aaa _ hi2
   omega
  have he:i * sz+j=L.length * sz+ ((i - L.length) * sz+j):=by
   have:i * sz=L.length * sz+ (i - L.length) * sz:=by rw[<- aae];congr 1;omega
   omega
  rw[aaN (by simp only[Array.size_append,s1,s2];omega),Array.getElem?_append_right (by omega),s1,he,aba];simpa using jN hi2 (by omega)
structure Appended (F:Nat->Prop) (X X':GW) (O:AS) (tm:Array Value) (sz:Nat) (l:List (List AV)) (y:Value):Prop where
 sim:SimE F X' O tm
 ext:Ext F X X'
 rel:Rel X' (.sl true sz l) y
 own:gH F X' sz l y
 apart:∀r sz l a n c a' n' c',O.own r=some (sz,l)->rootV tm X'.w r=some (.slice (some a) n c)->y=.slice (some a') n' c'->a.block≠a'.block
def o4{X':GW}{tm:Array Value}{sz:Nat}{l:List (List AV)}{y:Value}(hs:SimE F X O tm)(hn:New X X')(hg:∀b n,X'.g b=some n->b < X'.w.heap.size)(hr:Rel X' (.sl true sz l) y)(hf:FreshOk F X.w.heap.size X' (.sl true sz l) y):Appended F X X' O tm sz l y:=by
 have h1:=hf sz l rfl;refine⟨hs.new hn hg,hn.ext hs.gb hs.fb,hr,h1.1,fun r sz' l' a n c a' n' c' ho hrv hy=> ?_⟩;have h2:=h1.2 a' n' c' hy;obtain⟨v,k1,k2⟩:=hs.own r sz' l' ho;rw[v8 hn k1] at hrv;cases hrv;rcases k2 with ⟨k2,_⟩| ⟨b,cap,cs,e,fr,k2,_,k3,_⟩
 ·cases k2
 ·cases k2;have:=(ZU.1 k3).1;simp only;omega
set_option maxHeartbeats 1000000 in
def wC{tm:Array Value}{i:TypeInfo}{zv:Value}{du:TypeDesc}{sz:Nat}{L m:List (List AV)}{xv yv:Value}{c':Nat->Nat->Value}(hs:SimE F X O tm)(ht:P.underlying t=some (.slice e))(hu:P.underlying u=some du)(hnz:du=.string\/∃e',du=.slice e')(hi:P.info? e=some i)(hz:i.zero=some zv)(hzs:zv.cells.size=sz)(his:i.size=sz)
  (hrel:Rel X (.sl true sz L) xv) (hown:gH F X sz L xv) (hL:∀r∈L,r.length=sz) (hadd:AddsA P X sz m yv c') (hfit:(L.length+m.length) * i.bytes<=140737488355328) (hb:1<=i.bytes)
  (hap:∀r sz l a n c a' n' c',O.own r=some (sz,l)->rootV tm X.w r=some (.slice (some a) n c)->xv=.slice (some a') n' c'->a.block≠a'.block) (hal:∀b,∀p∈O.e,∀o,p.2≠.c b o):
  ∃X' y,(Builtin.append_ #[t,u] ty #[xv,yv]).run P X.w=.ok y X'.w/\Appended F X X' O tm sz (L++m) y:=by
 have hA:Adds P X.w i.size m.length yv (rowCells sz m.length c'):=⟨hadd.len,by rw[his];exact hadd.first,by rw[his];exact bZ _ _ _⟩
 rcases hown with ⟨rfl,rfl⟩| ⟨b,cap,cs,el,fr,rfl,hg,hh,hcs,hfr,hF⟩
 ·by_cases hm0:m=[]
  ·subst hm0;refine⟨X,.slice none 0 0,wP ht hu hnz hi hA,hs,Ext.refl F X,.nil _ _,.inl ⟨rfl,rfl⟩,fun r sz' l' a n c a' n' c' _ _ h=>by cases h⟩
  ·have hmp:0 < m.length:=List.length_pos_iff.2 hm0;have hrun:=im (P:=P) (ty:=ty) (sLen:=0) (sCap:=0) (a:=none) (olds:=[]) ht hu hnz hi hz hA (fun w' _=>by simp[Builtin.firstCells]) (by omega) (by simpa using hfit) hb;have hcge:=grownCap_ge X.w (0+m.length) 0 e
   obtain⟨X',h1,h2,h3,h4,h5⟩:=uJ (X:=X) (F:=F) (w':=X.w.drew.alloc (.cells ((rowCells sz ([] :List (List AV)).length c').toArray++ (rowCells sz m.length c').toArray++Builtin.zeroCells zv.cells (grownCap X.w (0+m.length) 0 e - (0+m.length))) e)) (cap:=grownCap X.w (0+m.length) 0 e) (sz:=sz) (rows:=[] ++m) rfl rfl rfl rfl hs.gb hs.fb (by simpa using hadd.rows)
    (by simp only[Array.size_append,size_zeroCells,List.size_toArray,bZ,hzs];simp only[List.length_nil,Nat.zero_mul,Nat.zero_add] at hcge ⊢;rw[<- aae];congr 1;omega) (by simpa using hcge) (yb (by simp) hadd.rows (by simp) hadd.rel) (fun j _ _=>by simp)
   refine⟨X',_,?_,o4 hs h2 h3 h4 h5⟩;rw[hrun,h1];simp[rowCells]
 ·have hform : ∃ b' off cap' n, (Value.slice (some ⟨b, 0, none⟩) L.length cap = .slice (some ⟨b', off, none⟩) L.length cap') /\ X.g b' = some n /\ off + L.length * sz <= n /\ L.length <= cap' /\
    ∃c:Nat->Nat->Value,(∀ (i:Nat) (r:List AV),L[i]? =some r->r.length=sz)/\(∀ (i j:Nat) (r:List AV) (u:AV),L[i]? =some r->r[j]? =some u->X.w.cell? ⟨b',off+i * sz+j,none⟩=some (c i j))/\(∀ (i j:Nat) (r:List AV) (u:AV),L[i]? =some r->r[j]? =some u->Rel X u (c i j)):=by
   rcases ni hrel with ⟨_,hl0⟩|h2
   ·subst hl0;exact⟨b,0,cap,_,rfl,hg,by simp,aad _,fun _ _=>undef,by simp,by simp,by simp⟩
   ·exact h2
  obtain⟨b',off,cap',n,h,hg',hn,hc,c,c1,c2,c3⟩:=hform
  ·cases h;by_cases hroom:L.length+m.length<=cap
   ·have hle:(L.length+m.length) * sz<=cap * sz:=aaa _ hroom;rw[aae] at hle;have hcell:∀j,j < (rowCells sz m.length c').length->(X.w.cell? ⟨b,L.length * i.size+j,none⟩).isSome=true:=by
     intro j hj;rw[bZ] at hj;have:L.length * i.size+j < cs.size:=by rw[his,hcs];omega
     simp[World.cell?,hh,this]
    have hfro:∀j,j < (rowCells sz m.length c').length->X.w.frozen? ⟨b,L.length * i.size+j,none⟩=false:=by intro j hj;rw[bZ] at hj;exact hfr _ (by rw[his];omega) (by rw[his,hcs];omega)
    have hrun:=ns (P:=P) (ty:=ty) (b:=b) (sLen:=L.length) (sCap:=cap) ht hu hnz hi hA hadd.one hroom hcell hfro
    let w':=X.w.setCells b (L.length * i.size) (rowCells sz m.length c')
    have hkept:∀q,q < L.length * sz->w'.cell? ⟨b,q,none⟩=X.w.cell? ⟨b,q,none⟩:=fun q hq=>World.cell?_setCells_out b _ _ _ _ (fun _ _=>.inl (by rw[his];exact hq));have hheap:∀k,k≠b->w'.heap[k]? =X.w.heap[k]? :=by
     have:∀ (vs:List Value) (o:Nat) (w:World) (k:Nat),k≠b->(w.setCells b o vs).heap[k]? =w.heap[k]? :=by
      intro vs
      induction vs with
      |nil=>intros;rfl
      |cons v r ih=>intro o w k hk;simp only[World.setCells];rw[ih _ _ _ hk];exact Below.heap_setCell _ _ _ _ hk
     exact fun k hk=>this _ _ _ k hk
    have hshape:∀ (vs:List Value) (o:Nat) (w:World) (cs:Array Value),w.heap[b]? =some (.cells cs el fr)->∃cs':Array Value,(w.setCells b o vs).heap[b]? =some (.cells cs' el fr)/\cs'.size=cs.size/\(w.setCells b o vs).heap.size=w.heap.size/\(w.setCells b o vs).os=w.os/\(w.setCells b o vs).tape=w.tape/\(w.setCells b o vs).output=w.output:=by
     intro vs
     induction vs with
     |nil=>intro o w cs h;exact⟨cs,h,rfl,rfl,rfl,rfl,rfl⟩
     |cons v r ih=>
      intro o w cs h;simp only[World.setCells];have h2:(w.setCell ⟨b,o,none⟩ v).heap[b]? =some (.cells (cs.setIfInBounds o v) el fr):=by
       have hlt:=(ZU.1 h).1;have hv:w.heap[b] =.cells cs el fr:=by rw[ZV hlt] at h;exact ZZ h
       simp[World.setCell,Array.getElem_modify,hlt,hv]
      obtain⟨cs',k1,k2,k3,k4,k5,k6⟩:=ih (o+1) _ _ h2;exact⟨cs',k1,by rw[k2];simp,by rw[k3];simp[World.setCell],k4,k5,k6⟩
    obtain⟨cs',k1,k2,k3,k4,k5,k6⟩:=hshape (rowCells sz m.length c') (L.length * i.size) X.w cs hh;have hlt:=(ZU.1 hh).1;have hpres:nj X (X.with w' b ((L.length+m.length) * sz)):=by
     intro q n hq;by_cases e1:q=b
     ·subst e1;rw[hg] at hq;cases hq;exact⟨_,aaa _ (by omega),nO,fun j hj=>hkept j hj⟩
     ·exact⟨n,ZN _,by rw[rg e1];exact hq,fun j _=>dm (hheap q e1)⟩
    have hsim:SimE F (X.with w' b ((L.length+m.length) * sz)) O tm:=by
     refine hs.turn b (fun k hk _=>⟨hheap k hk,rg hk⟩) (by show X.w.heap.size<=w'.heap.size;rw[k3];exact ZN _) hpres (fun q n hq=> ?_) (fun r sz' l' a n c ho hrv=>hap r sz' l' a n c _ _ _ ho hrv rfl) (fun k cs0 hk e1=> ?_) (hal b)
     ·show q < w'.heap.size;rw[k3];by_cases e1:q=b
      ·rw[e1];exact hlt
      ·rw[rg e1] at hq;exact hs.gb q n hq
     ·have:=(hs.box k cs0 hk).gn;rw[e1,hg] at this;cases this
    have hrw:(X.with w' b ((L.length+m.length) * sz)).w=w':=rfl;refine⟨X.with w' b ((L.length+m.length) * sz),_,hrun,hsim,⟨k4,k5,k6,by rw[hrw,k3];exact ZN _,fun q hq=> ?_,hpres⟩,?_,.inr ⟨b,cap,cs',el,fr,by rw[ZR],by rw[ZR];exact nO,k1,by rw[k2,hcs],fun j h1 h2=> ?_,hF⟩,fun r sz' l' a n c a' n' c' ho hrv hy=> ?_⟩
    ·have hne:q≠b:=fun e1=>hF (by rw[<- e1];exact hq);exact⟨hheap q hne,rg hne⟩
    ·suffices hR:Rel (X.with w' b ((L.length+m.length) * sz)) (.sl true sz (L++m)) (.slice (some ⟨b,0,none⟩) (L++m).length cap) by
      rw[ZR] at hR;exact hR
     refine .sl true sz (L++m) b 0 cap _ (fun q j=>if q < L.length then c q j else c' (q - L.length) j) nO (by simp) (by simpa using hroom) (fun q r hr=> ?_) (fun q j r v hr hv=> ?_) (fun q j r v hr hv=> ?_)
     ·rcases aaf.1 (ZQ hr) with h|h
      ·exact hL r h
      ·exact hadd.rows r h
     ·have hj:j < r.length:=(ZD.1 hv).1;by_cases hq:q < L.length
      ·rw[ZO hq] at hr;rw[ZI hq,<- c2 q j r v hr hv];have hsr:=c1 q r hr;have:q * sz+sz<=L.length * sz:=by rw[<- aaK];exact aaa _ hq
       exact hkept _ (by omega)
      ·rw[ZJ (by omega)] at hr;rw[ZH hq];have hq2:q - L.length < m.length:=(ZD.1 hr).1;have hsr:=hadd.rows r (ZQ hr);have he:0+q * sz+j=L.length * i.size+ ((q - L.length) * sz+j):=by
        have:q * sz=L.length * sz+ (q - L.length) * sz:=by rw[<- aae];congr 1;omega
        rw[his];omega
       have hin:(q - L.length) * sz+j < (rowCells sz m.length c').length:=by
        rw[bZ];have:(q - L.length) * sz+sz<=m.length * sz:=by rw[<- aaK];exact aaa _ hq2
        omega
       rw[he];show w'.cell? _=_;rw[World.cell?_setCells_in b _ _ _ hcell _ hin];have:=jN (sz:=sz) (c:=c') hq2 (j:=j) (by omega);rw[ZE hin] at this;exact this
     ·by_cases hq:q < L.length
      ·rw[ZO hq] at hr;rw[ZI hq];exact(c3 q j r v hr hv).mono hpres
      ·rw[ZJ (by omega)] at hr;rw[ZH hq];exact(hadd.rel _ j r v hr hv).mono hpres
    ·show w'.frozen? _=false;rw[World.frozen?_setCells];rw[ZR,aae] at h1;rw[k2] at h2;exact hfr j (by omega) h2
    ·cases hy;have:rootV tm X.w r=some (.slice (some a) n c):=by
      obtain⟨v,v1,v2⟩:=hs.own r sz' l' ho;cases r with
      |s t0=>exact hrv
      |c k0 o0=>
       obtain⟨cs0,hc0,_⟩:=g6 ho;have hk0:k0≠b:=fun e1=>by have:=(hs.box k0 cs0 hc0).gn;rw[e1,hg] at this;cases this
       simp only[rootV] at hrv ⊢;rw[<- dm (w':=w') (hheap k0 hk0)];exact hrv
     exact hap r sz' l' a n c _ _ _ ho this rfl
   ·have hcell:=v7 (X:=X) c1 c2;have hcell':∀q,q < L.length * sz->X.w.cell? ⟨b,q,none⟩=some (c (q / sz) (q % sz)):=by simpa using hcell
    have hrun:=im (P:=P) (ty:=ty) (sLen:=L.length) (sCap:=cap) (a:=some ⟨b,0,none⟩) (olds:=rowCells sz L.length c) ht hu hnz hi hz hA (fun w' hw=>by
     rw[his];refine run_firstCells_some (P:=P) w' sz L.length ⟨b,0,none⟩ L.length cap _ (bZ _ _ _) (fun j v hv=> ?_);rw[e9];simp only[rowCells,List.getElem?_map,Option.map_eq_some_iff] at hv;obtain⟨q,hq,rfl⟩:=hv;obtain⟨hlt,he⟩:=ZD.1 hq;simp only[List.getElem_range] at he;subst he;simp only[List.length_range] at hlt
     rw[show w'.cell? ⟨b,0+j,none⟩=X.w.cell? ⟨b,j,none⟩ by simp only[World.cell?,hw,Nat.zero_add]];exact hcell' j hlt) (by omega) hfit hb
    have hcge:=grownCap_ge X.w (L.length+m.length) cap e
    obtain⟨X',h1,h2,h3,h4,h5⟩:=uJ (X:=X) (F:=F) (w':=X.w.drew.alloc (.cells ((rowCells sz L.length c).toArray++ (rowCells sz m.length c').toArray++Builtin.zeroCells zv.cells (grownCap X.w (L.length+m.length) cap e - (L.length+m.length))) e)) (cap:=grownCap X.w (L.length+m.length) cap e) (sz:=sz) (rows:=L++m) rfl rfl rfl rfl hs.gb hs.fb
     (fun r hr=>by
      rcases aaf.1 hr with h|h
      ·exact hL r h
      ·exact hadd.rows r h)
     (by simp only[Array.size_append,size_zeroCells,List.size_toArray,bZ,hzs];rw[<- aae,<- aae];congr 1;omega) (by simpa using hcge) (yb hL hadd.rows c3 hadd.rel) (fun j _ _=>by simp)
    refine⟨X',_,?_,o4 hs h2 h3 h4 h5⟩;rw[hrun,h1,ZR]
end
end Go.Proofs.Ytlhjbhgkhpbnfaa
