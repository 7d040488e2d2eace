import Derived.Test.YtobacplonkjigaaDoorBk07
import Derived.Recover
import Derived.Defers
import Derived.RegionTactic
import Derived.BigRegion
import Derived.Shelf.Strings.OnBuilder
import Derived.Test.YtobacplonkjigaaDoorProg
set_option linter.unusedSimpArgs false
set_option linter.unusedVariables false
namespace Go.Proofs.YtobacplonkjigaaDoor
open Go.RowKit P
theorem N3(W:World)(k2 k3:Nat)(hne:k2≠k3)(p:Value)(e a:Int)(T2 T3:TypeId)(h2:W.heap[k2]? =some (.cells #[p] T2 (0,0)))(h3:W.heap[k3]? =some (.cells #[.int .i64 e,.int .i64 a] T3 (0,0))):
  SimE (fun b=>b < W.heap.size∧b≠k2∧b≠k3) ⟨W,fun _=>none⟩ ⟨2,slotsOf 0 [.v (.pointer (some ⟨k2,0,none⟩)),.v (.pointer (some ⟨k3,0,none⟩))],[(k2,[.v p]),(k3,[.v (.int .i64 e),.v (.int .i64 a)])],[]⟩ #[.pointer (some ⟨k2,0,none⟩),.pointer (some ⟨k3,0,none⟩)] :=by
 have hno:∀r sz l,AS.own ⟨2,slotsOf 0 [.v (.pointer (some ⟨k2,0,none⟩)),.v (.pointer (some ⟨k3,0,none⟩))],[(k2,[.v p]),(k3,[.v (.int .i64 e),.v (.int .i64 a)])],[]⟩ r=some (sz,l)→False:=by
  intro r sz l ho
  cases r with
  |s t=>
   simp only[AS.own,slotsOf,ab,av] at ho
   split at ho
   ·cases ho
   ·split at ho<;> cases ho
  |c k o=>
   simp only[AS.own,ab,av] at ho
   split at ho
   ·rename_i cs hcs
    split at hcs
    ·cases hcs
     match o,ho with
     |0,ho=>cases ho
     |n+1,ho=>simp[cw] at ho
    ·split at hcs
     ·cases hcs
      match o,ho with
      |0,ho=>cases ho
      |1,ho=>cases ho
      |n+2,ho=>simp[cw] at ho
     ·cases hcs
   ·cases ho
 refine⟨⟨rfl,fun b n h=>(by cases h),fun b h=>h.1,fun t u hu=> ?_,fun k cs hk'=> ?_,fun x r hx=>by simp[av] at hx,fun r sz l ho=>(hno r sz l ho).elim,fun r r' sz l sz' l' a n c a' n' c' _ ho=>(hno r sz l ho).elim⟩,fun p hp=>by cases hp⟩
 ·simp only[slotsOf,ab,av] at hu
  split at hu
  ·rename_i e;subst e;cases hu;exact .v _
  ·split at hu
   ·rename_i e;subst e;cases hu;exact .v _
   ·cases hu
 ·simp only[ab,av] at hk'
  split at hk'
  ·rename_i e
   subst e
   cases hk'
   refine eg.box ⟨rfl,fun h=>h.2.1 rfl,_,_,_,h2,rfl,fun o=>by simp[World.frozen?,h2],fun o u x hu hx=> ?_⟩
   match o,hu,hx with
   |0,hu,hx=>simp at hu hx;subst hu hx;exact .v _
   |n+1,hu,hx=>simp at hu
  ·split at hk'
   ·rename_i e
    subst e
    cases hk'
    refine eg.box ⟨rfl,fun h=>h.2.2 rfl,_,_,_,h3,rfl,fun o=>by simp[World.frozen?,h3],fun o u x hu hx=> ?_⟩
    match o,hu,hx with
    |0,hu,hx=>simp at hu hx;subst hu hx;exact .v _
    |1,hu,hx=>simp at hu hx;subst hu hx;exact .v _
    |n+2,hu,hx=>simp at hu
   ·cases hk'
theorem GG(W:World)(k2 k3:Nat)(hne:k2≠k3)(e a:Int)(T2 T3:TypeId)(h2:W.heap[k2]? =some (.cells #[.pointer none] T2 (0,0)))(h3:W.heap[k3]? =some (.cells #[.int .i64 0,.int .i64 0] T3 (0,0))):
  CallsD Tryd.prog 34 #[.pointer (some ⟨k2,0,none⟩),.pointer (some ⟨k3,0,none⟩)] (.panicking [{ v:=faultV e a,recovered:=false }]) W fun x u' w'=>u'=.panicking [{ v:=faultV e a,recovered:=true }] ∧(∃v,x=.returned v)∧w'.cell? ⟨k2,0,none⟩=some (.pointer none)∧w'.cell? ⟨k3,0,none⟩=some (.int .i64 e)∧w'.cell? ⟨k3,1,none⟩=some (.int .i64 a)∧(∃X':GW,X'.w=w'∧Ext (fun b=>b < W.heap.size∧b≠k2∧b≠k3) ⟨W,fun _=>none⟩ X'):=by
 refine(Qh k2 k3 e a hne _ ⟨W,fun _=>none⟩ _ (N3 W k2 k3 hne _ 0 0 T2 T3 h2 h3)).mono ?_
 rintro x u' w' ⟨rfl,X',out,H',rfl,⟨rfl,l2,l3⟩,⟨v,rfl,hs⟩,hx⟩
 exact⟨rfl,⟨v,rfl⟩,(mr hs l2 rfl rfl).1,(mr hs l3 rfl rfl).1,(mr hs l3 rfl rfl).1,X',rfl,hx⟩
theorem Ou(W:World)(k2 k3:Nat)(hne:k2≠k3)(p:Value)(e a:Int)(T2 T3:TypeId)(h2:W.heap[k2]? =some (.cells #[p] T2 (0,0)))(h3:W.heap[k3]? =some (.cells #[.int .i64 e,.int .i64 a] T3 (0,0))):
  CallsD Tryd.prog 34 #[.pointer (some ⟨k2,0,none⟩),.pointer (some ⟨k3,0,none⟩)] .returning W fun x u' w'=>u'=.returning∧(∃v,x=.returned v)∧w'.cell? ⟨k2,0,none⟩=some p∧w'.cell? ⟨k3,0,none⟩=some (.int .i64 e)∧w'.cell? ⟨k3,1,none⟩=some (.int .i64 a)∧(∃X':GW,X'.w=w'∧Ext (fun b=>b < W.heap.size∧b≠k2∧b≠k3) ⟨W,fun _=>none⟩ X'):=by
 refine(QK k2 k3 (.v p) (.v (.int .i64 e)) (.v (.int .i64 a)) hne _ ⟨W,fun _=>none⟩ _ (N3 W k2 k3 hne p e a T2 T3 h2 h3)).mono ?_
 rintro x u' w' ⟨rfl,X',out,H',rfl,⟨rfl,l2,l3⟩,⟨v,rfl,hs⟩,hx⟩
 exact⟨rfl,⟨v,rfl⟩,(mr hs l2 rfl rfl).1,(mr hs l3 rfl rfl).1,(mr hs l3 rfl rfl).1,X',rfl,hx⟩
theorem gO(w:World)(o:Obj):(w.alloc o).heap.size=w.heap.size+1:=by unfold World.alloc;exact Array.size_push ..
abbrev cpW(m:List UInt8)(w:World):World:=((w.alloc (.cells #[.pointer none] 38)).alloc (.cells #[.int .i64 0,.int .i64 0] 53)).alloc (.cells #[.string (mkB m),.int .i64 0,.int .i64 0,.slice none 0 0] 69)
theorem fa(m:List UInt8)(w:World):(cpW m w).heap.size=w.heap.size+1+1+1:=by rw[gO,gO,gO]
theorem MU(m:List UInt8)(w:World):(cpW m w).heap[w.heap.size+1+1]? =some (.cells #[.string (mkB m),.int .i64 0,.int .i64 0,.slice none 0 0] 69 (0,0)):=by
 have:=heap_alloc_new ((w.alloc (.cells #[.pointer none] 38)).alloc (.cells #[.int .i64 0,.int .i64 0] 53)) (.cells #[.string (mkB m),.int .i64 0,.int .i64 0,.slice none 0 0] 69)
 rwa [gO,gO] at this
theorem Mc(m:List UInt8)(w:World):(cpW m w).heap[w.heap.size+1]? =some (.cells #[.int .i64 0,.int .i64 0] 53 (0,0)):=by
 rw[Below.heap_alloc _ _ _ (by rw[gO,gO];omega)]
 have:=heap_alloc_new (w.alloc (.cells #[.pointer none] 38)) (.cells #[.int .i64 0,.int .i64 0] 53)
 rwa [gO] at this
theorem K2(m:List UInt8)(w:World):(cpW m w).heap[w.heap.size]? =some (.cells #[.pointer none] 38 (0,0)):=by
 rw[Below.heap_alloc _ _ _ (by rw[gO,gO];omega),Below.heap_alloc _ _ _ (by rw[gO];omega)]
 exact heap_alloc_new w (.cells #[.pointer none] 38)
theorem vI(m:List UInt8)(w:World):Below w.heap.size w (cpW m w):=(((Below.refl _ w).alloc (Nat.le_refl _) _).alloc (by rw[gO];omega) _).alloc (by rw[gO,gO];omega) _
theorem j9{B:Nat}{F:Nat→Prop}{X X':GW}(h:Ext F X X')(hF:∀b,b < B→F b):Below B X.w X'.w:=⟨h.os,h.tape,h.output,h.size,fun b hb=>(h.frame b (hF b hb)).1⟩
set_option maxRecDepth 100000 in
set_option maxHeartbeats 4000000 in
theorem CX{N:Nat}(m:List UInt8)(hm:m.length≤60)(e a:Int)(h:Ff N m=some (.pan (faultV e a)))(w:World):
  Calls Tryd.prog 19 #[.string (mkB m)] w fun x w'=>x=.returned (.tuple #[.pointer none,.agg #[.int .i64 e,.int .i64 a]])∧Below w.heap.size w w':=by
 have hsize:= @jD
 have hmf:∀ (fn:Fn) (first cap:Array Value) (w:World),(Instr.makeFunc fn first cap).run Tryd.prog w=.ok (.func fn first cap) w:=fun _ _ _ _=>rfl
 have hmw:=Gq m (cpW m w) (w.heap.size+1+1) _ (MU m w) h
 go_enter_defers Tryd.func19,Tryd.ntmps19
 go_wp2_with (go_at_call 35;refine hmw.mono ?_)
 intro x w' X1 hw hx1 hpan
 subst hw hpan
 have hne:w.heap.size≠w.heap.size+1:=by omega
 have f2:=(hx1.frame w.heap.size ⟨by rw[fa];omega,by omega⟩).1
 have f3:=(hx1.frame (w.heap.size+1) ⟨by rw[fa];omega,by omega⟩).1
 have hb1:Below w.heap.size w X1.w:=(vI m w).trans (j9 hx1 fun b hb=>⟨by rw[fa];omega,by omega⟩)
 have hclo:=GG X1.w w.heap.size (w.heap.size+1) hne e a _ _ (f2.trans (K2 m w)) (f3.trans (Mc m w))
 show bodyPostD _ _ _ _ _ _
 refine leaves_cons (f:=34) (args:= #[.pointer (some ⟨w.heap.size,0,none⟩),.pointer (some ⟨w.heap.size+1,0,none⟩)]) (by simp) (by simp[go_sem]) ?_
 refine hclo.mono ?_
 rintro y u' w2 ⟨rfl,⟨v,rfl⟩,c2,c3,c4,X2,rfl,hx2⟩
 simp[Leaves,settle,results,Tryd.results19,go_sem,c2,c3,c4]
 have hz:=j9 (B:=w.heap.size) hx2 fun b hb=>⟨Nat.lt_of_lt_of_le hb hb1.size,by omega,by omega⟩
 exact hb1.trans hz
theorem zg{F:Nat→Prop}{X:GW}{n:Nat}{t:List (Nat × AV)}{tm:Array Value}{kx:Nat}{ρ:Rn}{s:List UInt8}{at_ gr:Int}{k:Nat}{l:List Vstep}(hs:SimE F X ⟨n,t,hTo EE.toEnc ρ (cmH s at_ gr k l),[]⟩ tm)(hk:ρ 100000=kx):X.w.cell? ⟨kx,1,none⟩=some (.int .i64 at_)∧X.w.cell? ⟨kx,2,none⟩=some (.int .i64 gr)∧X.w.cell? ⟨kx,3,none⟩=some (vecV (ρ.k 200001) 4 k):=by
 subst hk
 have hb:look (hTo EE.toEnc ρ (cmH s at_ gr k l)) (ρ 100000)=some [.v (.string (mkB s)),.v (.int .i64 at_),.v (.int .i64 gr),.v (vecV (ρ.k 200001) 4 k)] :=aH
 exact⟨(mr hs hb rfl rfl).1,(mr hs hb rfl rfl).1,(mr hs hb rfl rfl).1⟩
set_option maxRecDepth 100000 in
set_option maxHeartbeats 4000000 in
theorem Bq{N:Nat}(m:List UInt8)(hm:m.length≤60){emp:Bool}{s:List UInt8}{at_ gr:Int}{k:Nat}{l:List Vstep}(h:Ff N m=some (.ok (emp,s,at_,gr,k,l)))(hat:at_ < (m.length:Int))(w:World):
  Calls Tryd.prog 19 #[.string (mkB m)] w fun x w'=>x=.returned (.tuple #[.pointer none,.agg #[.int .i64 1,.int .i64 at_]])∧Below w.heap.size w w':=by
 have hsize:= @jD
 have hmf:∀ (fn:Fn) (first cap:Array Value) (w:World),(Instr.makeFunc fn first cap).run Tryd.prog w=.ok (.func fn first cap) w:=fun _ _ _ _=>rfl
 have hmw:=Gq m (cpW m w) (w.heap.size+1+1) _ (MU m w) h
 go_enter_defers Tryd.func19,Tryd.ntmps19
 go_wp2_with (go_at_call 35;refine hmw.mono ?_)
 intro x w' X1 hw hx1 hx ρ hρ hi hs
 subst hw hx
 obtain⟨c1,c2,c3⟩:=zg hs hρ
 have hne:w.heap.size≠w.heap.size+1:=by omega
 have f2:=(hx1.frame w.heap.size ⟨by rw[fa];omega,by omega⟩).1
 have f3:=(hx1.frame (w.heap.size+1) ⟨by rw[fa];omega,by omega⟩).1
 have hb1:Below w.heap.size w X1.w:=(vI m w).trans (j9 hx1 fun b hb=>⟨by rw[fa];omega,by omega⟩)
 have hfw:=Sg hs hρ hi 1 at_
 go_wp2_with (go_at_call 36;refine hfw.mono ?_)
 rintro x w' ⟨hx,X2,hw,hx2⟩
 subst hw hx
 have g2:=(hx2.frame w.heap.size ⟨by rw[fa];omega,by omega⟩).1
 have g3:=(hx2.frame (w.heap.size+1) ⟨by rw[fa];omega,by omega⟩).1
 have hb2:Below w.heap.size w X2.w:=hb1.trans (j9 hx2 fun b hb=>⟨by rw[fa];omega,by omega⟩)
 have hclo:=GG X2.w w.heap.size (w.heap.size+1) hne 1 at_ _ _ (g2.trans (f2.trans (K2 m w))) (g3.trans (f3.trans (Mc m w)))
 show bodyPostD _ _ _ _ _ _
 refine leaves_cons (f:=34) (args:= #[.pointer (some ⟨w.heap.size,0,none⟩),.pointer (some ⟨w.heap.size+1,0,none⟩)]) (by simp) (by simp[go_sem]) ?_
 refine hclo.mono ?_
 rintro y u' w2 ⟨rfl,⟨v,rfl⟩,c2,c3,c4,X3,rfl,hx3⟩
 simp[Leaves,settle,results,Tryd.results19,go_sem,c2,c3,c4]
 have hz:=j9 (B:=w.heap.size) hx3 fun b hb=>⟨Nat.lt_of_lt_of_le hb hb2.size,by omega,by omega⟩
 exact hb2.trans hz
set_option maxRecDepth 100000 in
theorem CV(m:List UInt8)(hm:60 < m.length)(w:World):
  Calls Tryd.prog 19 #[.string (mkB m)] w fun x w'=>x=.returned (.tuple #[.pointer none,.agg #[.int .i64 2,.int .i64 0]])∧Below w.heap.size w w':=by
 have hsize:= @jD
 go_enter_defers Tryd.func19,Tryd.ntmps19
 go_wp2
 simp[bodyPostD,Leaves,settle,results,Tryd.results19,go_sem]
 exact((Below.refl _ w).alloc (Nat.le_refl _) _).alloc (by rw[gO];omega) _
theorem Rv(b:Bk)(sz n:Nat)(hn:n≠0):vecV b sz n=.slice (some ⟨b.b,0,none⟩) n (n+b.sp.length / sz):=by
 unfold vecV
 rw[if_neg]
 simp only[Bool.and_eq_true,not_and]
 intro _ h
 exact hn (Nat.eq_of_beq_eq_true h)
theorem xD{w:World}{b:Nat}{cs:Array Value}{T:TypeId}(h:w.heap[b]? =some (.cells cs T (0,0)))(o:Nat):w.frozen? ⟨b,o,none⟩=false:=by simp[World.frozen?,h]
theorem uU{U:World}{b:Nat}{cs:Array Value}{T:TypeId}{fr:Nat × Nat}(h:U.heap[b]? =some (.cells cs T fr))(o:Nat)(v:Value):(U.setCell ⟨b,o,none⟩ v).heap[b]? =some (.cells (cs.setIfInBounds o v) T fr):=by
 simp[World.setCell,Array.getElem?_modify,h]
abbrev enW(U:World)(k2 k3:Nat)(p:Value):World:=(((U.setCell ⟨k2,0,none⟩ p).setCell ⟨k3,0,none⟩ (.int .i64 0)).setCell ⟨k3,1,none⟩ (.int .i64 0)).drew
theorem Uz{U:World}{k2 k3:Nat}{p q:Value}{T:TypeId}(hne:k2≠k3)(h:U.heap[k2]? =some (.cells #[q] T (0,0))):(enW U k2 k3 p).heap[k2]? =some (.cells #[p] T (0,0)):=by
 show(((U.setCell ⟨k2,0,none⟩ p).setCell ⟨k3,0,none⟩ (.int .i64 0)).setCell ⟨k3,1,none⟩ (.int .i64 0)).heap[k2]? =_
 rw[Below.heap_setCell _ _ _ _ hne,Below.heap_setCell _ _ _ _ hne]
 exact uU h 0 p
theorem UT{U:World}{k2 k3:Nat}{p a b:Value}{T:TypeId}(hne:k2≠k3)(h:U.heap[k3]? =some (.cells #[a,b] T (0,0))):(enW U k2 k3 p).heap[k3]? =some (.cells #[.int .i64 0,.int .i64 0] T (0,0)):=by
 have h1:(U.setCell ⟨k2,0,none⟩ p).heap[k3]? =some (.cells #[a,b] T (0,0)):=by rw[Below.heap_setCell _ _ _ _ (Ne.symm hne)];exact h
 exact uU (uU h1 0 (.int .i64 0)) 1 (.int .i64 0)
theorem Rc{U:World}{k2 k3 b:Nat}{p:Value}(h2:b≠k2)(h3:b≠k3):(enW U k2 k3 p).heap[b]? =U.heap[b]? :=by
 show(((U.setCell ⟨k2,0,none⟩ p).setCell ⟨k3,0,none⟩ (.int .i64 0)).setCell ⟨k3,1,none⟩ (.int .i64 0)).heap[b]? =_
 rw[Below.heap_setCell _ _ _ _ h3,Below.heap_setCell _ _ _ _ h3,Below.heap_setCell _ _ _ _ h2]
theorem Nd(U:World)(k2 k3:Nat)(p:Value):(enW U k2 k3 p).heap.size=U.heap.size:=by
 show(((U.setCell ⟨k2,0,none⟩ p).setCell ⟨k3,0,none⟩ (.int .i64 0)).setCell ⟨k3,1,none⟩ (.int .i64 0)).heap.size=_
 simp[World.setCell]
theorem Dk{F:Nat→Prop}{X2 X4:GW}{w:World}{n k2 k3:Nat}{t2:List (Nat × AV)}{tm2:Array Value}{ρ2:Rn}{s:List UInt8}{at_ gr:Int}{l':List Vstep}{p:Value}{T:TypeId}(hs2:SimE F X2 ⟨n,t2,hTo EE.toEnc ρ2 (cmH s at_ gr l'.length l'),[]⟩ tm2)(hi2:Inj ρ2 (cmH s at_ gr l'.length l'))(hl0:l'.length≠0)
  (hF2:F k2) (hF3:F k3) (g2:X2.g k2=none) (g3:X2.g k3=none) (hg:∀b,b < w.heap.size→F b∧X2.g b=none) (hk2:w.heap.size≤k2) (hk3:w.heap.size≤k3) (hkm2:k2 < X2.w.heap.size) (hkm3:k3 < X2.w.heap.size)
  (hx4:Ext (fun b=>b < (enW (X2.w.alloc (.cells #[.int .i64 gr,.slice (some ⟨(ρ2.k 200001).b,0,none⟩) l'.length (l'.length+ (ρ2.k 200001).sp.length / 4)] T)) k2 k3 p).heap.size∧b≠k2∧b≠k3) ⟨enW (X2.w.alloc (.cells #[.int .i64 gr,.slice (some ⟨(ρ2.k 200001).b,0,none⟩) l'.length (l'.length+ (ρ2.k 200001).sp.length / 4)] T)) k2 k3 p,fun _=>none⟩ X4) (hb:Below w.heap.size w X2.w):
  ∃X':GW,X'.w=X4.w∧Ext (fun b=>b < w.heap.size) ⟨w,fun _=>none⟩ X'∧SimE (fun b=>b < w.heap.size) X' ⟨1,[],[(X2.w.heap.size,[.v (.int .i64 gr),.sl false 4 (l'.map (cells EE.toEnc (.nam 4)))])],[]⟩ #[undef] :=by
 have hlive:a8 ρ2 (.vec 200001 (.nam 4) l':TB EE.T)=true:=by
  cases l' with
  |nil=>exact absurd rfl hl0
  |cons x xs=>
   show(!((ρ2.k 200001).nil && false))=true
   rw[Bool.and_false];rfl
 have hto:hTo EE.toEnc ρ2 (cmH s at_ gr l'.length l')=[(ρ2 100000,[.v (.string (mkB s)),.v (.int .i64 at_),.v (.int .i64 gr),.v (vecV (ρ2.k 200001) 4 l'.length)]),(ρ2 200001,(l'.map (cells EE.toEnc (.nam 4))).flatten++ (ρ2.k 200001).sp.map AV.v)] :=by
  show List.map _ (List.filter _ [_,_])=_
  rw[List.filter_cons_of_pos (by rfl),List.filter_cons_of_pos (by exact hlive)]
  rfl
 have hnk:ρ2 200001≠ρ2 100000:=fun e=>by
  have:=(hi2 _ (List.mem_cons_self) _ (List.mem_cons_of_mem _ List.mem_cons_self)).1 rfl hlive e.symm
  cases this
 have hbv:look (hTo EE.toEnc ρ2 (cmH s at_ gr l'.length l')) (ρ2 200001)=some ((l'.map (cells EE.toEnc (.nam 4))).flatten++ (ρ2.k 200001).sp.map AV.v):=by
  rw[hto];exact bX hnk aH
 obtain⟨X3,hw3,hs3,hfz,hx3⟩:=hs2.freeze hbv (by
  cases l' with
  |nil=>exact absurd rfl hl0
  |cons x xs=>rfl)
 have hlen:(l'.map (cells EE.toEnc (.nam 4))).length=l'.length:=List.length_map _
 have hrel:Rel X3 (.sl false 4 (l'.map (cells EE.toEnc (.nam 4)))) (.slice (some ⟨(ρ2.k 200001).b,0,none⟩) l'.length (l'.length+ (ρ2.k 200001).sp.length / 4)):=by
  have:=hfz.sl (sz:=4) (L:=l'.map (cells EE.toEnc (.nam 4))) (sp:=(ρ2.k 200001).sp.map AV.v) (c:=l'.length+ (ρ2.k 200001).sp.length / 4) rfl (fun r hr=>by
   obtain⟨z,_,rfl⟩:=List.mem_map.1 hr
   rfl) (by rw[hlen];exact Nat.le_add_right _ _)
  rwa [hlen] at this
 have n2:X3.g k2=none:=(hx3.frame k2 hF2).2.trans g2
 have n3:X3.g k3=none:=(hx3.frame k3 hF3).2.trans g3
 have hgb:∀b m,X3.g b=some m→b < X2.w.heap.size:=fun b m h=>by rw[← hw3];exact hs3.gb b m h
 have hus:∀o:Obj,(enW (X2.w.alloc o) k2 k3 p).heap.size=X2.w.heap.size+1:=fun o=>by rw[Nd,gO]
 have hheap:∀b,b < X2.w.heap.size→b≠k2→b≠k3→X4.w.heap[b]? =X2.w.heap[b]? :=fun b hlt e2 e3=>by
  rw[(hx4.frame b ⟨by rw[hus];omega,e2,e3⟩).1]
  show(enW _ k2 k3 p).heap[b]? =_
  rw[Rc e2 e3]
  exact Below.heap_alloc _ _ _ hlt
 have hkm:X4.w.heap[X2.w.heap.size]? =some (.cells #[.int .i64 gr,.slice (some ⟨(ρ2.k 200001).b,0,none⟩) l'.length (l'.length+ (ρ2.k 200001).sp.length / 4)] T (0,0)):=by
  rw[(hx4.frame X2.w.heap.size ⟨by rw[hus];omega,by omega,by omega⟩).1]
  show(enW _ k2 k3 p).heap[X2.w.heap.size]? =_
  rw[Rc (by omega) (by omega)]
  exact heap_alloc_new X2.w _
 have hsize:X2.w.heap.size+1≤X4.w.heap.size:=by
  have:=hx4.size
  rw[hus] at this
  exact this
 have hpres:mH X3 ⟨X4.w,X3.g⟩:=fun b m h=>⟨m,Nat.le_refl _,h,fun j hj=>by
  have hlt:=hgb b m h
  have e2:b≠k2:=fun e=>by rw[e,n2] at h;cases h
  have e3:b≠k3:=fun e=>by rw[e,n3] at h;cases h
  have:=hheap b hlt e2 e3
  rw[← hw3] at this
  simp only[World.cell?,this]⟩
 have hbel:Below w.heap.size w X4.w:=by
  refine⟨hx4.os.trans hb.os,hx4.tape.trans hb.tape,hx4.output.trans hb.output,by have:=hb.size;omega,fun b hlt=> ?_⟩
  rw[hheap b (by have:=hb.size;omega) (by omega) (by omega)]
  exact hb.block b hlt
 refine⟨⟨X4.w,X3.g⟩,rfl,⟨hbel.os,hbel.tape,hbel.output,hbel.size,fun b hlt=>⟨hbel.block b hlt,(hx3.frame b (hg b hlt).1).2.trans (hg b hlt).2⟩,fun b m h=>by cases h⟩,?_⟩
 have hno:∀r sz l,AS.own ⟨1,[],[(X2.w.heap.size,[.v (.int .i64 gr),.sl false 4 (l'.map (cells EE.toEnc (.nam 4)))])],[]⟩ r=some (sz,l)→False:=by
  intro r sz l ho
  cases r with
  |s t=>simp[AS.own,av,cw] at ho
  |c k o=>
   simp only[AS.own,ab,av] at ho
   split at ho
   ·rename_i cs hcs
    split at hcs
    ·cases hcs
     match o,ho with
     |0,ho=>cases ho
     |1,ho=>cases ho
     |n+2,ho=>simp[cw] at ho
    ·cases hcs
   ·cases ho
 refine⟨⟨rfl,fun b m h=>by have:=hgb b m h;show b < X4.w.heap.size;omega,fun b hlt=>by have:=hbel.size;show b < X4.w.heap.size;omega,fun t u hu=>by simp[av] at hu,fun k cs hk'=> ?_,fun x r hx=>by simp[av] at hx,fun r sz l ho=>(hno r sz l ho).elim,fun r r' sz l sz' l' a n c a' n' c' _ ho=>(hno r sz l ho).elim⟩,fun p hp=>by cases hp⟩
 simp only[ab,av] at hk'
 split at hk'
 ·rename_i e
  subst e
  cases hk'
  refine eg.box ⟨?_,fun h=> ?_,_,_,_,hkm,rfl,fun o=>by simp[World.frozen?,hkm],fun o u x hu hx=> ?_⟩
  ·show X3.g X2.w.heap.size=none
   cases hq:X3.g X2.w.heap.size with
   |none=>rfl
   |some m=>exact absurd (hgb _ m hq) (Nat.lt_irrefl _)
  ·have:=hb.size
   have h2:X2.w.heap.size < w.heap.size:=h
   omega
  ·match o,hu,hx with
   |0,hu,hx=>simp at hu hx;subst hu hx;exact .v _
   |1,hu,hx=>simp at hu hx;subst hu hx;exact hrel.mono hpres
   |n+2,hu,hx=>simp at hu
 ·cases hk'
set_option maxRecDepth 100000 in
set_option maxHeartbeats 4000000 in
theorem F6{N:Nat}(m:List UInt8)(hm:m.length≤60){emp:Bool}{s:List UInt8}{at_ gr:Int}{k:Nat}{l l':List Vstep}(h:Ff N m=some (.ok (emp,s,at_,gr,k,l)))(hat:¬at_ < (m.length:Int))(hv:vg 32 k l [In] =some l')(hl0:l'.length≠0)(w:World):
  Calls Tryd.prog 19 #[.string (mkB m)] w fun x w'=>∃ (X':GW) (km:Nat),x=.returned (.tuple #[.pointer (some ⟨km,0,none⟩),.agg #[.int .i64 0,.int .i64 0]])∧X'.w=w'∧Ext (fun b=>b < w.heap.size) ⟨w,fun _=>none⟩ X'∧SimE (fun b=>b < w.heap.size) X' ⟨1,[],[(km,[.v (.int .i64 gr),.sl false 4 (l'.map (cells EE.toEnc (.nam 4)))])],[]⟩ #[undef] :=by
 have hsize:= @jD
 have hmf:∀ (fn:Fn) (first cap:Array Value) (w:World),(Instr.makeFunc fn first cap).run Tryd.prog w=.ok (.func fn first cap) w:=fun _ _ _ _=>rfl
 have hmw:=Gq m (cpW m w) (w.heap.size+1+1) _ (MU m w) h
 go_enter_defers Tryd.func19,Tryd.ntmps19
 go_wp2_with (go_at_call 35;refine hmw.mono ?_)
 intro x w' X1 hw hx1 hx ρ hρ hi hs
 subst hw hx
 obtain⟨c1,c2,c3⟩:=zg hs hρ
 have hne:w.heap.size≠w.heap.size+1:=by omega
 have f2:=(hx1.frame w.heap.size ⟨by rw[fa];omega,by omega⟩).1
 have f3:=(hx1.frame (w.heap.size+1) ⟨by rw[fa];omega,by omega⟩).1
 have hb1:Below w.heap.size w X1.w:=(vI m w).trans (j9 hx1 fun b hb=>⟨by rw[fa];omega,by omega⟩)
 have hpw:=Wm hs hρ hi hv
 go_wp2_with (go_at_call 37;refine hpw.mono ?_)
 rintro x w' ⟨⟨v,hx⟩,X2,hw,hx2,ρ2,t2,tm2,hρ2,hi2,hs2⟩
 subst hw hx
 have g2:X2.w.heap[w.heap.size]? =_:=(hx2.frame w.heap.size ⟨by rw[fa];omega,by omega⟩).1.trans (f2.trans (K2 m w))
 have g3:X2.w.heap[w.heap.size+1]? =_:=(hx2.frame (w.heap.size+1) ⟨by rw[fa];omega,by omega⟩).1.trans (f3.trans (Mc m w))
 have hb2:Below w.heap.size w X2.w:=hb1.trans (j9 hx2 fun b hb=>⟨by rw[fa];omega,by omega⟩)
 obtain⟨e1,e2,e3⟩:=zg hs2 hρ2
 rw[Rv _ _ _ hl0] at e3
 have d2:X2.w.drew.cell? ⟨w.heap.size+1+1,2,none⟩=some (.int .i64 gr):=e2
 have d3:X2.w.drew.cell? ⟨w.heap.size+1+1,3,none⟩=some (.slice (some ⟨(ρ2.k 200001).b,0,none⟩) l'.length (l'.length+ (ρ2.k 200001).sp.length / 4)):=e3
 have hsz:w.heap.size+1+1+1≤X2.w.heap.size:=by
  have a1:=hx1.size
  have a2:=hx2.size
  rw[show(⟨cpW m w,fun _=>none⟩:GW).w.heap.size=w.heap.size+1+1+1 from fa m w] at a1
  omega
 have q2:∀o:Obj,(X2.w.alloc o).heap[w.heap.size]? =_:=fun o=>(Below.heap_alloc X2.w o _ (by omega)).trans g2
 have q3:∀o:Obj,(X2.w.alloc o).heap[w.heap.size+1]? =_:=fun o=>(Below.heap_alloc X2.w o _ (by omega)).trans g3
 have d4:∀o:Obj,(X2.w.alloc o).cell? ⟨w.heap.size,0,none⟩=some (.pointer none):=fun o=>by simp[World.cell?,q2 o]
 have d5:∀o:Obj,(X2.w.alloc o).cell? ⟨w.heap.size+1,0,none⟩=some (.int .i64 0):=fun o=>by simp[World.cell?,q3 o]
 have d6:∀o:Obj,(X2.w.alloc o).cell? ⟨w.heap.size+1,1,none⟩=some (.int .i64 0):=fun o=>by simp[World.cell?,q3 o]
 have r4:∀o:Obj,(X2.w.alloc o).frozen? ⟨w.heap.size,0,none⟩=false:=fun o=>xD (q2 o) 0
 have r5:∀o:Obj,(X2.w.alloc o).frozen? ⟨w.heap.size+1,0,none⟩=false:=fun o=>xD (q3 o) 0
 have r6:∀o:Obj,(X2.w.alloc o).frozen? ⟨w.heap.size+1,1,none⟩=false:=fun o=>xD (q3 o) 1
 go_wp2
 go_region
 go_wp2
 have hclo:=Ou (enW (X2.w.alloc (.cells #[.int .i64 gr,.slice (some ⟨(ρ2.k 200001).b,0,none⟩) l'.length (l'.length+ (ρ2.k 200001).sp.length / 4)] 76)) w.heap.size (w.heap.size+1) (.pointer (some ⟨X2.w.heap.size,0,none⟩))) w.heap.size (w.heap.size+1) hne (.pointer (some ⟨X2.w.heap.size,0,none⟩)) 0 0 _ _ (Uz hne (q2 _)) (UT hne (q3 _))
 refine leaves_cons (f:=34) (args:= #[.pointer (some ⟨w.heap.size,0,none⟩),.pointer (some ⟨w.heap.size+1,0,none⟩)]) (by simp) (by simp[go_sem]) ?_
 refine hclo.mono ?_
 rintro y u' w2 ⟨rfl,⟨v,rfl⟩,c2,c3,c4,X4,rfl,hx4⟩
 simp[Leaves,settle,results,Tryd.results19,go_sem,c2,c3,c4]
 have hF:∀b,b < w.heap.size+1+1→u6 (cpW m w) (w.heap.size+1+1) b∧X2.g b=none:=fun b hlt=>by
  have hb:u6 (cpW m w) (w.heap.size+1+1) b:=⟨by rw[fa];omega,by omega⟩
  exact⟨hb,(hx2.frame b hb).2.trans (hx1.frame b hb).2⟩
 exact Dk hs2 hi2 hl0 (hF _ (by omega)).1 (hF _ (by omega)).1 (hF _ (by omega)).2 (hF _ (by omega)).2 (fun b hb=>hF b (by omega)) (Nat.le_refl _) (by omega) (by omega) (by omega) hx4 hb2
def CB:Value→Option (Int × Int)
 |.iface t (.agg ⟨[.int .i64 e,.int .i64 a]⟩)=>if t=53 then some (e,a) else none
 |_=>none
theorem Cy{v:Value}{p:Int × Int}(h:CB v=some p):v=faultV p.1 p.2:=by
 unfold CB at h
 split at h
 ·split at h
  ·rename_i e
   cases h
   rw[e];rfl
  ·cases h
 ·cases h
def El(N:Nat)(m:List UInt8):Option (Except (Int × Int) VMask):=
 if 60 < m.length then some (.error (2,0)) else
 match Ff N m with
 |none=>none
 |some (.pan v)=>(CB v).map .error
 |some (.ok (_,_,at_,gr,k,l))=>if at_ < (m.length:Int) then some (.error (1,at_)) else(vg 32 k l [In]).map fun l'=>.ok ⟨gr,l'⟩
theorem JK{N:Nat}{m:List UInt8}{p:Int × Int}(h:El N m=some (.error p))(w:World):Calls Tryd.prog 19 #[.string (mkB m)] w fun x w'=>x=.returned (.tuple #[.pointer none,.agg #[.int .i64 p.1,.int .i64 p.2]])∧Below w.heap.size w w':=by
 unfold El at h
 split at h
 ·rename_i hm
  cases h
  exact CV m hm w
 ·rename_i hm
  split at h
  ·cases h
  ·rename_i v hc
   obtain⟨q,hq,e⟩:=Option.map_eq_some_iff.1 h
   cases e
   have:=Cy hq
   subst this
   exact CX m (by omega) _ _ hc w
  ·rename_i hc
   split at h
   ·rename_i hat
    cases h
    exact Bq m (by omega) hc hat w
   ·obtain⟨q,hq,e⟩:=Option.map_eq_some_iff.1 h
    cases e
theorem Ki{N:Nat}{m:List UInt8}{mk:VMask}(h:El N m=some (.ok mk))(w:World):Calls Tryd.prog 19 #[.string (mkB m)] w fun x w'=>∃ (X':GW) (km:Nat),x=.returned (.tuple #[.pointer (some ⟨km,0,none⟩),.agg #[.int .i64 0,.int .i64 0]])∧X'.w=w'∧Ext (fun b=>b < w.heap.size) ⟨w,fun _=>none⟩ X'∧SimE (fun b=>b < w.heap.size) X' ⟨1,[],[(km,cells EE.toEnc (.nam 5) mk)],[]⟩ #[undef] :=by
 unfold El at h
 split at h
 ·cases h
 ·rename_i hm
  split at h
  ·cases h
  ·obtain⟨q,hq,e⟩:=Option.map_eq_some_iff.1 h
   cases e
  ·rename_i hc
   split at h
   ·cases h
   ·rename_i hat
    obtain⟨l',hv,e⟩:=Option.map_eq_some_iff.1 h
    cases e
    refine F6 m (by omega) hc hat hv ?_ w
    unfold vg at hv
    split at hv
    ·cases hv
     simp
    ·cases hv
def hQ(N:Nat)(m:List UInt8):Option (Option VMask × VFault):=match El N m with
 |none=>none
 |some (.error p)=>if p.1=0 then none else some (none,⟨p.1,p.2⟩)
 |some (.ok mk)=>some (some mk,⟨0,0⟩)
def zl(r:Option VMask × VFault):TV EE.T:=.tu [.a (.d (.ptr (.nam 5)) r.1),.ag (ga EE (.nam 6) r.2)]
def mkA(r:Option VMask):AV:=match r with
 |none=>.v (.pointer none)
 |some mk=>.el (cells EE.toEnc (.nam 5) mk)
theorem GT{X:GW}{u:AV}{v:Value}(h:Rel X u v)(a b:Int):Rel X (.tu [u,.ag [.v (.int .i64 a),.v (.int .i64 b)]]) (.tuple #[v,.agg #[.int .i64 a,.int .i64 b]]):=by
 refine .tu _ _ rfl ?_
 intro i u x hu hx
 match i,hu,hx with
 |0,hu,hx=>simp at hu hx;subst hu hx;exact h
 |1,hu,hx=>
  simp at hu hx;subst hu hx
  refine .ag _ _ rfl ?_
  intro i u x hu hx
  match i,hu,hx with
  |0,hu,hx=>simp at hu hx;subst hu hx;exact .v _
  |1,hu,hx=>simp at hu hx;subst hu hx;exact .v _
theorem IK{N:Nat}(m:List UInt8){r:Option VMask × VFault}(h:hQ N m=some r):ai Tryd.prog 19 [.v (.string (mkB m))] [] (fun out H=>out=.ret (.tu [mkA r.1,.ag [.v (.int .i64 r.2.Err),.v (.int .i64 r.2.At)]])∧H=[]):=by
 refine yc ⟨_,Tryd.func19,by kernel_rfl,rfl⟩ rfl fun X vs hX hv hr=> ?_
 have e0:=bF (hr 0 _ rfl)
 have ev:vs= #[.string (mkB m)] :=by
  apply Array.ext (by simpa using hv)
  intro i h1 h2
  have hi:i=0:=by simp at h2;omega
  subst hi
  simp at h1 e0
  simpa[h1] using e0
 rw[ev]
 unfold hQ at h
 split at h
 ·cases h
 ·rename_i p hc
  split at h
  ·cases h
  ·rename_i hp
   cases h
   refine(JK hc X.w).mono ?_
   rintro e w' ⟨rfl,hb⟩
   exact⟨⟨w',X.g⟩,_,rfl,rfl,GT (.v _) _ _,hb,fun b n hq=>Nat.lt_of_lt_of_le (hX b n hq) hb.size,fun b _=>rfl⟩
 ·rename_i mk hc
  cases h
  refine(Ki hc X.w).mono ?_
  rintro e w' ⟨X1,km,rfl,rfl,hx1,hs1⟩
  obtain⟨X',hw,hs,hF,hx2⟩:=hs1.freeze (k:=km) aH rfl
  have hx:Ext (fun b=>b < X.w.heap.size) ⟨X.w,fun _=>none⟩ X':=hx1.trans hx2
  have hrl:Rel X' (mkA (some mk)) (.pointer (some ⟨km,0,none⟩)):=hF.el
  have hgb:=hs.gb
  have hb:=j9 (B:=X.w.heap.size) hx fun b hb=>hb
  have hrl2:Rel ⟨X'.w,fun q=>match X.g q with|some n=>some n|none=>X'.g q⟩ (mkA (some mk)) (.pointer (some ⟨km,0,none⟩)):=by
   refine hrl.mono fun q n hq=>⟨n,Nat.le_refl _,?_,fun j _=>rfl⟩
   show(match X.g q with|some n=>some n|none=>X'.g q)=some n
   cases hg:X.g q with
   |none=>exact hq
   |some k=>
    have h1:=(hx.frame q (hX q k hg)).2
    rw[hq] at h1
    cases h1
  rw[← hw]
  refine⟨⟨X'.w,fun q=>match X.g q with|some n=>some n|none=>X'.g q⟩,_,rfl,rfl,GT hrl2 0 0,hb,fun q n hq=> ?_,fun q hq=> ?_⟩
  ·have hq':(match X.g q with|some n=>some n|none=>X'.g q)=some n:=hq
   cases hg:X.g q with
   |none=>rw[hg] at hq';exact hgb q n hq'
   |some k=>exact Nat.lt_of_lt_of_le (hX q k hg) hb.size
  ·show(match X.g q with|some n=>some n|none=>X'.g q)=X.g q
   cases hg:X.g q with
   |none=>exact(hx.frame q hq).2
   |some k=>rfl
def nt(N:Nat):List (TV EE.T)→PV EE.T
 | [u0] =>match eB .str u0 with
   |some x0=>.opt (hQ N x0) zl
   |_=>.bad
 |_=>.bad
theorem u4(N:Nat)(us:List (TV EE.T)):(nt N us).ok fun u=>∀ρ,ai Tryd.prog 19 (us.map (TV.to EE.toEnc ρ)) [] (fun out H=>out=.ret (u.to EE.toEnc ρ)∧H=[]):=by
 unfold nt
 split
 ·split
  ·rename_i u0 x0 h0
   intro z hz ρ
   refine bq (us':=([.a (.d .str x0)] :List (TV EE.T))) ⟨bb h0 ρ,trivial⟩ ?_
   have:=IK x0 hz
   obtain⟨z1,z2⟩:=z
   cases z1<;> exact this
  ·trivial
 ·trivial
end Go.Proofs.YtobacplonkjigaaDoor
namespace Go.Proofs.YtobacplonkjigaaDoor
open Go.Shelf
def Tryd.laysR_156:Go.Shelf.Ren:=⟨fun|156=>22|165=>40|166=>41|169=>42|240=>63|241=>64|276=>77|277=>78|n=>n,fun|0=>0|3=>3|4=>4|5=>5|9=>9|20=>20|31=>23|37=>83|70=>82|72=>85|75=>88|76=>89|80=>91|127=>117|164=>130|n=>n,fun|n=>n⟩
set_option maxRecDepth 100000 in
theorem Tryd.laysn156:Go.Proofs.Lays.n156 Tryd.prog Tryd.laysR_156:={ mixed:=by kernel_rfl,f156:=Tryd.func22.trans (congrArg some (by kernel_rfl)),f165:=Tryd.func40.trans (congrArg some (by kernel_rfl)),f166:=Tryd.func41.trans (congrArg some (by kernel_rfl)),f169:=Tryd.func42.trans (congrArg some (by kernel_rfl)),f240:=Tryd.func63.trans (congrArg some (by kernel_rfl)),f241:=Tryd.func64.trans (congrArg some (by kernel_rfl)),f276:=Tryd.func77.trans (congrArg some (by kernel_rfl)),f277:=Tryd.func78.trans (congrArg some (by kernel_rfl)),t0:=Tryd.underlying0,a0:=Tryd.isAgg0,z0:=Tryd.sizeOf0,v0:=Tryd.zeroValue0,t3:=Tryd.underlying3,a3:=Tryd.isAgg3,z3:=Tryd.sizeOf3,v3:=Tryd.zeroValue3,t4:=Tryd.underlying4,a4:=Tryd.isAgg4,z4:=Tryd.sizeOf4,v4:=Tryd.zeroValue4,t9:=Tryd.underlying9,a9:=Tryd.isAgg9,z9:=Tryd.sizeOf9,v9:=Tryd.zeroValue9,t20:=Tryd.underlying20,a20:=Tryd.isAgg20,z20:=Tryd.sizeOf20,v20:=Tryd.zeroValue20,t31:=Tryd.underlying23,a31:=Tryd.isAgg23,z31:=Tryd.sizeOf23,v31:=Tryd.zeroValue23,t37:=Tryd.underlying83,a37:=Tryd.isAgg83,z37:=Tryd.sizeOf83,v37:=Tryd.zeroValue83,t70:=Tryd.underlying82,a70:=Tryd.isAgg82,z70:=Tryd.sizeOf82,v70:=Tryd.zeroValue82,t72:=Tryd.underlying85,a72:=Tryd.isAgg85,z72:=Tryd.sizeOf85,v72:=Tryd.zeroValue85,t75:=Tryd.underlying88,a75:=Tryd.isAgg88,z75:=Tryd.sizeOf88,v75:=Tryd.zeroValue88,t76:=Tryd.underlying89,a76:=Tryd.isAgg89,z76:=Tryd.sizeOf89,v76:=Tryd.zeroValue89,t127:=Tryd.underlying117,a127:=Tryd.isAgg117,z127:=Tryd.sizeOf117,v127:=Tryd.zeroValue117,t164:=Tryd.underlying130,a164:=Tryd.isAgg130,z164:=Tryd.sizeOf130,v164:=Tryd.zeroValue130 }
theorem EK:Builder.Extra Tryd.prog Tryd.laysR_156:={ sizeBuilder:=by kernel_rfl,liesBuilder:=by kernel_rfl,t5:=Tryd.underlying5,a5:=Tryd.isAgg5,z5:=Tryd.sizeOf5,v5:=Tryd.zeroValue5,infoByte:=by kernel_rfl,cellsByte:=by kernel_rfl,sizeByte:=by kernel_rfl,neB5:=by decide }
open Go.RowKit in
theorem OK(a:Option Addr)(c:Nat)(sep:ByteArray)(w:World):
  Calls Tryd.prog 22 #[.slice a 0 c,.string sep] w fun e w'=>e=.returned (.string ⟨#[]⟩)∧w'=w:=Any.strings_Join_none Tryd.laysn156 EK a c sep w
open Go.RowKit in
theorem P1(bk o c:Nat)(xs:List ByteArray)(sep:ByteArray)(w:World)(hcells:∀ (j:Nat) x,xs[j]? =some x→w.cell? ⟨bk,o+j,none⟩=some (.string x))(hbk:bk < w.heap.size)(hN:xs.length≤140737488355328)(hcap:xs.length≤c)(hlen:(Lib.join (xs.map (·.data.toList)) sep.data.toList).length≤140737488355328):
  Calls Tryd.prog 22 #[.slice (some ⟨bk,o,none⟩) xs.length c,.string sep] w fun e w'=>e=.returned (.string ⟨(Lib.join (xs.map (·.data.toList)) sep.data.toList).toArray⟩)∧Below w.heap.size w w':=Any.strings_Join Tryd.laysn156 EK bk o c xs sep w hcells hbk hN hcap hlen
open Go.RowKit P in
theorem BY{P:Program}{f:FuncId}{us:List AV}{v:Value}(hf:IQ P f)(h:∀F X xs,SimE F X ⟨us.length,slotsOf 0 us,[],[]⟩ xs→Calls P f xs X.w fun e w'=>e=.returned v∧Below X.w.heap.size X.w w'):ai P f us [] (fun out H=>out=.ret (.v v)∧H=[]):=by
 refine⟨hf,fun F X xs hs=> ?_⟩
 refine(h F X xs hs).mono fun e w' ⟨he,hb⟩=> ?_
 have hn:New X ⟨w',X.g⟩:=⟨hb.os,hb.tape,hb.output,hb.size,fun b hlt=>⟨hb.block b hlt,rfl⟩⟩
 have hgb:∀b n,X.g b=some n→b < w'.heap.size:=fun b n hg=>Nat.lt_of_lt_of_le (hs.gb b n hg) hb.size
 refine⟨⟨w',X.g⟩,.ret (.v v),[],rfl,⟨rfl,rfl⟩,⟨v,he,?_⟩,hn.ext hs.gb hs.fb⟩
 refine⟨⟨rfl,hgb,fun b hF=>Nat.lt_of_lt_of_le (hs.fb b hF) hb.size,fun t u hu=> ?_,fun k cs hk=>by simp[av] at hk,fun x r hx=>by simp[av] at hx,fun r sz l ho=> ?_,fun r r' sz l sz' l' a n c a' n' c' _ ho=> ?_⟩,fun p hp=>by cases hp⟩
 ·simp only[ab,av] at hu
  split at hu
  ·rename_i e1;subst e1;cases hu;exact .v _
  ·cases hu
 ·cases r with
  |s t=>obtain⟨_,h2⟩:=jb ho;cases h2
  |c k o=>simp[AS.own,av] at ho
 ·cases r with
  |s t=>obtain⟨_,h2⟩:=jb ho;cases h2
  |c k o=>simp[AS.own,av] at ho
open Go.RowKit P in
theorem SG(l:List (List UInt8))(sep:List UInt8)(hN:l.length≤140737488355328)(hl:(Lib.join l sep).length≤140737488355328):ai Tryd.prog 22 [.sl false 1 (l.map fun s=>[AV.v (.string (mkB s))]),.v (.string (mkB sep))] [] (fun out H=>out=.ret (.v (.string (mkB (Lib.join l sep))))∧H=[]):=by
 refine BY ⟨_,Tryd.func22,by kernel_rfl,by kernel_rfl⟩ fun F X xs hs=> ?_
 have h2:xs.size=2:=hs.size
 have h0:=hs.slot 0 (.sl false 1 (l.map fun s=>[AV.v (.string (mkB s))])) rfl
 have h1:=bF (hs.slot 1 (.v (.string (mkB sep))) rfl)
 have hx:xs= #[xs.getD 0 undef,.string (mkB sep)] :=by
  apply Array.ext
  ·simp[h2]
  ·intro i hi _
   have:i=0∨i=1:=by omega
   rcases this with rfl|rfl
   ·simp[Array.getD_eq_getD_getElem?,hi]
   ·simpa[Array.getD_eq_getD_getElem?,hi] using h1
 have hmb:∀z:List UInt8,(mkB z).data.toList=z:=fun z=>rfl
 generalize xs.getD 0 undef=v0 at h0 hx
 subst hx
 generalize hL:(l.map fun s=>[AV.v (.string (mkB s))])=L at h0
 cases h0 with
 |nl o sz a c=>
  have:l=[] :=List.map_eq_nil_iff.1 hL
  subst this
  refine(OK a c (mkB sep) X.w).mono fun e w' ⟨h1,h2⟩=>⟨h1,?_⟩
  subst h2;exact Below.refl _ _
 |sl o sz l' b off cap n c hg hn hc hs2 hm hr=>
  have hlen:L.length=l.length:=by rw[← hL];simp
  have hmm:((l.map mkB).map fun z:ByteArray=>z.data.toList)=l:=by
   rw[List.map_map];exact(List.map_congr_left fun z _=>hmb z).trans (List.map_id _)
  have hcalls:=P1 b off cap (l.map mkB) (mkB sep) X.w (fun j x hj=>by
   rw[List.getElem?_map] at hj
   cases hq:l[j]? with
   |none=>rw[hq] at hj;cases hj
   |some z=>
    rw[hq] at hj;cases hj
    have h3:L[j]? =some [AV.v (.string (mkB z))] :=by rw[← hL];simp[hq]
    have h4:=hm j 0 _ _ h3 rfl
    rw[bF (hr j 0 _ _ h3 rfl)] at h4
    simpa using h4) (hs.gb b n hg) (by simpa using hN) (by simpa[hlen] using hc) (by rw[hmm];exact hl)
  rw[hmm] at hcalls
  have e1:(l.map mkB).length=L.length:=by rw[hlen,List.length_map]
  rw[e1] at hcalls
  exact hcalls
open Go.RowKit P
def ig(N:Nat)(l:List (List UInt8))(sep:List UInt8):Option (List UInt8):=if l.length≤140737488355328∧(Lib.join l sep).length≤140737488355328 then some (Lib.join l sep) else none
def yH(r:List UInt8):TV EE.T:=.a (.d .str r)
def nr(N:Nat):List (TV EE.T)→PV EE.T
 | [u0,u1] =>match eB (.sl .str) u0,eB .str u1 with
   |some x0,some x1=>.opt (ig N x0 x1) yH
   |_,_=>.bad
 |_=>.bad
theorem vQ(N:Nat)(us:List (TV EE.T)):(nr N us).ok fun u=>∀ρ,ai Tryd.prog 22 (us.map (TV.to EE.toEnc ρ)) [] (fun out H=>out=.ret (u.to EE.toEnc ρ)∧H=[]):=by
 unfold nr
 split
 ·split
  ·rename_i u0 u1 x0 x1 h0 h1
   intro z hz ρ
   refine bq (us':=([.a (.d (.sl .str) x0),.a (.d .str x1)] :List (TV EE.T))) ⟨bb h0 ρ,bb h1 ρ,trivial⟩ ?_
   unfold ig at hz
   split at hz
   ·rename_i hc
    cases hz
    exact SG x0 x1 hc.1 hc.2
   ·cases hz
  ·trivial
 ·trivial
set_option maxRecDepth 100000
def gW(N:Nat)(k4:(List VLabel)→Bool→(List VLabel)→Int→Int→Option Int)(n:Nat)(x0:List VLabel)(x1:Bool)(x13:List VLabel)(x14:Int)(x15:Int)(b6:VLabel):Option Int:=
 bif decide ((b6.Value.length:Int) > 100) then
  some 2
 else
  k4 x0 x1 x13 x14 (w64 (x15+1))
def eA(N:Nat):Nat→(List VLabel)→Int→Int→(List (List UInt8 × Bool))→Option Int
 |0,_,_,_,_=>none
 |n+1,x38,x39,x40,b37=>
  bif decide (x40 < x39) then
   (bN x38 x40).bind fun z3=>
   bif (qj b37 z3.Name).getD false then
    some 6
   else
    eA N n x38 x39 (w64 (x40+1)) (zV b37 z3.Name true)
  else
   some 0
def dN(N:Nat):Nat→(List VLabel)→Bool→(List VLabel)→Int→Int→Option Int
 |0,_,_,_,_,_=>none
 |n+1,x0,x1,x13,x14,x15=>
  bif decide (x15 < x14) then
   (bN x13 x15).bind fun z1=>
   (ei N z1.Name).bind fun z2=>
   bif !z2 then
    some 1
   else
    bif decide (z1.Value=([] :List UInt8)) then
     bif !x1 then
      some 1
     else
      gW N (dN N n) n x0 x1 x13 x14 x15 z1
    else
     gW N (dN N n) n x0 x1 x13 x14 x15 z1
  else
   eA N n x0 (x0.length:Int) 0 ([] :List (List UInt8 × Bool))
def hD(N:Nat)(x0:List VLabel)(x1:Bool):Option Int:=
 bif decide ((x0.length:Int) > 20) then
  some 2
 else
  dN N N x0 x1 x0 (x0.length:Int) 0
def de(N:Nat)(x0:List UInt8):Option Bool:=
 some (!decide (x0=x0))
def cf(N:Nat)(x0:List UInt8)(x1:List UInt8):Option Int:=
 (de N x0).bind fun z1=>
 (de N x1).bind fun z2=>
 bif z1 then
  bif z2 then
   some 0
  else
   some (-1)
 else
  bif z2 then
   some 1
  else
   bif Op.bytesLess x0 x1 then
    some (-1)
   else
    bif !(Op.bytesLess x0 x1 || decide (x0=x1)) then
     some 1
    else
     some 0
def eS(N:Nat)(x0:VLabel)(x1:VLabel):Option Int:=
 (cf N x0.Name x1.Name).bind fun z1=>
 some z1
def aw(N:Nat):Nat→(List VLabel)→Int→Option Bool
 |0,_,_=>none
 |n+1,x0,x5=>
  bif decide (x5 > 0) then
   (bN x0 x5).bind fun z1=>
   (bN x0 (w64 (x5 - 1))).bind fun z2=>
   (eS N z1 z2).bind fun z3=>
   bif decide (z3 < 0) then
    some false
   else
    aw N n x0 (w64 (x5 - 1))
  else
   some true
def aI(N:Nat)(x0:List VLabel):Option Bool:=
 aw N N x0 (w64 ((x0.length:Int) - 1))
def cK(N:Nat)(x0:List VLabel):Option Int:=
 (hD N x0 false).bind fun z1=>
 bif z1 != 0 then
  some z1
 else
  (aI N x0).bind fun z2=>
  bif !z2 then
   some 4
  else
   some 0
def fo(N:Nat)(x0:List UInt8):Option Bool:=
 (ei N x0).bind fun z1=>
 some (!z1)
def ir(N:Nat)(x0:List UInt8):Option Bool:=
 (g9 N x0).bind fun z1=>
 some z1.2
def aO(N:Nat):Nat→(List (List UInt8))→Int→Int→Option Int
 |0,_,_,_=>none
 |n+1,x0,x7,x8=>
  bif decide (x8 < x7) then
   (bN x0 x8).bind fun z1=>
   (fo N z1).bind fun z2=>
   bif z2 then
    some x8
   else
    aO N n x0 x7 (w64 (x8+1))
  else
   some (-1)
def bv(N:Nat)(x0:List (List UInt8)):Option Int:=
 aO N N x0 (x0.length:Int) 0
def aT(N:Nat)(x0:List (List UInt8)):Option Bool:=
 (bv N x0).bind fun z1=>
 some (decide (z1≥0))
abbrev aR:=(Option VMask) × Int
def fJ(N:Nat)(n:Nat)(x4:Option VMask)(b1:VRule):Option aR:=
 bif b1.Kind==4 then
  bif decide (b1.Modulus < 1) then
   some ((none:Option VMask),3)
  else
   bif decide (b1.Modulus > 1000000) then
    some ((none:Option VMask),3)
   else
    some (x4,0)
 else
  some (x4,0)
def fI(N:Nat)(n:Nat)(x4:Option VMask)(x7:Bool)(b1:VRule):Option aR:=
 bif b1.Kind==5 then
  bif !x7 then
   some ((none:Option VMask),1)
  else
   fJ N n x4 b1
 else
  fJ N n x4 b1
def fC(N:Nat)(n:Nat)(x4:Option VMask)(x6:Bool)(x7:Bool)(b1:VRule):Option aR:=
 bif b1.Kind==4 then
  bif !x6 then
   some ((none:Option VMask),1)
  else
   fI N n x4 x7 b1
 else
  fI N n x4 x7 b1
def cm(N:Nat)(x0:VRule):Option aR:=
 bif decide (x0.Kind < 1) then
  some ((none:Option VMask),7)
 else
  bif decide (x0.Kind > 7) then
   some ((none:Option VMask),7)
  else
   bif decide ((x0.Sources.length:Int) > 20) then
    some ((none:Option VMask),2)
   else
    bif decide ((if(if(x0.Between.length:Int) < (x0.Replacement.length:Int) then(x0.Replacement.length:Int) else(x0.Between.length:Int)) < (x0.Target.length:Int) then(x0.Target.length:Int) else(if(x0.Between.length:Int) < (x0.Replacement.length:Int) then(x0.Replacement.length:Int) else(x0.Between.length:Int))) > 100) then
     some ((none:Option VMask),2)
    else
     (aT N x0.Sources).bind fun z1=>
     bif z1 then
      some ((none:Option VMask),1)
     else
      (hQ N x0.Mask).bind fun z2=>
      bif z2.2.Err != 0 then
       some ((none:Option VMask),z2.2.Err)
      else
       (ei N x0.Target).bind fun z3=>
       (ir N x0.Replacement).bind fun z4=>
       bif x0.Kind==1 then
        bif z3 then
         bif !z4 then
          some ((none:Option VMask),1)
         else
          fC N N z2.1 z3 z4 x0
        else
         some ((none:Option VMask),1)
       else
        fC N N z2.1 z3 z4 x0
def eP(N:Nat)(x0:VLabel)(x1:List UInt8):Option Int:=
 (cf N x0.Name x1).bind fun z1=>
 some z1
def aq(N:Nat):Nat→(List VLabel)→(List UInt8)→Int→Int→Int→Option (Int × Bool)
 |0,_,_,_,_,_=>none
 |n+1,x0,x1,x8,x9,x10=>
  bif decide (x9 < x10) then
   (DJ .u64 (IntKind.wrap .u64 (w64 (x9+x10))) 1).bind fun z1=>
   (bN x0 (w64 z1)).bind fun z2=>
   (eP N z2 x1).bind fun z3=>
   bif decide (z3 < 0) then
    aq N n x0 x1 x8 (w64 ((w64 z1)+1)) x10
   else
    aq N n x0 x1 x8 x9 (w64 z1)
  else
   bif decide (x9 < x8) then
    (bN x0 x9).bind fun z4=>
    (eP N z4 x1).bind fun z5=>
    some (x9,z5==0)
   else
    some (x9,false)
def aJ(N:Nat)(x0:List VLabel)(x1:List UInt8):Option (Int × Bool):=
 aq N N x0 x1 (x0.length:Int) 0 (x0.length:Int)
def gE(N:Nat)(x0:List VLabel)(x1:List UInt8):Option (Int × Bool):=
 (aJ N x0 x1).bind fun z1=>
 some (z1.1,z1.2)
def gA(N:Nat)(x0:List VLabel)(x1:List UInt8):Option (List UInt8):=
 (gE N x0 x1).bind fun z1=>
 bif z1.2 then
  (bN x0 z1.1).bind fun z2=>
  some z2.Value
 else
  some ([] :List UInt8)
def dK(N:Nat):Nat→(List VLabel)→(List (List UInt8))→(List (List UInt8))→Int→Int→VRule→Option (List UInt8)
 |0,_,_,_,_,_,_=>none
 |n+1,x0,x5,x9,x10,x11,b3=>
  bif decide (x11 < x10) then
   (bN x9 x11).bind fun z1=>
   (gA N x0 z1).bind fun z2=>
   (jf 16 x5 ([z2] :List (List UInt8))).bind fun z3=>
   dK N n x0 z3 x9 x10 (w64 (x11+1)) b3
  else
   (ig N x5 b3.Between).bind fun z4=>
   some z4
def cF(N:Nat)(x0:List VLabel)(x1:VRule):Option (List UInt8):=
 dK N N x0 ([] :List (List UInt8)) x1.Sources (x1.Sources.length:Int) 0 x1
abbrev df:=(List VLabel) × Bool
def jK(N:Nat)(x0:List VLabel)(x1:VRule)(x2:Option VMask)(x3:List UInt8):Option (PR df):=
 (dU N x2 x3).bind fun z1=>
 match z1 with
 |.pan vz1=>
  some (.pan vz1)
 |.ok z2=>
  some (.ok (x0,z2.1))
abbrev cZ:=(List VLabel) × Bool
def jJ(N:Nat)(x0:List VLabel)(x1:VRule)(x2:Option VMask)(x3:List UInt8):Option (PR cZ):=
 (dU N x2 x3).bind fun z1=>
 match z1 with
 |.pan vz1=>
  some (.pan vz1)
 |.ok z2=>
  some (.ok (x0,!z2.1))
def aA(N:Nat)(x0:List VLabel):Option (List VLabel):=
 (jf 32 ([] :List VLabel) x0).bind fun z1=>
 some z1
set_option maxRecDepth 100000
def oc(r:Int):TV EE.T:=.a (.d (.int .i64) r)
def qd(r:Int):RL EE.T:=.ret (oc r) []
def VD:Lvs:=⟨[(9,⟨[(0,false),(1,false),(6,false),(13,false),(14,false),(15,false)],[],[(6,(some 2,[]))],[]⟩)],[(4,⟨[(0,false),(1,false),(13,false),(14,false),(15,false)],[],[],[]⟩),(14,⟨[(7,false),(38,false),(39,false),(40,false)],[],[(37,(none,[]))],[]⟩)],[9],[],false,[],[],[],[]⟩
def U5:List ResultVar:=[.tmp 4]
def Uu(N:Nat):Gam EE:=⟨[⟨18,iu N⟩],EQT,[],[]⟩
theorem Sr(N:Nat):GOk Tryd.prog TT EE (Uu N):=GOk.cons (kQ N) (GOk.nil bP)
def Oh(c:Code):List It2:=atR 9 c
def Nu(x0:List VLabel)(x1:Bool)(x13:List VLabel)(x14:Int)(x15:Int)(b6:VLabel):TS EE.T:=⟨52,[(0,.a (.d (.sl (.nam 2)) x0)),(1,.a (.d .bool x1)),(6,.a (.box 6 0)),(13,.a (.d (.sl (.nam 2)) x13)),(14,.a (.d (.int .i64) x14)),(15,.a (.d (.int .i64) x15))],[(6,.cs (ga EE (.nam 2) b6))],[]⟩
def Iv(c:Code):List It2:=atL 14 c
def G0(x38:List VLabel)(x39:Int)(x40:Int)(b37:List (List UInt8 × Bool)):TS EE.T:=⟨52,[(7,.a (.mpr 37)),(38,.a (.d (.sl (.nam 2)) x38)),(39,.a (.d (.int .i64) x39)),(40,.a (.d (.int .i64) x40))],[(37,.smap .bool b37)],[]⟩
def Gf(c:Code):List It2:=atL 4 c
def Gr(x0:List VLabel)(x1:Bool)(x13:List VLabel)(x14:Int)(x15:Int):TS EE.T:=⟨52,[(0,.a (.d (.sl (.nam 2)) x0)),(1,.a (.d .bool x1)),(13,.a (.d (.sl (.nam 2)) x13)),(14,.a (.d (.int .i64) x14)),(15,.a (.d (.int .i64) x15))],[],[]⟩
def Su(c:Code):List It2:=[.c c]
def SM(x0:List VLabel)(x1:Bool):TS EE.T:=⟨52,[(0,.a (.d (.sl (.nam 2)) x0)),(1,.a (.d .bool x1))],[],[]⟩
def NN(c:Code)(f:(List VLabel)→Bool→(List VLabel)→Int→Int→VLabel→Option Int)(x0:List VLabel)(x1:Bool)(x13:List VLabel)(x14:Int)(x15:Int)(b6:VLabel):Tree (Lf EE.T × Option Int):=.leaf (.go (Oh c) (Nu x0 x1 x13 x14 x15 b6),f x0 x1 x13 x14 x15 b6)
def Id(c:Code)(f:(List VLabel)→Int→Int→(List (List UInt8 × Bool))→Option Int)(x38:List VLabel)(x39:Int)(x40:Int)(b37:List (List UInt8 × Bool)):Tree (Lf EE.T × Option Int):=.leaf (.go (Iv c) (G0 x38 x39 x40 b37),f x38 x39 x40 b37)
def K3(c:Code)(f:(List VLabel)→Bool→(List VLabel)→Int→Int→Option Int)(x0:List VLabel)(x1:Bool)(x13:List VLabel)(x14:Int)(x15:Int):Tree (Lf EE.T × Option Int):=.leaf (.go (Gf c) (Gr x0 x1 x13 x14 x15),f x0 x1 x13 x14 x15)
abbrev Dr(N:Nat)(r:Int)(k:List It2)(s:TS EE.T):Prop:=eN (Y:=TT) EE (Uu N) VD U5 (fun u=>u=qd r) k s
def Ag(x:Int):Tree (Lf EE.T × Option Int):=.leaf (.done (qd x),some x)
theorem MG{N:Nat}{r:Int}{k4:(List VLabel)→Bool→(List VLabel)→Int→Int→Option Int}(hk4:∀x0 x1 x13 x14 x15,k4 x0 x1 x13 x14 x15=some r→Dr N r (Gf (aa 0 Tryd.f13)) (Gr x0 x1 x13 x14 x15))(n:Nat)(x0:List VLabel)(x1:Bool)(x13:List VLabel)(x14:Int)(x15:Int)(b6:VLabel)(h:gW N k4 n x0 x1 x13 x14 x15 b6=some r):Dr N r (Oh (aa 0 Tryd.f13)) (Nu x0 x1 x13 x14 x15 b6):=
 am (m:=4000) (t:=
 .cond (decide ((b6.Value.length:Int) > 100))
 (
  Ag 2)
 (
  K3 (aa 0 Tryd.f13) k4 x0 x1 x13 x14 (w64 (x15+1)))) (by kernel_rfl) (by kernel_rfl) h (⟨ay (enc:=qd) rfl,fun h=>hk4 _ _ _ _ _ h⟩)
theorem GR{N:Nat}{r:Int}:∀ (n:Nat) (x38:List VLabel) (x39:Int) (x40:Int) (b37:List (List UInt8 × Bool)),eA N n x38 x39 x40 b37=some r→Dr N r (Iv (aa 0 Tryd.f13)) (G0 x38 x39 x40 b37)
 |0,_,_,_,_,h=>by cases h
 |n+1,x38,x39,x40,b37,h=>am (m:=4000) (t:=
  .cond (decide (x40 < x39))
  (
   .bnd (bN x38 x40) fun z3=>
   .cond ((qj b37 z3.Name).getD false)
   (
    Ag 6)
   (
    Id (aa 0 Tryd.f13) (eA N n) x38 x39 (w64 (x40+1)) (zV b37 z3.Name true)))
  (
   Ag 0)) (by kernel_rfl) (by kernel_rfl) h (⟨fun _=>⟨ay (enc:=qd) rfl,fun h=>(GR n) _ _ _ _ h⟩,ay (enc:=qd) rfl⟩)
theorem Gs{N:Nat}{r:Int}:∀ (n:Nat) (x0:List VLabel) (x1:Bool) (x13:List VLabel) (x14:Int) (x15:Int),dN N n x0 x1 x13 x14 x15=some r→Dr N r (Gf (aa 0 Tryd.f13)) (Gr x0 x1 x13 x14 x15)
 |0,_,_,_,_,_,h=>by cases h
 |n+1,x0,x1,x13,x14,x15,h=>am (m:=4000) (t:=
  .cond (decide (x15 < x14))
  (
   .bnd (bN x13 x15) fun z1=>
   .bnd (ei N z1.Name) fun z2=>
   .cond (!z2)
   (
    Ag 1)
   (
    .cond (decide (z1.Value=([] :List UInt8)))
    (
     .cond (!x1)
     (
      Ag 1)
     (
      NN (aa 0 Tryd.f13) (gW N (dN N n) n) x0 x1 x13 x14 x15 z1))
    (
     NN (aa 0 Tryd.f13) (gW N (dN N n) n) x0 x1 x13 x14 x15 z1)))
  (
   Id (aa 0 Tryd.f13) (eA N n) x0 (x0.length:Int) 0 ([] :List (List UInt8 × Bool)))) (by kernel_rfl) (by kernel_rfl) h (⟨fun _=>fun _=>⟨ay (enc:=qd) rfl,⟨⟨ay (enc:=qd) rfl,fun h=>MG (Gs n) n _ _ _ _ _ _ h⟩,fun h=>MG (Gs n) n _ _ _ _ _ _ h⟩⟩,fun h=>GR n _ _ _ _ h⟩)
theorem Tz{N:Nat}{r:Int}(x0:List VLabel)(x1:Bool)(h:hD N x0 x1=some r):Dr N r (Su (aa 0 Tryd.f13)) (SM x0 x1):=
 am (m:=4000) (t:=
 .cond (decide ((x0.length:Int) > 20))
 (
  Ag 2)
 (
  K3 (aa 0 Tryd.f13) (dN N N) x0 x1 x0 (x0.length:Int) 0)) (by kernel_rfl) (by kernel_rfl) h (⟨ay (enc:=qd) rfl,fun h=>Gs N _ _ _ _ _ h⟩)
theorem yw{N:Nat}(x0:List VLabel)(x1:Bool){r:Int}(h:hD N x0 x1=some r)(ρ:Rn):ai Tryd.prog 13 (([.a (.d (.sl (.nam 2)) x0),.a (.d .bool x1)] :List (TV EE.T)).map (TV.to EE.toEnc ρ)) [] (fun out H=>out=.ret ((oc r).to EE.toEnc ρ)∧H=[]):=
 (ip (aa 0 Tryd.f13) 52 mixed (Sr N) Tryd.func13 (by kernel_rfl) rfl rfl rfl rfl (Tz x0 x1 h) ρ).mono fun out H h=>bQ.ret rfl h
def oh(N:Nat):List (TV EE.T)→PV EE.T
 | [u0,u1] =>match eB (.sl (.nam 2)) u0,eB .bool u1 with
   |some x0,some x1=>.opt (hD N x0 x1) oc
   |_,_=>.bad
 |_=>.bad
theorem wz(N:Nat)(us:List (TV EE.T)):(oh N us).ok fun u=>∀ρ,ai Tryd.prog 13 (us.map (TV.to EE.toEnc ρ)) [] (fun out H=>out=.ret (u.to EE.toEnc ρ)∧H=[]):=by
 unfold oh
 split
 ·split
  ·rename_i h0 h1
   intro z hz ρ;refine bq ?_ (yw _ _ hz ρ);exact⟨bb h0 ρ,bb h1 ρ,trivial⟩
  ·trivial
 ·trivial
def jj(r:Bool):TV EE.T:=.a (.d .bool r)
def F0(r:Bool):RL EE.T:=.ret (jj r) []
def Wd:Lvs:=⟨[],[],[],[],false,[],[],[],[]⟩
def Vs:List ResultVar:=[.tmp 2]
def Uo(N:Nat):Gam EE:=⟨[],EQT,[],[]⟩
theorem RW(N:Nat):GOk Tryd.prog TT EE (Uo N):=GOk.nil bP
def Sc(c:Code):List It2:=[.c c]
def TF(x0:List UInt8):TS EE.T:=⟨6,[(0,.a (.d .str x0))],[],[]⟩
abbrev VU(N:Nat)(r:Bool)(k:List It2)(s:TS EE.T):Prop:=eN (Y:=TT) EE (Uo N) Wd Vs (fun u=>u=F0 r) k s
def VT(x:Bool):Tree (Lf EE.T × Option Bool):=.leaf (.done (F0 x),some x)
theorem RQ{N:Nat}{r:Bool}(x0:List UInt8)(h:de N x0=some r):VU N r (Sc (aa 0 Tryd.f53)) (TF x0):=
 am (m:=4000) (t:=
 VT (!decide (x0=x0))) (by kernel_rfl) (by kernel_rfl) h (ay (enc:=F0) rfl)
theorem qr{N:Nat}(x0:List UInt8){r:Bool}(h:de N x0=some r)(ρ:Rn):ai Tryd.prog 53 (([.a (.d .str x0)] :List (TV EE.T)).map (TV.to EE.toEnc ρ)) [] (fun out H=>out=.ret ((jj r).to EE.toEnc ρ)∧H=[]):=
 (ip (aa 0 Tryd.f53) 6 mixed (RW N) Tryd.func53 (by kernel_rfl) rfl rfl rfl rfl (RQ x0 h) ρ).mono fun out H h=>bQ.ret rfl h
def jn(N:Nat):List (TV EE.T)→PV EE.T
 | [u0] =>match eB .str u0 with
   |some x0=>.opt (de N x0) jj
   |_=>.bad
 |_=>.bad
theorem pV(N:Nat)(us:List (TV EE.T)):(jn N us).ok fun u=>∀ρ,ai Tryd.prog 53 (us.map (TV.to EE.toEnc ρ)) [] (fun out H=>out=.ret (u.to EE.toEnc ρ)∧H=[]):=by
 unfold jn
 split
 ·split
  ·rename_i h0
   intro z hz ρ;refine bq ?_ (qr _ hz ρ);exact⟨bb h0 ρ,trivial⟩
  ·trivial
 ·trivial
def iK(r:Int):TV EE.T:=.a (.d (.int .i64) r)
def qI(r:Int):RL EE.T:=.ret (iK r) []
def Vb:Lvs:=⟨[],[],[],[],false,[],[],[],[]⟩
def VJ:List ResultVar:=[.tmp 4]
def Ux(N:Nat):Gam EE:=⟨[⟨53,jn N⟩],EQT,[],[]⟩
theorem TQ(N:Nat):GOk Tryd.prog TT EE (Ux N):=GOk.cons (pV N) (GOk.nil bP)
def Ry(c:Code):List It2:=[.c c]
def SC(x0:List UInt8)(x1:List UInt8):TS EE.T:=⟨20,[(0,.a (.d .str x0)),(1,.a (.d .str x1))],[],[]⟩
abbrev UE(N:Nat)(r:Int)(k:List It2)(s:TS EE.T):Prop:=eN (Y:=TT) EE (Ux N) Vb VJ (fun u=>u=qI r) k s
def AD(x:Int):Tree (Lf EE.T × Option Int):=.leaf (.done (qI x),some x)
theorem To{N:Nat}{r:Int}(x0:List UInt8)(x1:List UInt8)(h:cf N x0 x1=some r):UE N r (Ry (aa 0 Tryd.f32)) (SC x0 x1):=
 am (m:=4000) (t:=
 .bnd (de N x0) fun z1=>
 .bnd (de N x1) fun z2=>
 .cond (z1)
 (
  .cond (z2)
  (
   AD 0)
  (
   AD (-1)))
 (
  .cond (z2)
  (
   AD 1)
  (
   .cond (Op.bytesLess x0 x1)
   (
    AD (-1))
   (
    .cond (!(Op.bytesLess x0 x1 || decide (x0=x1)))
    (
     AD 1)
    (
     AD 0))))) (by kernel_rfl) (by kernel_rfl) h (fun _=>fun _=>⟨⟨ay (enc:=qI) rfl,ay (enc:=qI) rfl⟩,⟨ay (enc:=qI) rfl,⟨ay (enc:=qI) rfl,⟨ay (enc:=qI) rfl,ay (enc:=qI) rfl⟩⟩⟩⟩)
theorem pi{N:Nat}(x0:List UInt8)(x1:List UInt8){r:Int}(h:cf N x0 x1=some r)(ρ:Rn):ai Tryd.prog 32 (([.a (.d .str x0),.a (.d .str x1)] :List (TV EE.T)).map (TV.to EE.toEnc ρ)) [] (fun out H=>out=.ret ((iK r).to EE.toEnc ρ)∧H=[]):=
 (ip (aa 0 Tryd.f32) 20 mixed (TQ N) Tryd.func32 (by kernel_rfl) rfl rfl rfl rfl (To x0 x1 h) ρ).mono fun out H h=>bQ.ret rfl h
def gj(N:Nat):List (TV EE.T)→PV EE.T
 | [u0,u1] =>match eB .str u0,eB .str u1 with
   |some x0,some x1=>.opt (cf N x0 x1) iK
   |_,_=>.bad
 |_=>.bad
theorem kc(N:Nat)(us:List (TV EE.T)):(gj N us).ok fun u=>∀ρ,ai Tryd.prog 32 (us.map (TV.to EE.toEnc ρ)) [] (fun out H=>out=.ret (u.to EE.toEnc ρ)∧H=[]):=by
 unfold gj
 split
 ·split
  ·rename_i h0 h1
   intro z hz ρ;refine bq ?_ (pi _ _ hz ρ);exact⟨bb h0 ρ,bb h1 ρ,trivial⟩
  ·trivial
 ·trivial
def md(r:Int):TV EE.T:=.a (.d (.int .i64) r)
def FL(r:Int):RL EE.T:=.ret (md r) []
def We:Lvs:=⟨[],[],[],[],false,[],[],[],[]⟩
def Uv:List ResultVar:=[.tmp 4]
def VO(N:Nat):Gam EE:=⟨[⟨32,gj N⟩],EQT,[],[]⟩
theorem SW(N:Nat):GOk Tryd.prog TT EE (VO N):=GOk.cons (kc N) (GOk.nil bP)
def TH(c:Code):List It2:=[.c c]
def SQ(x0:VLabel)(x1:VLabel):TS EE.T:=⟨10,[(0,.ag (ga EE (.nam 2) x0)),(1,.ag (ga EE (.nam 2) x1))],[],[]⟩
abbrev Wa(N:Nat)(r:Int)(k:List It2)(s:TS EE.T):Prop:=eN (Y:=TT) EE (VO N) We Uv (fun u=>u=FL r) k s
def Vc(x:Int):Tree (Lf EE.T × Option Int):=.leaf (.done (FL x),some x)
theorem Tt{N:Nat}{r:Int}(x0:VLabel)(x1:VLabel)(h:eS N x0 x1=some r):Wa N r (TH (aa 0 Tryd.f15)) (SQ x0 x1):=
 am (m:=4000) (t:=
 .bnd (cf N x0.Name x1.Name) fun z1=>
 Vc z1) (by kernel_rfl) (by kernel_rfl) h (fun _=>ay (enc:=FL) rfl)
theorem uM{N:Nat}(x0:VLabel)(x1:VLabel){r:Int}(h:eS N x0 x1=some r)(ρ:Rn):ai Tryd.prog 15 (([.ag (ga EE (.nam 2) x0),.ag (ga EE (.nam 2) x1)] :List (TV EE.T)).map (TV.to EE.toEnc ρ)) [] (fun out H=>out=.ret ((md r).to EE.toEnc ρ)∧H=[]):=
 (ip (aa 0 Tryd.f15) 10 mixed (SW N) Tryd.func15 (by kernel_rfl) rfl rfl rfl rfl (Tt x0 x1 h) ρ).mono fun out H h=>bQ.ret rfl h
def l7(N:Nat):List (TV EE.T)→PV EE.T
 | [u0,u1] =>match y5 EE 2 u0,y5 EE 2 u1 with
   |some x0,some x1=>.opt (eS N x0 x1) md
   |_,_=>.bad
 |_=>.bad
theorem uB(N:Nat)(us:List (TV EE.T)):(l7 N us).ok fun u=>∀ρ,ai Tryd.prog 15 (us.map (TV.to EE.toEnc ρ)) [] (fun out H=>out=.ret (u.to EE.toEnc ρ)∧H=[]):=by
 unfold l7
 split
 ·split
  ·rename_i h0 h1
   intro z hz ρ;refine bq ?_ (uM _ _ hz ρ);exact⟨mm h0 ρ,mm h1 ρ,trivial⟩
  ·trivial
 ·trivial
def cx(r:Bool):TV EE.T:=.a (.d .bool r)
def Bp(r:Bool):List (Nat × TB EE.T):=[]
def tL(r:Bool):RL EE.T:=.ret (cx r) (Bp r)
def O0:Lvs:=⟨[(4,⟨[(0,false),(1,false),(5,false)],[],[],[]⟩)],[(2,⟨[(0,false),(1,false),(5,false)],[],[],[]⟩)],[],[],false,[],[],[],[]⟩
def OO:List ResultVar:=[.tmp 4]
def Ng(N:Nat):Gam EE:=⟨[⟨15,l7 N⟩],EQT,[],[]⟩
theorem L8(N:Nat):GOk Tryd.prog TT EE (Ng N):=GOk.cons (uB N) (GOk.nil bP)
def Fa(c:Code):List It2:=atL 2 c
def EL(x0:List VLabel)(x5:Int):TS EE.T:=⟨25,[(0,.a (.d (.sl (.nam 2)) x0)),(1,.fn 15 []),(5,.a (.d (.int .i64) x5))],[],[]⟩
def Lz(c:Code):List It2:=[.c c]
def LA(x0:List VLabel):TS EE.T:=⟨25,[(0,.a (.d (.sl (.nam 2)) x0)),(1,.fn 15 [])],[],[]⟩
def Fb(c:Code)(f:(List VLabel)→Int→Option Bool)(x0:List VLabel)(x5:Int):Tree (Lf EE.T × Option Bool):=.leaf (.go (Fa c) (EL x0 x5),f x0 x5)
abbrev G4(N:Nat)(r:Bool)(k:List It2)(s:TS EE.T):Prop:=eN (Y:=TT) EE (Ng N) O0 OO (fun u=>u=tL r) k s
def GM(x:Bool):Tree (Lf EE.T × Option Bool):=.leaf (.done (tL x),some x)
theorem Db{N:Nat}{r:Bool}:∀ (n:Nat) (x0:List VLabel) (x5:Int),aw N n x0 x5=some r→G4 N r (Fa (aa 0 Tryd.f14)) (EL x0 x5)
 |0,_,_,h=>by cases h
 |n+1,x0,x5,h=>am (m:=4000) (t:=
  .cond (decide (x5 > 0))
  (
   .bnd (bN x0 x5) fun z1=>
   .bnd (bN x0 (w64 (x5 - 1))) fun z2=>
   .bnd (eS N z1 z2) fun z3=>
   .cond (decide (z3 < 0))
   (
    GM false)
   (
    Fb (aa 0 Tryd.f14) (aw N n) x0 (w64 (x5 - 1))))
  (
   GM true)) (by kernel_rfl) (by kernel_rfl) h (⟨fun _=>fun _=>fun _=>⟨ay (enc:=tL) rfl,fun h=>(Db n) _ _ h⟩,ay (enc:=tL) rfl⟩)
theorem Ky{N:Nat}{r:Bool}(x0:List VLabel)(h:aI N x0=some r):G4 N r (Lz (aa 0 Tryd.f14)) (LA x0):=
 am (m:=4000) (t:=
 Fb (aa 0 Tryd.f14) (aw N N) x0 (w64 ((x0.length:Int) - 1))) (by kernel_rfl) (by kernel_rfl) h (fun h=>Db N _ _ h)
def Hz(x0:List VLabel):List (TV EE.T):=[.a (.d (.sl (.nam 2)) x0),.fn 15 []]
def Cs(x0:List VLabel):List (Nat × TB EE.T):=[]
theorem gH{N:Nat}(x0:List VLabel){r:Bool}(h:aI N x0=some r)(ρ:Rn)(hi:Inj ρ (Cs x0)):ai Tryd.prog 14 ((Hz x0).map (TV.to EE.toEnc ρ)) (hTo EE.toEnc ρ (Cs x0)) (fun out H=>out=.ret ((cx r).to EE.toEnc ρ)∧H=hTo EE.toEnc ρ (Bp r)):=
 (fA (aa 0 Tryd.f14) 25 mixed (L8 N) Tryd.func14 (by kernel_rfl) rfl rfl rfl rfl (Ky x0 h) ρ hi).mono fun out H h=>bQ.retH rfl rfl h
def dY(N:Nat)(us:List (TV EE.T))(hs:List (Nat × TB EE.T)):XR EE.T:=
 gdX (gJ us 2) <|
 bnX (aD (.sl (.nam 2)) us 0) fun x0=>
 bnX (aF 15 us 1) fun c1=>
 bnX (cbs c1) fun s1=>
 gdX (gJ s1 0) <|
 gdX (b9 hs []) <|
 .ret (aI N x0) [] cx (Bp)
theorem gC(N:Nat):XOk Tryd.prog EE 14 (dY N):=fun us hs=>
 aQ fun h1=>ah fun x0 h2=>ah fun c1 h3=>ah fun s1 h4=>aQ fun h5=>aQ fun h6=>fun z hz=>⟨rfl,fun ρ hi=>xK (us':=Hz x0) (h0:=Cs x0) (ρ':=oA ρ []) hi h6 (by kernel_rfl) ⟨la h2,GN (js:=[]) h3 h4 (by rw[Qs (bY h5)];  kernel_rfl),bY h1⟩ trivial (fun hj=>gH x0 hz _ hj) (fun out H h=>⟨h.1.trans (by kernel_rfl),h.2.trans (by kernel_rfl)⟩)⟩
def nh(r:Int):TV EE.T:=.a (.d (.int .i64) r)
def Ex(r:Int):RL EE.T:=.ret (nh r) []
def Wr:Lvs:=⟨[],[],[],[],false,[],[],[],[]⟩
def WG:List ResultVar:=[.tmp 2]
def w8G(N:Nat):Gam EE:=⟨[⟨13,oh N⟩],EQT,[⟨14,dY N⟩],[]⟩
theorem Uq(N:Nat):GOk Tryd.prog TT EE (w8G N):=GOk.cons (wz N) (GOk.consx (gC N) (GOk.nil bP))
def VK(c:Code):List It2:=[.c c]
def VC(x0:List VLabel):TS EE.T:=⟨12,[(0,.a (.d (.sl (.nam 2)) x0))],[],[]⟩
abbrev Ws(N:Nat)(r:Int)(k:List It2)(s:TS EE.T):Prop:=eN (Y:=TT) EE (w8G N) Wr WG (fun u=>u=Ex r) k s
def Ta(x:Int):Tree (Lf EE.T × Option Int):=.leaf (.done (Ex x),some x)
theorem VP{N:Nat}{r:Int}(x0:List VLabel)(h:cK N x0=some r):Ws N r (VK (aa 0 Tryd.f8)) (VC x0):=
 am (m:=4000) (t:=
 .bnd (hD N x0 false) fun z1=>
 .cond (z1 != 0)
 (
  Ta z1)
 (
  .bnd (aI N x0) fun z2=>
  .cond (!z2)
  (
   Ta 4)
  (
   Ta 0))) (by kernel_rfl) (by kernel_rfl) h (fun _=>⟨ay (enc:=Ex) rfl,fun _=>⟨ay (enc:=Ex) rfl,ay (enc:=Ex) rfl⟩⟩)
theorem wx{N:Nat}(x0:List VLabel){r:Int}(h:cK N x0=some r)(ρ:Rn):ai Tryd.prog 8 (([.a (.d (.sl (.nam 2)) x0)] :List (TV EE.T)).map (TV.to EE.toEnc ρ)) [] (fun out H=>out=.ret ((nh r).to EE.toEnc ρ)∧H=[]):=
 (ip (aa 0 Tryd.f8) 12 mixed (Uq N) Tryd.func8 (by kernel_rfl) rfl rfl rfl rfl (VP x0 h) ρ).mono fun out H h=>bQ.ret rfl h
def iT(N:Nat):List (TV EE.T)→PV EE.T
 | [u0] =>match eB (.sl (.nam 2)) u0 with
   |some x0=>.opt (cK N x0) nh
   |_=>.bad
 |_=>.bad
theorem lG(N:Nat)(us:List (TV EE.T)):(iT N us).ok fun u=>∀ρ,ai Tryd.prog 8 (us.map (TV.to EE.toEnc ρ)) [] (fun out H=>out=.ret (u.to EE.toEnc ρ)∧H=[]):=by
 unfold iT
 split
 ·split
  ·rename_i h0
   intro z hz ρ;refine bq ?_ (wx _ hz ρ);exact⟨bb h0 ρ,trivial⟩
  ·trivial
 ·trivial
def jl(r:Bool):TV EE.T:=.a (.d .bool r)
def FU(r:Bool):RL EE.T:=.ret (jl r) []
def Vp:Lvs:=⟨[],[],[],[],false,[],[],[],[]⟩
def UG:List ResultVar:=[.tmp 2]
def T7(N:Nat):Gam EE:=⟨[⟨18,iu N⟩],EQT,[],[]⟩
theorem RT(N:Nat):GOk Tryd.prog TT EE (T7 N):=GOk.cons (kQ N) (GOk.nil bP)
def S0(c:Code):List It2:=[.c c]
def SZ(x0:List UInt8):TS EE.T:=⟨6,[(0,.a (.d .str x0))],[],[]⟩
abbrev Wn(N:Nat)(r:Bool)(k:List It2)(s:TS EE.T):Prop:=eN (Y:=TT) EE (T7 N) Vp UG (fun u=>u=FU r) k s
def UK(x:Bool):Tree (Lf EE.T × Option Bool):=.leaf (.done (FU x),some x)
theorem S1{N:Nat}{r:Bool}(x0:List UInt8)(h:fo N x0=some r):Wn N r (S0 (aa 0 Tryd.f17)) (SZ x0):=
 am (m:=4000) (t:=
 .bnd (ei N x0) fun z1=>
 UK (!z1)) (by kernel_rfl) (by kernel_rfl) h (fun _=>ay (enc:=FU) rfl)
theorem qO{N:Nat}(x0:List UInt8){r:Bool}(h:fo N x0=some r)(ρ:Rn):ai Tryd.prog 17 (([.a (.d .str x0)] :List (TV EE.T)).map (TV.to EE.toEnc ρ)) [] (fun out H=>out=.ret ((jl r).to EE.toEnc ρ)∧H=[]):=
 (ip (aa 0 Tryd.f17) 6 mixed (RT N) Tryd.func17 (by kernel_rfl) rfl rfl rfl rfl (S1 x0 h) ρ).mono fun out H h=>bQ.ret rfl h
def jr(N:Nat):List (TV EE.T)→PV EE.T
 | [u0] =>match eB .str u0 with
   |some x0=>.opt (fo N x0) jl
   |_=>.bad
 |_=>.bad
theorem pT(N:Nat)(us:List (TV EE.T)):(jr N us).ok fun u=>∀ρ,ai Tryd.prog 17 (us.map (TV.to EE.toEnc ρ)) [] (fun out H=>out=.ret (u.to EE.toEnc ρ)∧H=[]):=by
 unfold jr
 split
 ·split
  ·rename_i h0
   intro z hz ρ;refine bq ?_ (qO _ hz ρ);exact⟨bb h0 ρ,trivial⟩
  ·trivial
 ·trivial
def kX(r:Bool):TV EE.T:=.a (.d .bool r)
def FG(r:Bool):RL EE.T:=.ret (kX r) []
def UI:Lvs:=⟨[],[],[],[],false,[],[],[],[]⟩
def T6:List ResultVar:=[.tmp 2]
def TU(N:Nat):Gam EE:=⟨[⟨38,ot N⟩],EQT,[],[]⟩
theorem RS(N:Nat):GOk Tryd.prog TT EE (TU N):=GOk.cons (wG N) (GOk.nil bP)
def Tj(c:Code):List It2:=[.c c]
def SJ(x0:List UInt8):TS EE.T:=⟨11,[(0,.a (.d .str x0))],[],[]⟩
abbrev UV(N:Nat)(r:Bool)(k:List It2)(s:TS EE.T):Prop:=eN (Y:=TT) EE (TU N) UI T6 (fun u=>u=FG r) k s
def Vz(x:Bool):Tree (Lf EE.T × Option Bool):=.leaf (.done (FG x),some x)
theorem SL{N:Nat}{r:Bool}(x0:List UInt8)(h:ir N x0=some r):UV N r (Tj (aa 0 Tryd.f20)) (SJ x0):=
 am (m:=4000) (t:=
 .bnd (g9 N x0) fun z1=>
 Vz z1.2) (by kernel_rfl) (by kernel_rfl) h (fun _=>ay (enc:=FG) rfl)
theorem sP{N:Nat}(x0:List UInt8){r:Bool}(h:ir N x0=some r)(ρ:Rn):ai Tryd.prog 20 (([.a (.d .str x0)] :List (TV EE.T)).map (TV.to EE.toEnc ρ)) [] (fun out H=>out=.ret ((kX r).to EE.toEnc ρ)∧H=[]):=
 (ip (aa 0 Tryd.f20) 11 mixed (RS N) Tryd.func20 (by kernel_rfl) rfl rfl rfl rfl (SL x0 h) ρ).mono fun out H h=>bQ.ret rfl h
def kM(N:Nat):List (TV EE.T)→PV EE.T
 | [u0] =>match eB .str u0 with
   |some x0=>.opt (ir N x0) kX
   |_=>.bad
 |_=>.bad
theorem rQ(N:Nat)(us:List (TV EE.T)):(kM N us).ok fun u=>∀ρ,ai Tryd.prog 20 (us.map (TV.to EE.toEnc ρ)) [] (fun out H=>out=.ret (u.to EE.toEnc ρ)∧H=[]):=by
 unfold kM
 split
 ·split
  ·rename_i h0
   intro z hz ρ;refine bq ?_ (sP _ hz ρ);exact⟨bb h0 ρ,trivial⟩
  ·trivial
 ·trivial
def dI(r:Int):TV EE.T:=.a (.d (.int .i64) r)
def Cj(r:Int):List (Nat × TB EE.T):=[]
def ug(r:Int):RL EE.T:=.ret (dI r) (Cj r)
def QI:Lvs:=⟨[],[(2,⟨[(0,false),(1,false),(7,false),(8,false)],[],[],[]⟩)],[],[],false,[],[],[],[]⟩
def OT:List ResultVar:=[.tmp 4]
def J1(N:Nat):Gam EE:=⟨[],EQT,[⟨17,xOf (jr N)⟩],[]⟩
theorem Nc(N:Nat):GOk Tryd.prog TT EE (J1 N):=GOk.consx (Nk (pT N)) (GOk.nil bP)
def DU(c:Code):List It2:=atL 2 c
def Es(x0:List (List UInt8))(x7:Int)(x8:Int):TS EE.T:=⟨19,[(0,.a (.d (.sl .str) x0)),(1,.fn 17 []),(7,.a (.d (.int .i64) x7)),(8,.a (.d (.int .i64) x8))],[],[]⟩
def M7(c:Code):List It2:=[.c c]
def M9(x0:List (List UInt8)):TS EE.T:=⟨19,[(0,.a (.d (.sl .str) x0)),(1,.fn 17 [])],[],[]⟩
def Eo(c:Code)(f:(List (List UInt8))→Int→Int→Option Int)(x0:List (List UInt8))(x7:Int)(x8:Int):Tree (Lf EE.T × Option Int):=.leaf (.go (DU c) (Es x0 x7 x8),f x0 x7 x8)
abbrev HT(N:Nat)(r:Int)(k:List It2)(s:TS EE.T):Prop:=eN (Y:=TT) EE (J1 N) QI OT (fun u=>u=ug r) k s
def Hm(x:Int):Tree (Lf EE.T × Option Int):=.leaf (.done (ug x),some x)
theorem Ea{N:Nat}{r:Int}:∀ (n:Nat) (x0:List (List UInt8)) (x7:Int) (x8:Int),aO N n x0 x7 x8=some r→HT N r (DU (aa 0 Tryd.f33)) (Es x0 x7 x8)
 |0,_,_,_,h=>by cases h
 |n+1,x0,x7,x8,h=>am (m:=4000) (t:=
  .cond (decide (x8 < x7))
  (
   .bnd (bN x0 x8) fun z1=>
   .bnd (fo N z1) fun z2=>
   .cond (z2)
   (
    Hm x8)
   (
    Eo (aa 0 Tryd.f33) (aO N n) x0 x7 (w64 (x8+1))))
  (
   Hm (-1))) (by kernel_rfl) (by kernel_rfl) h (⟨fun _=>fun _=>⟨ay (enc:=ug) rfl,fun h=>(Ea n) _ _ _ h⟩,ay (enc:=ug) rfl⟩)
theorem Lc{N:Nat}{r:Int}(x0:List (List UInt8))(h:bv N x0=some r):HT N r (M7 (aa 0 Tryd.f33)) (M9 x0):=
 am (m:=4000) (t:=
 Eo (aa 0 Tryd.f33) (aO N N) x0 (x0.length:Int) 0) (by kernel_rfl) (by kernel_rfl) h (fun h=>Ea N _ _ _ h)
def H7(x0:List (List UInt8)):List (TV EE.T):=[.a (.d (.sl .str) x0),.fn 17 []]
def BU(x0:List (List UInt8)):List (Nat × TB EE.T):=[]
theorem jc{N:Nat}(x0:List (List UInt8)){r:Int}(h:bv N x0=some r)(ρ:Rn)(hi:Inj ρ (BU x0)):ai Tryd.prog 33 ((H7 x0).map (TV.to EE.toEnc ρ)) (hTo EE.toEnc ρ (BU x0)) (fun out H=>out=.ret ((dI r).to EE.toEnc ρ)∧H=hTo EE.toEnc ρ (Cj r)):=
 (fA (aa 0 Tryd.f33) 19 mixed (Nc N) Tryd.func33 (by kernel_rfl) rfl rfl rfl rfl (Lc x0 h) ρ hi).mono fun out H h=>bQ.retH rfl rfl h
def fG(N:Nat)(us:List (TV EE.T))(hs:List (Nat × TB EE.T)):XR EE.T:=
 gdX (gJ us 2) <|
 bnX (aD (.sl .str) us 0) fun x0=>
 bnX (aF 17 us 1) fun c1=>
 bnX (cbs c1) fun s1=>
 gdX (gJ s1 0) <|
 gdX (b9 hs []) <|
 .ret (bv N x0) [] dI (Cj)
theorem iU(N:Nat):XOk Tryd.prog EE 33 (fG N):=fun us hs=>
 aQ fun h1=>ah fun x0 h2=>ah fun c1 h3=>ah fun s1 h4=>aQ fun h5=>aQ fun h6=>fun z hz=>⟨rfl,fun ρ hi=>xK (us':=H7 x0) (h0:=BU x0) (ρ':=oA ρ []) hi h6 (by kernel_rfl) ⟨la h2,GN (js:=[]) h3 h4 (by rw[Qs (bY h5)];  kernel_rfl),bY h1⟩ trivial (fun hj=>jc x0 hz _ hj) (fun out H h=>⟨h.1.trans (by kernel_rfl),h.2.trans (by kernel_rfl)⟩)⟩
def dh(r:Bool):TV EE.T:=.a (.d .bool r)
def BR(r:Bool):List (Nat × TB EE.T):=[]
def yq(r:Bool):RL EE.T:=.ret (dh r) (BR r)
def QP:Lvs:=⟨[],[],[],[],false,[],[],[],[]⟩
def Qc:List ResultVar:=[.tmp 4]
def KB(N:Nat):Gam EE:=⟨[],EQT,[⟨33,fG N⟩],[]⟩
theorem Lr(N:Nat):GOk Tryd.prog TT EE (KB N):=GOk.consx (iU N) (GOk.nil bP)
def Md(c:Code):List It2:=[.c c]
def N4(x0:List (List UInt8)):TS EE.T:=⟨9,[(0,.a (.d (.sl .str) x0)),(1,.fn 17 [])],[],[]⟩
abbrev Pt(N:Nat)(r:Bool)(k:List It2)(s:TS EE.T):Prop:=eN (Y:=TT) EE (KB N) QP Qc (fun u=>u=yq r) k s
def Pz(x:Bool):Tree (Lf EE.T × Option Bool):=.leaf (.done (yq x),some x)
theorem Kf{N:Nat}{r:Bool}(x0:List (List UInt8))(h:aT N x0=some r):Pt N r (Md (aa 0 Tryd.f16)) (N4 x0):=
 am (m:=4000) (t:=
 .bnd (bv N x0) fun z1=>
 Pz (decide (z1≥0))) (by kernel_rfl) (by kernel_rfl) h (fun _=>ay (enc:=yq) rfl)
def Hq(x0:List (List UInt8)):List (TV EE.T):=[.a (.d (.sl .str) x0),.fn 17 []]
def Cx(x0:List (List UInt8)):List (Nat × TB EE.T):=[]
theorem iJ{N:Nat}(x0:List (List UInt8)){r:Bool}(h:aT N x0=some r)(ρ:Rn)(hi:Inj ρ (Cx x0)):ai Tryd.prog 16 ((Hq x0).map (TV.to EE.toEnc ρ)) (hTo EE.toEnc ρ (Cx x0)) (fun out H=>out=.ret ((dh r).to EE.toEnc ρ)∧H=hTo EE.toEnc ρ (BR r)):=
 (fA (aa 0 Tryd.f16) 9 mixed (Lr N) Tryd.func16 (by kernel_rfl) rfl rfl rfl rfl (Kf x0 h) ρ hi).mono fun out H h=>bQ.retH rfl rfl h
def eO(N:Nat)(us:List (TV EE.T))(hs:List (Nat × TB EE.T)):XR EE.T:=
 gdX (gJ us 2) <|
 bnX (aD (.sl .str) us 0) fun x0=>
 bnX (aF 17 us 1) fun c1=>
 bnX (cbs c1) fun s1=>
 gdX (gJ s1 0) <|
 gdX (b9 hs []) <|
 .ret (aT N x0) [] dh (BR)
theorem iq(N:Nat):XOk Tryd.prog EE 16 (eO N):=fun us hs=>
 aQ fun h1=>ah fun x0 h2=>ah fun c1 h3=>ah fun s1 h4=>aQ fun h5=>aQ fun h6=>fun z hz=>⟨rfl,fun ρ hi=>xK (us':=Hq x0) (h0:=Cx x0) (ρ':=oA ρ []) hi h6 (by kernel_rfl) ⟨la h2,GN (js:=[]) h3 h4 (by rw[Qs (bY h5)];  kernel_rfl),bY h1⟩ trivial (fun hj=>iJ x0 hz _ hj) (fun out H h=>⟨h.1.trans (by kernel_rfl),h.2.trans (by kernel_rfl)⟩)⟩
def kS(r:aR):TV EE.T:=.tu [.a (.d (.ptr (.nam 5)) r.1),.a (.d (.int .i64) r.2)]
def mf(r:aR):RL EE.T:=.ret (kS r) []
def Wx:Lvs:=⟨[(9,⟨[(5,false)],[],[(5,(some 6,[]))],[]⟩),(10,⟨[(1,false),(4,false)],[],[(1,(some 3,[]))],[]⟩),(12,⟨[(1,false),(4,false),(6,false),(7,false)],[],[(1,(some 3,[]))],[]⟩),(13,⟨[(1,false),(4,false),(7,false)],[],[(1,(some 3,[]))],[]⟩),(15,⟨[(1,false),(4,false)],[],[(1,(some 3,[]))],[]⟩)],[],[12,13,15],[],false,[],[],[],[]⟩
def WC:List ResultVar:=[.tmp 2,.tmp 3]
def w9G(N:Nat):Gam EE:=⟨[⟨18,iu N⟩,⟨19,nt N⟩,⟨20,kM N⟩],EQT,[⟨16,eO N⟩],[]⟩
theorem T0(N:Nat):GOk Tryd.prog TT EE (w9G N):=GOk.cons (kQ N) (GOk.cons (u4 N) (GOk.cons (rQ N) (GOk.consx (iq N) (GOk.nil bP))))
def NE(c:Code):List It2:=atR 15 c
def Lb(x4:Option VMask)(b1:VRule):TS EE.T:=⟨96,[(1,.a (.box 1 0)),(4,.a (.d (.ptr (.nam 5)) x4))],[(1,.cs (ga EE (.nam 3) b1))],[]⟩
def Mt(c:Code):List It2:=atR 13 c
def MT(x4:Option VMask)(x7:Bool)(b1:VRule):TS EE.T:=⟨96,[(1,.a (.box 1 0)),(4,.a (.d (.ptr (.nam 5)) x4)),(7,.a (.d .bool x7))],[(1,.cs (ga EE (.nam 3) b1))],[]⟩
def ME(c:Code):List It2:=atR 12 c
def M3(x4:Option VMask)(x6:Bool)(x7:Bool)(b1:VRule):TS EE.T:=⟨96,[(1,.a (.box 1 0)),(4,.a (.d (.ptr (.nam 5)) x4)),(6,.a (.d .bool x6)),(7,.a (.d .bool x7))],[(1,.cs (ga EE (.nam 3) b1))],[]⟩
def Ul(c:Code):List It2:=[.c c]
def Vh(x0:VRule):TS EE.T:=⟨96,[(0,.ag (ga EE (.nam 3) x0))],[],[]⟩
def Mh(c:Code)(f:(Option VMask)→VRule→Option aR)(x4:Option VMask)(b1:VRule):Tree (Lf EE.T × Option aR):=.leaf (.go (NE c) (Lb x4 b1),f x4 b1)
def Ko(c:Code)(f:(Option VMask)→Bool→VRule→Option aR)(x4:Option VMask)(x7:Bool)(b1:VRule):Tree (Lf EE.T × Option aR):=.leaf (.go (Mt c) (MT x4 x7 b1),f x4 x7 b1)
def KV(c:Code)(f:(Option VMask)→Bool→Bool→VRule→Option aR)(x4:Option VMask)(x6:Bool)(x7:Bool)(b1:VRule):Tree (Lf EE.T × Option aR):=.leaf (.go (ME c) (M3 x4 x6 x7 b1),f x4 x6 x7 b1)
abbrev OF(N:Nat)(r:aR)(k:List It2)(s:TS EE.T):Prop:=eN (Y:=TT) EE (w9G N) Wx WC (fun u=>u=mf r) k s
def t8(x:aR):Tree (Lf EE.T × Option aR):=.leaf (.done (mf x),some x)
theorem M4{N:Nat}{r:aR}(n:Nat)(x4:Option VMask)(b1:VRule)(h:fJ N n x4 b1=some r):OF N r (NE (aa 0 Tryd.f9)) (Lb x4 b1):=
 am (m:=4000) (t:=
 .cond (b1.Kind==4)
 (
  .cond (decide (b1.Modulus < 1))
  (
   t8 ((none:Option VMask),3))
  (
   .cond (decide (b1.Modulus > 1000000))
   (
    t8 ((none:Option VMask),3))
   (
    t8 (x4,0))))
 (
  t8 (x4,0))) (by kernel_rfl) (by kernel_rfl) h (⟨⟨ay (enc:=mf) rfl,⟨ay (enc:=mf) rfl,ay (enc:=mf) rfl⟩⟩,ay (enc:=mf) rfl⟩)
theorem Lq{N:Nat}{r:aR}(n:Nat)(x4:Option VMask)(x7:Bool)(b1:VRule)(h:fI N n x4 x7 b1=some r):OF N r (Mt (aa 0 Tryd.f9)) (MT x4 x7 b1):=
 am (m:=4000) (t:=
 .cond (b1.Kind==5)
 (
  .cond (!x7)
  (
   t8 ((none:Option VMask),1))
  (
   Mh (aa 0 Tryd.f9) (fJ N n) x4 b1))
 (
  Mh (aa 0 Tryd.f9) (fJ N n) x4 b1)) (by kernel_rfl) (by kernel_rfl) h (⟨⟨ay (enc:=mf) rfl,fun h=>M4 n _ _ h⟩,fun h=>M4 n _ _ h⟩)
theorem NG{N:Nat}{r:aR}(n:Nat)(x4:Option VMask)(x6:Bool)(x7:Bool)(b1:VRule)(h:fC N n x4 x6 x7 b1=some r):OF N r (ME (aa 0 Tryd.f9)) (M3 x4 x6 x7 b1):=
 am (m:=4000) (t:=
 .cond (b1.Kind==4)
 (
  .cond (!x6)
  (
   t8 ((none:Option VMask),1))
  (
   Ko (aa 0 Tryd.f9) (fI N n) x4 x7 b1))
 (
  Ko (aa 0 Tryd.f9) (fI N n) x4 x7 b1)) (by kernel_rfl) (by kernel_rfl) h (⟨⟨ay (enc:=mf) rfl,fun h=>Lq n _ _ _ h⟩,fun h=>Lq n _ _ _ h⟩)
theorem UD{N:Nat}{r:aR}(x0:VRule)(h:cm N x0=some r):OF N r (Ul (aa 0 Tryd.f9)) (Vh x0):=
 am (m:=4000) (t:=
 .cond (decide (x0.Kind < 1))
 (
  t8 ((none:Option VMask),7))
 (
  .cond (decide (x0.Kind > 7))
  (
   t8 ((none:Option VMask),7))
  (
   .cond (decide ((x0.Sources.length:Int) > 20))
   (
    t8 ((none:Option VMask),2))
   (
    .cond (decide ((if(if(x0.Between.length:Int) < (x0.Replacement.length:Int) then(x0.Replacement.length:Int) else(x0.Between.length:Int)) < (x0.Target.length:Int) then(x0.Target.length:Int) else(if(x0.Between.length:Int) < (x0.Replacement.length:Int) then(x0.Replacement.length:Int) else(x0.Between.length:Int))) > 100))
    (
     t8 ((none:Option VMask),2))
    (
     .bnd (aT N x0.Sources) fun z1=>
     .cond (z1)
     (
      t8 ((none:Option VMask),1))
     (
      .bnd (hQ N x0.Mask) fun z2=>
      .cond (z2.2.Err != 0)
      (
       t8 ((none:Option VMask),z2.2.Err))
      (
       .bnd (ei N x0.Target) fun z3=>
       .bnd (ir N x0.Replacement) fun z4=>
       .cond (x0.Kind==1)
       (
        .cond (z3)
        (
         .cond (!z4)
         (
          t8 ((none:Option VMask),1))
         (
          KV (aa 0 Tryd.f9) (fC N N) z2.1 z3 z4 x0))
        (
         t8 ((none:Option VMask),1)))
       (
        KV (aa 0 Tryd.f9) (fC N N) z2.1 z3 z4 x0)))))))) (by kernel_rfl) (by kernel_rfl) h (⟨ay (enc:=mf) rfl,⟨ay (enc:=mf) rfl,⟨ay (enc:=mf) rfl,⟨ay (enc:=mf) rfl,fun _=>⟨ay (enc:=mf) rfl,fun _=>⟨ay (enc:=mf) rfl,fun _=>fun _=>⟨⟨⟨ay (enc:=mf) rfl,fun h=>NG N _ _ _ _ h⟩,ay (enc:=mf) rfl⟩,fun h=>NG N _ _ _ _ h⟩⟩⟩⟩⟩⟩⟩)
theorem s9{N:Nat}(x0:VRule){r:aR}(h:cm N x0=some r)(ρ:Rn):ai Tryd.prog 9 (([.ag (ga EE (.nam 3) x0)] :List (TV EE.T)).map (TV.to EE.toEnc ρ)) [] (fun out H=>out=.ret ((kS r).to EE.toEnc ρ)∧H=[]):=
 (ip (aa 0 Tryd.f9) 96 mixed (T0 N) Tryd.func9 (by kernel_rfl) rfl rfl rfl rfl (UD x0 h) ρ).mono fun out H h=>bQ.ret rfl h
def gF(N:Nat):List (TV EE.T)→PV EE.T
 | [u0] =>match y5 EE 3 u0 with
   |some x0=>.opt (cm N x0) kS
   |_=>.bad
 |_=>.bad
theorem jp(N:Nat)(us:List (TV EE.T)):(gF N us).ok fun u=>∀ρ,ai Tryd.prog 9 (us.map (TV.to EE.toEnc ρ)) [] (fun out H=>out=.ret (u.to EE.toEnc ρ)∧H=[]):=by
 unfold gF
 split
 ·split
  ·rename_i h0
   intro z hz ρ;refine bq ?_ (s9 _ hz ρ);exact⟨mm h0 ρ,trivial⟩
  ·trivial
 ·trivial
def l8(r:Int):TV EE.T:=.a (.d (.int .i64) r)
def Fo(r:Int):RL EE.T:=.ret (l8 r) []
def Va:Lvs:=⟨[],[],[],[],false,[],[],[],[]⟩
def UO:List ResultVar:=[.tmp 4]
def Ud(N:Nat):Gam EE:=⟨[⟨32,gj N⟩],EQT,[],[]⟩
theorem RK(N:Nat):GOk Tryd.prog TT EE (Ud N):=GOk.cons (kc N) (GOk.nil bP)
def SK(c:Code):List It2:=[.c c]
def R6(x0:VLabel)(x1:List UInt8):TS EE.T:=⟨9,[(0,.ag (ga EE (.nam 2) x0)),(1,.a (.d .str x1))],[],[]⟩
abbrev V9(N:Nat)(r:Int)(k:List It2)(s:TS EE.T):Prop:=eN (Y:=TT) EE (Ud N) Va UO (fun u=>u=Fo r) k s
def Wh(x:Int):Tree (Lf EE.T × Option Int):=.leaf (.done (Fo x),some x)
theorem Sd{N:Nat}{r:Int}(x0:VLabel)(x1:List UInt8)(h:eP N x0 x1=some r):V9 N r (SK (aa 0 Tryd.f62)) (R6 x0 x1):=
 am (m:=4000) (t:=
 .bnd (cf N x0.Name x1) fun z1=>
 Wh z1) (by kernel_rfl) (by kernel_rfl) h (fun _=>ay (enc:=Fo) rfl)
theorem vK{N:Nat}(x0:VLabel)(x1:List UInt8){r:Int}(h:eP N x0 x1=some r)(ρ:Rn):ai Tryd.prog 62 (([.ag (ga EE (.nam 2) x0),.a (.d .str x1)] :List (TV EE.T)).map (TV.to EE.toEnc ρ)) [] (fun out H=>out=.ret ((l8 r).to EE.toEnc ρ)∧H=[]):=
 (ip (aa 0 Tryd.f62) 9 mixed (RK N) Tryd.func62 (by kernel_rfl) rfl rfl rfl rfl (Sd x0 x1 h) ρ).mono fun out H h=>bQ.ret rfl h
def lZ(N:Nat):List (TV EE.T)→PV EE.T
 | [u0,u1] =>match y5 EE 2 u0,eB .str u1 with
   |some x0,some x1=>.opt (eP N x0 x1) l8
   |_,_=>.bad
 |_=>.bad
theorem tH(N:Nat)(us:List (TV EE.T)):(lZ N us).ok fun u=>∀ρ,ai Tryd.prog 62 (us.map (TV.to EE.toEnc ρ)) [] (fun out H=>out=.ret (u.to EE.toEnc ρ)∧H=[]):=by
 unfold lZ
 split
 ·split
  ·rename_i h0 h1
   intro z hz ρ;refine bq ?_ (vK _ _ hz ρ);exact⟨mm h0 ρ,bb h1 ρ,trivial⟩
  ·trivial
 ·trivial
def bA(r:Int × Bool):TV EE.T:=.tu [.a (.d (.int .i64) r.1),.a (.d .bool r.2)]
def CJ(r:Int × Bool):List (Nat × TB EE.T):=[]
def tZ(r:Int × Bool):RL EE.T:=.ret (bA r) (CJ r)
def Oy:Lvs:=⟨[],[(3,⟨[(0,false),(1,false),(2,false),(8,false),(9,false),(10,false)],[],[],[]⟩)],[],[],false,[],[],[],[]⟩
def OB:List ResultVar:=[.tmp 6,.tmp 7]
def Li(N:Nat):Gam EE:=⟨[],EQT,[⟨62,xOf (lZ N)⟩],[]⟩
theorem Mq(N:Nat):GOk Tryd.prog TT EE (Li N):=GOk.consx (Nk (tH N)) (GOk.nil bP)
def C8(c:Code):List It2:=atL 3 c
def Ep(x0:List VLabel)(x1:List UInt8)(x8:Int)(x9:Int)(x10:Int):TS EE.T:=⟨49,[(0,.a (.d (.sl (.nam 2)) x0)),(1,.a (.d .str x1)),(2,.fn 62 []),(8,.a (.d (.int .i64) x8)),(9,.a (.d (.int .i64) x9)),(10,.a (.d (.int .i64) x10))],[],[]⟩
def MD(c:Code):List It2:=[.c c]
def Mo(x0:List VLabel)(x1:List UInt8):TS EE.T:=⟨49,[(0,.a (.d (.sl (.nam 2)) x0)),(1,.a (.d .str x1)),(2,.fn 62 [])],[],[]⟩
def zn(c:Code)(f:(List VLabel)→(List UInt8)→Int→Int→Int→Option (Int × Bool))(x0:List VLabel)(x1:List UInt8)(x8:Int)(x9:Int)(x10:Int):Tree (Lf EE.T × Option (Int × Bool)):=.leaf (.go (C8 c) (Ep x0 x1 x8 x9 x10),f x0 x1 x8 x9 x10)
abbrev IA(N:Nat)(r:Int × Bool)(k:List It2)(s:TS EE.T):Prop:=eN (Y:=TT) EE (Li N) Oy OB (fun u=>u=tZ r) k s
def GD(x:Int × Bool):Tree (Lf EE.T × Option (Int × Bool)):=.leaf (.done (tZ x),some x)
theorem yW{N:Nat}{r:Int × Bool}:∀ (n:Nat) (x0:List VLabel) (x1:List UInt8) (x8:Int) (x9:Int) (x10:Int),aq N n x0 x1 x8 x9 x10=some r→IA N r (C8 (aa 0 Tryd.f61)) (Ep x0 x1 x8 x9 x10)
 |0,_,_,_,_,_,h=>by cases h
 |n+1,x0,x1,x8,x9,x10,h=>am (m:=4000) (t:=
  .cond (decide (x9 < x10))
  (
   .bnd (DJ .u64 (IntKind.wrap .u64 (w64 (x9+x10))) 1) fun z1=>
   .bnd (bN x0 (w64 z1)) fun z2=>
   .bnd (eP N z2 x1) fun z3=>
   .cond (decide (z3 < 0))
   (
    zn (aa 0 Tryd.f61) (aq N n) x0 x1 x8 (w64 ((w64 z1)+1)) x10)
   (
    zn (aa 0 Tryd.f61) (aq N n) x0 x1 x8 x9 (w64 z1)))
  (
   .cond (decide (x9 < x8))
   (
    .bnd (bN x0 x9) fun z4=>
    .bnd (eP N z4 x1) fun z5=>
    GD (x9,z5==0))
   (
    GD (x9,false)))) (by kernel_rfl) (by kernel_rfl) h (⟨fun _=>fun _=>fun _=>⟨fun h=>(yW n) _ _ _ _ _ h,fun h=>(yW n) _ _ _ _ _ h⟩,⟨fun _=>fun _=>ay (enc:=tZ) rfl,ay (enc:=tZ) rfl⟩⟩)
theorem KZ{N:Nat}{r:Int × Bool}(x0:List VLabel)(x1:List UInt8)(h:aJ N x0 x1=some r):IA N r (MD (aa 0 Tryd.f61)) (Mo x0 x1):=
 am (m:=4000) (t:=
 zn (aa 0 Tryd.f61) (aq N N) x0 x1 (x0.length:Int) 0 (x0.length:Int)) (by kernel_rfl) (by kernel_rfl) h (fun h=>yW N _ _ _ _ _ h)
def GZ(x0:List VLabel)(x1:List UInt8):List (TV EE.T):=[.a (.d (.sl (.nam 2)) x0),.a (.d .str x1),.fn 62 []]
def Cb(x0:List VLabel)(x1:List UInt8):List (Nat × TB EE.T):=[]
theorem eU{N:Nat}(x0:List VLabel)(x1:List UInt8){r:Int × Bool}(h:aJ N x0 x1=some r)(ρ:Rn)(hi:Inj ρ (Cb x0 x1)):ai Tryd.prog 61 ((GZ x0 x1).map (TV.to EE.toEnc ρ)) (hTo EE.toEnc ρ (Cb x0 x1)) (fun out H=>out=.ret ((bA r).to EE.toEnc ρ)∧H=hTo EE.toEnc ρ (CJ r)):=
 (fA (aa 0 Tryd.f61) 49 mixed (Mq N) Tryd.func61 (by kernel_rfl) rfl rfl rfl rfl (KZ x0 x1 h) ρ hi).mono fun out H h=>bQ.retH rfl rfl h
def cJ(N:Nat)(us:List (TV EE.T))(hs:List (Nat × TB EE.T)):XR EE.T:=
 gdX (gJ us 3) <|
 bnX (aD (.sl (.nam 2)) us 0) fun x0=>
 bnX (aD .str us 1) fun x1=>
 bnX (aF 62 us 2) fun c2=>
 bnX (cbs c2) fun s2=>
 gdX (gJ s2 0) <|
 gdX (b9 hs []) <|
 .ret (aJ N x0 x1) [] bA (CJ)
theorem eL(N:Nat):XOk Tryd.prog EE 61 (cJ N):=fun us hs=>
 aQ fun h1=>ah fun x0 h2=>ah fun x1 h3=>ah fun c2 h4=>ah fun s2 h5=>aQ fun h6=>aQ fun h7=>fun z hz=>⟨rfl,fun ρ hi=>xK (us':=GZ x0 x1) (h0:=Cb x0 x1) (ρ':=oA ρ []) hi h7 (by kernel_rfl) ⟨la h2,la h3,GN (js:=[]) h4 h5 (by rw[Qs (bY h6)];  kernel_rfl),bY h1⟩ trivial (fun hj=>eU x0 x1 hz _ hj) (fun out H h=>⟨h.1.trans (by kernel_rfl),h.2.trans (by kernel_rfl)⟩)⟩
def og(r:Int × Bool):TV EE.T:=.tu [.a (.d (.int .i64) r.1),.a (.d .bool r.2)]
def Ft(r:Int × Bool):RL EE.T:=.ret (og r) []
def VS:Lvs:=⟨[],[],[],[],false,[],[],[],[]⟩
def VR:List ResultVar:=[.tmp 4,.tmp 5]
def Uf(N:Nat):Gam EE:=⟨[],EQT,[⟨61,cJ N⟩],[]⟩
theorem Rz(N:Nat):GOk Tryd.prog TT EE (Uf N):=GOk.consx (eL N) (GOk.nil bP)
def RY(c:Code):List It2:=[.c c]
def R3(x0:List VLabel)(x1:List UInt8):TS EE.T:=⟨11,[(0,.a (.d (.sl (.nam 2)) x0)),(1,.a (.d .str x1))],[],[]⟩
abbrev Ur(N:Nat)(r:Int × Bool)(k:List It2)(s:TS EE.T):Prop:=eN (Y:=TT) EE (Uf N) VS VR (fun u=>u=Ft r) k s
def VQ(x:Int × Bool):Tree (Lf EE.T × Option (Int × Bool)):=.leaf (.done (Ft x),some x)
theorem SP{N:Nat}{r:Int × Bool}(x0:List VLabel)(x1:List UInt8)(h:gE N x0 x1=some r):Ur N r (RY (aa 0 Tryd.f39)) (R3 x0 x1):=
 am (m:=4000) (t:=
 .bnd (aJ N x0 x1) fun z1=>
 VQ (z1.1,z1.2)) (by kernel_rfl) (by kernel_rfl) h (fun _=>ay (enc:=Ft) rfl)
theorem qY{N:Nat}(x0:List VLabel)(x1:List UInt8){r:Int × Bool}(h:gE N x0 x1=some r)(ρ:Rn):ai Tryd.prog 39 (([.a (.d (.sl (.nam 2)) x0),.a (.d .str x1)] :List (TV EE.T)).map (TV.to EE.toEnc ρ)) [] (fun out H=>out=.ret ((og r).to EE.toEnc ρ)∧H=[]):=
 (ip (aa 0 Tryd.f39) 11 mixed (Rz N) Tryd.func39 (by kernel_rfl) rfl rfl rfl rfl (SP x0 x1 h) ρ).mono fun out H h=>bQ.ret rfl h
def ox(N:Nat):List (TV EE.T)→PV EE.T
 | [u0,u1] =>match eB (.sl (.nam 2)) u0,eB .str u1 with
   |some x0,some x1=>.opt (gE N x0 x1) og
   |_,_=>.bad
 |_=>.bad
theorem wB(N:Nat)(us:List (TV EE.T)):(ox N us).ok fun u=>∀ρ,ai Tryd.prog 39 (us.map (TV.to EE.toEnc ρ)) [] (fun out H=>out=.ret (u.to EE.toEnc ρ)∧H=[]):=by
 unfold ox
 split
 ·split
  ·rename_i h0 h1
   intro z hz ρ;refine bq ?_ (qY _ _ hz ρ);exact⟨bb h0 ρ,bb h1 ρ,trivial⟩
  ·trivial
 ·trivial
def mP(r:List UInt8):TV EE.T:=.a (.d .str r)
def CC(r:List UInt8):RL EE.T:=.ret (mP r) []
def Wl:Lvs:=⟨[],[],[],[],false,[],[],[],[]⟩
def Vn:List ResultVar:=[.tmp 4]
def VH(N:Nat):Gam EE:=⟨[⟨39,ox N⟩],EQT,[],[]⟩
theorem Ts(N:Nat):GOk Tryd.prog TT EE (VH N):=GOk.cons (wB N) (GOk.nil bP)
def S3(c:Code):List It2:=[.c c]
def RJ(x0:List VLabel)(x1:List UInt8):TS EE.T:=⟨19,[(0,.a (.d (.sl (.nam 2)) x0)),(1,.a (.d .str x1))],[],[]⟩
abbrev V5(N:Nat)(r:List UInt8)(k:List It2)(s:TS EE.T):Prop:=eN (Y:=TT) EE (VH N) Wl Vn (fun u=>u=CC r) k s
def Q0(x:List UInt8):Tree (Lf EE.T × Option (List UInt8)):=.leaf (.done (CC x),some x)
theorem S2{N:Nat}{r:List UInt8}(x0:List VLabel)(x1:List UInt8)(h:gA N x0 x1=some r):V5 N r (S3 (aa 0 Tryd.f21)) (RJ x0 x1):=
 am (m:=4000) (t:=
 .bnd (gE N x0 x1) fun z1=>
 .cond (z1.2)
 (
  .bnd (bN x0 z1.1) fun z2=>
  Q0 z2.Value)
 (
  Q0 ([] :List UInt8))) (by kernel_rfl) (by kernel_rfl) h (fun _=>⟨fun _=>ay (enc:=CC) rfl,ay (enc:=CC) rfl⟩)
theorem wH{N:Nat}(x0:List VLabel)(x1:List UInt8){r:List UInt8}(h:gA N x0 x1=some r)(ρ:Rn):ai Tryd.prog 21 (([.a (.d (.sl (.nam 2)) x0),.a (.d .str x1)] :List (TV EE.T)).map (TV.to EE.toEnc ρ)) [] (fun out H=>out=.ret ((mP r).to EE.toEnc ρ)∧H=[]):=
 (ip (aa 0 Tryd.f21) 19 mixed (Ts N) Tryd.func21 (by kernel_rfl) rfl rfl rfl rfl (S2 x0 x1 h) ρ).mono fun out H h=>bQ.ret rfl h
def mW(N:Nat):List (TV EE.T)→PV EE.T
 | [u0,u1] =>match eB (.sl (.nam 2)) u0,eB .str u1 with
   |some x0,some x1=>.opt (gA N x0 x1) mP
   |_,_=>.bad
 |_=>.bad
theorem vL(N:Nat)(us:List (TV EE.T)):(mW N us).ok fun u=>∀ρ,ai Tryd.prog 21 (us.map (TV.to EE.toEnc ρ)) [] (fun out H=>out=.ret (u.to EE.toEnc ρ)∧H=[]):=by
 unfold mW
 split
 ·split
  ·rename_i h0 h1
   intro z hz ρ;refine bq ?_ (wH _ _ hz ρ);exact⟨bb h0 ρ,bb h1 ρ,trivial⟩
  ·trivial
 ·trivial
def lr(r:List UInt8):TV EE.T:=.a (.d .str r)
def FM(r:List UInt8):RL EE.T:=.ret (lr r) []
def U4:Lvs:=⟨[],[(3,⟨[(0,false),(3,false),(5,false),(9,false),(10,false),(11,false)],[],[(3,(some 3,[]))],[]⟩)],[],[],false,[],[],[],[]⟩
def Wk:List ResultVar:=[.tmp 4]
def Vm(N:Nat):Gam EE:=⟨[⟨21,mW N⟩,⟨22,nr N⟩],EQT,[],[]⟩
theorem R5(N:Nat):GOk Tryd.prog TT EE (Vm N):=GOk.cons (vL N) (GOk.cons (vQ N) (GOk.nil bP))
def J0(c:Code):List It2:=atL 3 c
def LP(x0:List VLabel)(x5:List (List UInt8))(x9:List (List UInt8))(x10:Int)(x11:Int)(b3:VRule):TS EE.T:=⟨26,[(0,.a (.d (.sl (.nam 2)) x0)),(3,.a (.box 3 0)),(5,.a (.own .str x5)),(9,.a (.d (.sl .str) x9)),(10,.a (.d (.int .i64) x10)),(11,.a (.d (.int .i64) x11))],[(3,.cs (ga EE (.nam 3) b3))],[]⟩
def Ss(c:Code):List It2:=[.c c]
def Sj(x0:List VLabel)(x1:VRule):TS EE.T:=⟨26,[(0,.a (.d (.sl (.nam 2)) x0)),(1,.ag (ga EE (.nam 3) x1))],[],[]⟩
def Oo(c:Code)(f:(List VLabel)→(List (List UInt8))→(List (List UInt8))→Int→Int→VRule→Option (List UInt8))(x0:List VLabel)(x5:List (List UInt8))(x9:List (List UInt8))(x10:Int)(x11:Int)(b3:VRule):Tree (Lf EE.T × Option (List UInt8)):=.leaf (.go (J0 c) (LP x0 x5 x9 x10 x11 b3),f x0 x5 x9 x10 x11 b3)
abbrev Re(N:Nat)(r:List UInt8)(k:List It2)(s:TS EE.T):Prop:=eN (Y:=TT) EE (Vm N) U4 Wk (fun u=>u=FM r) k s
def Uw(x:List UInt8):Tree (Lf EE.T × Option (List UInt8)):=.leaf (.done (FM x),some x)
theorem JT{N:Nat}{r:List UInt8}:∀ (n:Nat) (x0:List VLabel) (x5:List (List UInt8)) (x9:List (List UInt8)) (x10:Int) (x11:Int) (b3:VRule),dK N n x0 x5 x9 x10 x11 b3=some r→Re N r (J0 (aa 0 Tryd.f11)) (LP x0 x5 x9 x10 x11 b3)
 |0,_,_,_,_,_,_,h=>by cases h
 |n+1,x0,x5,x9,x10,x11,b3,h=>am (m:=4000) (t:=
  .cond (decide (x11 < x10))
  (
   .bnd (bN x9 x11) fun z1=>
   .bnd (gA N x0 z1) fun z2=>
   .bnd (jf 16 x5 ([z2] :List (List UInt8))) fun z3=>
   Oo (aa 0 Tryd.f11) (dK N n) x0 z3 x9 x10 (w64 (x11+1)) b3)
  (
   .bnd (ig N x5 b3.Between) fun z4=>
   Uw z4)) (by kernel_rfl) (by kernel_rfl) h (⟨fun _=>fun _=>fun _=>fun h=>(JT n) _ _ _ _ _ _ h,fun _=>ay (enc:=FM) rfl⟩)
theorem SR{N:Nat}{r:List UInt8}(x0:List VLabel)(x1:VRule)(h:cF N x0 x1=some r):Re N r (Ss (aa 0 Tryd.f11)) (Sj x0 x1):=
 am (m:=4000) (t:=
 Oo (aa 0 Tryd.f11) (dK N N) x0 ([] :List (List UInt8)) x1.Sources (x1.Sources.length:Int) 0 x1) (by kernel_rfl) (by kernel_rfl) h (fun h=>JT N _ _ _ _ _ _ h)
theorem uA{N:Nat}(x0:List VLabel)(x1:VRule){r:List UInt8}(h:cF N x0 x1=some r)(ρ:Rn):ai Tryd.prog 11 (([.a (.d (.sl (.nam 2)) x0),.ag (ga EE (.nam 3) x1)] :List (TV EE.T)).map (TV.to EE.toEnc ρ)) [] (fun out H=>out=.ret ((lr r).to EE.toEnc ρ)∧H=[]):=
 (ip (aa 0 Tryd.f11) 26 mixed (R5 N) Tryd.func11 (by kernel_rfl) rfl rfl rfl rfl (SR x0 x1 h) ρ).mono fun out H h=>bQ.ret rfl h
def gZ(N:Nat):List (TV EE.T)→PV EE.T
 | [u0,u1] =>match eB (.sl (.nam 2)) u0,y5 EE 3 u1 with
   |some x0,some x1=>.opt (cF N x0 x1) lr
   |_,_=>.bad
 |_=>.bad
theorem jR(N:Nat)(us:List (TV EE.T)):(gZ N us).ok fun u=>∀ρ,ai Tryd.prog 11 (us.map (TV.to EE.toEnc ρ)) [] (fun out H=>out=.ret (u.to EE.toEnc ρ)∧H=[]):=by
 unfold gZ
 split
 ·split
  ·rename_i h0 h1
   intro z hz ρ;refine bq ?_ (uA _ _ hz ρ);exact⟨bb h0 ρ,mm h1 ρ,trivial⟩
  ·trivial
 ·trivial
def nI(r:df):TV EE.T:=.tu [.a (.d (.sl (.nam 2)) r.1),.a (.d .bool r.2)]
def Rm(r:df):List (Nat × TB EE.T):=[]
def BA(r:PR df):RL EE.T:=match r with
 |.ok z=>.ret (nI z) (Rm z)
 |.pan v=>.pan v
def Us:Lvs:=⟨[],[],[],[],false,[],[],[],[]⟩
def V8:List ResultVar:=[.tmp 8,.tmp 9]
def Ut(N:Nat):Gam EE:=⟨[],EQT,[⟨25,jF N⟩],[]⟩
theorem Th(N:Nat):GOk Tryd.prog TT EE (Ut N):=GOk.consx (kK N) (GOk.nil bP)
def Sp(c:Code):List It2:=[.c c]
def RD(x0:List VLabel)(x1:VRule)(x2:Option VMask)(x3:List UInt8):TS EE.T:=⟨20,[(0,.a (.d (.sl (.nam 2)) x0)),(1,.ag (ga EE (.nam 3) x1)),(2,.a (.d (.ptr (.nam 5)) x2)),(3,.a (.d .str x3))],[],[]⟩
abbrev Uk(N:Nat)(r:PR df)(k:List It2)(s:TS EE.T):Prop:=eN (Y:=TT) EE (Ut N) Us V8 (fun u=>u=BA r) k s
def Q7(x:PR df):Tree (Lf EE.T × Option (PR df)):=.leaf (.done (BA x),some x)
theorem Sh{N:Nat}{r:PR df}(x0:List VLabel)(x1:VRule)(x2:Option VMask)(x3:List UInt8)(h:jK N x0 x1 x2 x3=some r):Uk N r (Sp (aa 0 Tryd.f24)) (RD x0 x1 x2 x3):=
 am (m:=4000) (t:=
 .bnd (dU N x2 x3) fun z1=>
 .sm z1 (fun z2=>
  Q7 (.ok (x0,z2.1))) (fun vz1=>
  Q7 (.pan vz1))) (by kernel_rfl) (by kernel_rfl) h (fun _=>⟨fun _=>ay (enc:=BA) rfl,fun _=>ay (enc:=BA) rfl⟩)
def Vr(x0:List VLabel)(x1:VRule)(x2:Option VMask)(x3:List UInt8):List (TV EE.T):=[.a (.d (.sl (.nam 2)) x0),.ag (ga EE (.nam 3) x1),.a (.d (.ptr (.nam 5)) x2),.a (.d .str x3)]
def Q4(x0:List VLabel)(x1:VRule)(x2:Option VMask)(x3:List UInt8):List (Nat × TB EE.T):=[]
theorem tc{N:Nat}(x0:List VLabel)(x1:VRule)(x2:Option VMask)(x3:List UInt8){r:PR df}(h:jK N x0 x1 x2 x3=some r)(ρ:Rn)(hi:Inj ρ (Q4 x0 x1 x2 x3)):ai Tryd.prog 24 ((Vr x0 x1 x2 x3).map (TV.to EE.toEnc ρ)) (hTo EE.toEnc ρ (Q4 x0 x1 x2 x3)) (fun out H=>match r with|.ok z=>out=.ret ((nI z).to EE.toEnc ρ)∧H=hTo EE.toEnc ρ (Rm z)|.pan v=>out=.pan v):=
 (fA (aa 0 Tryd.f24) 20 mixed (Th N) Tryd.func24 (by kernel_rfl) rfl rfl rfl rfl (Sh x0 x1 x2 x3 h) ρ hi).mono fun out H h=>by cases r with|ok z=>exact bQ.retH rfl rfl h|pan v=>exact bQ.pan h
def nV(r:cZ):TV EE.T:=.tu [.a (.d (.sl (.nam 2)) r.1),.a (.d .bool r.2)]
def Rl(r:cZ):List (Nat × TB EE.T):=[]
def Cz(r:PR cZ):RL EE.T:=match r with
 |.ok z=>.ret (nV z) (Rl z)
 |.pan v=>.pan v
def Ue:Lvs:=⟨[],[],[],[],false,[],[],[],[]⟩
def Ui:List ResultVar:=[.tmp 8,.tmp 9]
def Wi(N:Nat):Gam EE:=⟨[],EQT,[⟨25,jF N⟩],[]⟩
theorem Te(N:Nat):GOk Tryd.prog TT EE (Wi N):=GOk.consx (kK N) (GOk.nil bP)
def TI(c:Code):List It2:=[.c c]
def Tm(x0:List VLabel)(x1:VRule)(x2:Option VMask)(x3:List UInt8):TS EE.T:=⟨21,[(0,.a (.d (.sl (.nam 2)) x0)),(1,.ag (ga EE (.nam 3) x1)),(2,.a (.d (.ptr (.nam 5)) x2)),(3,.a (.d .str x3))],[],[]⟩
abbrev Vt(N:Nat)(r:PR cZ)(k:List It2)(s:TS EE.T):Prop:=eN (Y:=TT) EE (Wi N) Ue Ui (fun u=>u=Cz r) k s
def Q8(x:PR cZ):Tree (Lf EE.T × Option (PR cZ)):=.leaf (.done (Cz x),some x)
theorem Tr{N:Nat}{r:PR cZ}(x0:List VLabel)(x1:VRule)(x2:Option VMask)(x3:List UInt8)(h:jJ N x0 x1 x2 x3=some r):Vt N r (TI (aa 0 Tryd.f26)) (Tm x0 x1 x2 x3):=
 am (m:=4000) (t:=
 .bnd (dU N x2 x3) fun z1=>
 .sm z1 (fun z2=>
  Q8 (.ok (x0,!z2.1))) (fun vz1=>
  Q8 (.pan vz1))) (by kernel_rfl) (by kernel_rfl) h (fun _=>⟨fun _=>ay (enc:=Cz) rfl,fun _=>ay (enc:=Cz) rfl⟩)
def VB(x0:List VLabel)(x1:VRule)(x2:Option VMask)(x3:List UInt8):List (TV EE.T):=[.a (.d (.sl (.nam 2)) x0),.ag (ga EE (.nam 3) x1),.a (.d (.ptr (.nam 5)) x2),.a (.d .str x3)]
def QZ(x0:List VLabel)(x1:VRule)(x2:Option VMask)(x3:List UInt8):List (Nat × TB EE.T):=[]
theorem sY{N:Nat}(x0:List VLabel)(x1:VRule)(x2:Option VMask)(x3:List UInt8){r:PR cZ}(h:jJ N x0 x1 x2 x3=some r)(ρ:Rn)(hi:Inj ρ (QZ x0 x1 x2 x3)):ai Tryd.prog 26 ((VB x0 x1 x2 x3).map (TV.to EE.toEnc ρ)) (hTo EE.toEnc ρ (QZ x0 x1 x2 x3)) (fun out H=>match r with|.ok z=>out=.ret ((nV z).to EE.toEnc ρ)∧H=hTo EE.toEnc ρ (Rl z)|.pan v=>out=.pan v):=
 (fA (aa 0 Tryd.f26) 21 mixed (Te N) Tryd.func26 (by kernel_rfl) rfl rfl rfl rfl (Tr x0 x1 x2 x3 h) ρ hi).mono fun out H h=>by cases r with|ok z=>exact bQ.retH rfl rfl h|pan v=>exact bQ.pan h
def dW(r:List VLabel):TV EE.T:=.a (.d (.sl (.nam 2)) r)
def Bv(r:List VLabel):RL EE.T:=.ret (dW r) []
def Up:Lvs:=⟨[],[],[],[],false,[],[],[],[]⟩
def Un:List ResultVar:=[.tmp 2]
def VA(N:Nat):Gam EE:=⟨[],EQT,[],[]⟩
theorem Tc(N:Nat):GOk Tryd.prog TT EE (VA N):=GOk.nil bP
def S5(c:Code):List It2:=[.c c]
def SN(x0:List VLabel):TS EE.T:=⟨8,[(0,.a (.d (.sl (.nam 2)) x0))],[],[]⟩
abbrev U6(N:Nat)(r:List VLabel)(k:List It2)(s:TS EE.T):Prop:=eN (Y:=TT) EE (VA N) Up Un (fun u=>u=Bv r) k s
def QY(x:List VLabel):Tree (Lf EE.T × Option (List VLabel)):=.leaf (.done (Bv x),some x)
theorem S8{N:Nat}{r:List VLabel}(x0:List VLabel)(h:aA N x0=some r):U6 N r (S5 (aa 0 Tryd.f10)) (SN x0):=
 am (m:=4000) (t:=
 .nl (x0)
 (
  QY ([] :List VLabel))
 (
  .bnd (jf 32 ([] :List VLabel) x0) fun z1=>
  QY z1)) (by kernel_rfl) (by kernel_rfl) h (⟨fun e _ h=>Eq.trans (by first| (subst e;kernel_rfl)| (rw[e];kernel_rfl)| (simp only[e];kernel_rfl)) h,ay (enc:=Bv) rfl,fun _=>ay (enc:=Bv) rfl⟩)
theorem jm{N:Nat}(x0:List VLabel){r:List VLabel}(h:aA N x0=some r)(ρ:Rn):ai Tryd.prog 10 (([.a (.d (.sl (.nam 2)) x0)] :List (TV EE.T)).map (TV.to EE.toEnc ρ)) [] (fun out H=>out=.ret ((dW r).to EE.toEnc ρ)∧H=[]):=
 (ip (aa 0 Tryd.f10) 8 mixed (Tc N) Tryd.func10 (by kernel_rfl) rfl rfl rfl rfl (S8 x0 h) ρ).mono fun out H h=>bQ.ret rfl h
def bZ(N:Nat):List (TV EE.T)→PV EE.T
 | [u0] =>match eB (.sl (.nam 2)) u0 with
   |some x0=>.opt (aA N x0) dW
   |_=>.bad
 |_=>.bad
theorem dz(N:Nat)(us:List (TV EE.T)):(bZ N us).ok fun u=>∀ρ,ai Tryd.prog 10 (us.map (TV.to EE.toEnc ρ)) [] (fun out H=>out=.ret (u.to EE.toEnc ρ)∧H=[]):=by
 unfold bZ
 split
 ·split
  ·rename_i h0
   intro z hz ρ;refine bq ?_ (jm _ hz ρ);exact⟨bb h0 ρ,trivial⟩
  ·trivial
 ·trivial
section
variable {P:Program} {L:List Oper} {mN:Nat→Bool} {K:AS→Prop} {k d:Nat} {o:Oper} {rest:List Oper} {σ:AS} {u:AV}
end
theorem B0{α:Type}(k:Nat)(v:α)(l:List (Nat × α)):look ((k,v)::l) k=some v:=by rw[ab,if_pos rfl]
theorem ym{cs:List AV}{c:Nat}(h:cs.length=c * 2):fx cs=false:=by
 cases hb:fx cs with
 |false=>rfl
 |true=>obtain⟨l,rfl⟩:=y2 hb;simp at h;omega
def xA(u:AV):Prop:=u.one=true∧cw (some u)=none
attribute [local irreducible] AS.nf OpV aY Stk lz vU ai cy v6 v8 Awp Fk D9 F2
set_option maxHeartbeats 2000000
end Go.Proofs.YtobacplonkjigaaDoor
namespace Go.Proofs.YtobacplonkjigaaDoor
open Go.RowKit P
attribute [local irreducible] AS.nf OpV aY Stk lz vU ai cy v6 v8 Awp Fk D9 F2
def Qy(cs:List AV)(n i:Nat)(r:List AV)(out:AOut)(H:List (Nat × List AV)):Prop:=
 ∃k c' sp,out=.ret (.v (.slice (some ⟨k,0,none⟩) (n+1) c'))∧look H k=some (cs.take (i * 2)++r++ (cs.drop (i * 2)).take ((n - i) * 2)++sp)∧(n+1) * 2+sp.length=c' * 2
theorem EA{P:Program}{F:Nat→Prop}{X:GW}{σ:AS}{a:Act}(hs:SimE F X σ a.tmps){x:Operand}{r:List AV}{o:Bool}(hx:opV σ x=some (.sl o 2 [r]))(h1:∀u∈r,xA u):∃vs,SrcA P X 2 1 1 r (a.eval x) vs:=by
 have h:=wR (P:=P) (by decide) (bt hs hx) (fun q hq u hu=>by
  simp only[List.mem_singleton] at hq;subst hq;exact(h1 u hu).1)
 simpa using h
set_option maxHeartbeats 2000000
set_option maxRecDepth 100000 in
theorem Gx(k n c:Nat)(cs r:List AV)(hcs:cs.length=c * 2)(hnc:n≤c)(hc:n≤1000000)(hok:∀u∈cs.take (n * 2),xA u)(hr:r.length=2)(hrok:∀u∈r,xA u):
  ai Tryd.prog 67 [.v (.slice (some ⟨k,0,none⟩) n c),.v (.int .i64 (n:Nat)),.sl false 2 [r]] [(k,cs)] (Qy cs n n r):=by
 have hmp:=ym hcs
 refine kV _ 95 [.tmp 6] Tryd.func67 (by kernel_rfl) rfl rfl rfl rfl ?_
 dsimp only[slotsOf]
 repeat (first
  | ((first|apply lP|apply iS);(next=>(first| (simp only[go_sem,Nat.reduceBEq,Nat.reduceEqDiff,reduceIte,reduceCtorEq,String.reduceEq,Nat.reduceAdd,Int.reduceToNat];exact rfl)|exact rfl)))
  | ((first|apply gd rfl rfl rfl rfl|apply BO rfl rfl rfl);(next=>exact Bt (T:=TT) (sz:=2) (i:=n) (j:=n) rfl rfl rfl (by rfl) (by rfl) (by omega) hnc))
  | (apply gd rfl rfl rfl rfl;(next=>(first
   | (refine fg (T:=TT) rfl ?_;(first|exact trivial|omega| (simp[NFL] <;> omega)))
   | (apply opk ⟨_,.move _,_,_,_,_⟩;first|exact bm (bg _) (.inl rfl)|fail)
   | (apply opk ⟨_,.binOp .add _ _ _ _,_,_,_,_⟩;first|exact bi rfl rfl rfl|fail)
   | (apply opk ⟨_,.binOp .sub _ _ _ _,_,_,_,_⟩;first|exact bi rfl rfl rfl|fail)
   | (apply opk ⟨_,.binOp .eql _ _ _ _,_,_,_,_⟩;first
    | (refine di rfl rfl rfl ?_;(next=>(first|exact rfl| (simp only[cz];omega)| (simp only[cz];simp[NFL] <;> omega))))
    | (refine dk rfl rfl rfl ?_;(next=>(first|exact rfl| (simp only[cz];omega)| (simp only[cz];simp[NFL] <;> omega))))
    |exact bi rfl rfl rfl
    | (refine fX rfl rfl rfl ?_;(next=>(first|rfl|assumption)))
    | (refine fW rfl rfl rfl ?_;(next=>(first|rfl|assumption)))
    |exact cR rfl rfl rfl
    |fail)
   | (apply opk ⟨_,.binOp .gtr _ _ _ _,_,_,_,_⟩;first
    | (refine di rfl rfl rfl ?_;(next=>(first|exact rfl| (simp only[cz];omega)| (simp only[cz];simp[NFL] <;> omega))))
    | (refine dk rfl rfl rfl ?_;(next=>(first|exact rfl| (simp only[cz];omega)| (simp only[cz];simp[NFL] <;> omega))))
    |exact bi rfl rfl rfl
    |exact cR rfl rfl rfl
    |fail)
   | (apply opk ⟨_,.unOp _ _ _,_,_,_,_⟩;first|exact vP rfl rfl|exact vE rfl rfl|exact w6 rfl rfl|fail)
   | (apply opk ⟨_,.call { callee:=.builtin .len,args:=_,argTypes:=_ },_,_,_,_⟩;first
    |exact nL (T:=TT) rfl rfl rfl
    |exact pw (T:=TT) rfl rfl rfl
    |exact g7 (T:=TT) rfl rfl rfl
    |fail)
   | (apply opk ⟨_,.slice _ _ _ _ _,_,_,_,_⟩;first
    | (refine dR (T:=TT) (k1:=.i64) (k2:=.u64) rfl rfl rfl rfl ?_ ?_ ?_;(next=>(first|omega| (simp[NFL] <;> omega)));(next=>(first|omega| (simp[NFL] <;> omega)));(next=>(first|omega| (simp[NFL] <;> omega))))
    | (refine dR (T:=TT) (k1:=.u64) (k2:=.i64) rfl rfl rfl rfl ?_ ?_ ?_;(next=>(first|omega| (simp[NFL] <;> omega)));(next=>(first|omega| (simp[NFL] <;> omega)));(next=>(first|omega| (simp[NFL] <;> omega))))
    | (refine dR (T:=TT) (k1:=.u64) (k2:=.u64) rfl rfl rfl rfl ?_ ?_ ?_;(next=>(first|omega| (simp[NFL] <;> omega)));(next=>(first|omega| (simp[NFL] <;> omega)));(next=>(first|omega| (simp[NFL] <;> omega))))
    |fail)
   |fail)))
  | (refine arO _ ?_;first
   | (refine arO ⟨_,.move _,_,_,_,_⟩ ?_;first|refine dv rfl rfl rfl rfl ?_|fail)
   | (refine arO ⟨_,.assign _,_,_,_,_⟩ ?_;first
    |refine cr rfl rfl rfl rfl ?_
    |refine lX rfl rfl rfl rfl (bm (bg _) (.inr rfl)) ?_
    |fail)
   | (refine arO ⟨_,.call { callee:=.builtin .append,args:=_,argTypes:=_ },_,_,_,_⟩ ?_;first
    | (apply ie rfl rfl;(next=>(first
     | (apply a7 (T:=TT) rfl rfl rfl rfl rfl rfl rfl rfl rfl rfl;(next=>(first|exact trivial|exact az _|assumption| (simp[bE,AV.one,AV.rd,AV.cells,cst,Value.oneCell'] <;> omega)));(next=>(first|omega| (simp[NFL] <;> omega))))
     | (apply a7 (T:=TT) rfl (lb aH rfl) rfl rfl rfl rfl rfl rfl rfl rfl;(next=>(first|exact trivial|exact az _|assumption| (simp[bE,AV.one,AV.rd,AV.cells,cst,Value.oneCell'] <;> omega)));(next=>(first|omega| (simp[NFL] <;> omega))))
     | (apply a7 (T:=TT) rfl (lb (bX (by first|assumption| (intro e;exact absurd e.symm (by assumption))) aH) rfl) rfl rfl rfl rfl rfl rfl rfl rfl;(next=>(first|exact trivial|exact az _|assumption| (simp[bE,AV.one,AV.rd,AV.cells,cst,Value.oneCell'] <;> omega)));(next=>(first|omega| (simp[NFL] <;> omega))))
     | (apply cU (T:=TT) rfl rfl rfl rfl rfl rfl rfl rfl rfl;(next=>(first|exact trivial|exact az _|assumption| (simp[bE,AV.one,AV.rd,AV.cells,cst,Value.oneCell'] <;> omega)));(next=>(first|omega| (simp[NFL] <;> omega))))
     |fail)))
    |fail)
   |fail)
  |refine iH ?_
  | (refine arE ?_;refine gi [0,1,2,6,7,8,9,16,22,31,68] rfl ?_)
  |refine dM ?_
  |refine eH ?_
  |refine gk ?_
  |refine iI ?_
  |refine e9 rfl ?_
  | (refine arC (.cond _ _ _) ?_;first
   | (refine bU rfl ?_ ?_;(next=>(first|rfl| (simp only[decide_eq_true_eq,beq_iff_eq,bne_iff_ne,ge_iff_le,gt_iff_lt,ne_eq,Bool.not_eq_true',decide_eq_false_iff_not];omega))))
   | (refine bz rfl ?_ ?_;(next=>(first
    |rfl
    | (simp only[decide_eq_false_iff_not,beq_eq_false_iff_ne,bne_eq_false_iff_eq,ge_iff_le,gt_iff_lt,ne_eq,Bool.not_eq_false',decide_eq_true_eq];omega))))
   |fail)
  |refine gh ?_
  |refine eb ?_
  |refine dp rfl ?_
  |refine dq ?_
  |refine dm ?_
  | (refine arC .ret ?_;refine gQ [6] ?_)
  |refine d8 ?_
  |refine d9 ?_
  |refine ea ?_
  |refine gu ?_
  |fail)
 by_cases hroom:n+1≤c
 ·refine dZ rfl rfl (sg (T:=TT) (sz:=2) (N:=1) (us:=r) rfl (B0 _ _ _) hmp rfl rfl (.inr ⟨_,rfl⟩) rfl (fun F X a hs=>EA hs rfl hrok) hroom (by omega) (fun u hu=>(hrok u hu).2) rfl ?_)
  repeat (first
   | ((first|apply lP|apply iS);(next=>(first| (simp only[go_sem,Nat.reduceBEq,Nat.reduceEqDiff,reduceIte,reduceCtorEq,String.reduceEq,Nat.reduceAdd,Int.reduceToNat];exact rfl)|exact rfl)))
   | (apply gd rfl rfl rfl rfl;(next=>(first
    | (refine fg (T:=TT) rfl ?_;(first|exact trivial|omega| (simp[NFL] <;> omega)))
    | (apply opk ⟨_,.move _,_,_,_,_⟩;first|exact bm (bg _) (.inl rfl)|fail)
    | (apply opk ⟨_,.binOp .add _ _ _ _,_,_,_,_⟩;first|exact bi rfl rfl rfl|fail)
    | (apply opk ⟨_,.binOp .sub _ _ _ _,_,_,_,_⟩;first|exact bi rfl rfl rfl|fail)
    | (apply opk ⟨_,.binOp .eql _ _ _ _,_,_,_,_⟩;first
     | (refine di rfl rfl rfl ?_;(next=>(first|exact rfl| (simp only[cz];omega)| (simp only[cz];simp[NFL] <;> omega))))
     | (refine dk rfl rfl rfl ?_;(next=>(first|exact rfl| (simp only[cz];omega)| (simp only[cz];simp[NFL] <;> omega))))
     |exact bi rfl rfl rfl
     | (refine fX rfl rfl rfl ?_;(next=>(first|rfl|assumption)))
     | (refine fW rfl rfl rfl ?_;(next=>(first|rfl|assumption)))
     |exact cR rfl rfl rfl
     |fail)
    | (apply opk ⟨_,.binOp .gtr _ _ _ _,_,_,_,_⟩;first
     | (refine di rfl rfl rfl ?_;(next=>(first|exact rfl| (simp only[cz];omega)| (simp only[cz];simp[NFL] <;> omega))))
     | (refine dk rfl rfl rfl ?_;(next=>(first|exact rfl| (simp only[cz];omega)| (simp only[cz];simp[NFL] <;> omega))))
     |exact bi rfl rfl rfl
     |exact cR rfl rfl rfl
     |fail)
    | (apply opk ⟨_,.unOp _ _ _,_,_,_,_⟩;first|exact vP rfl rfl|exact vE rfl rfl|exact w6 rfl rfl|fail)
    | (apply opk ⟨_,.call { callee:=.builtin .len,args:=_,argTypes:=_ },_,_,_,_⟩;first
     |exact nL (T:=TT) rfl rfl rfl
     |exact pw (T:=TT) rfl rfl rfl
     |exact g7 (T:=TT) rfl rfl rfl
     |fail)
    | (apply opk ⟨_,.slice _ _ _ _ _,_,_,_,_⟩;first
     | (refine dR (T:=TT) (k1:=.i64) (k2:=.u64) rfl rfl rfl rfl ?_ ?_ ?_;(next=>(first|omega| (simp[NFL] <;> omega)));(next=>(first|omega| (simp[NFL] <;> omega)));(next=>(first|omega| (simp[NFL] <;> omega))))
     | (refine dR (T:=TT) (k1:=.u64) (k2:=.i64) rfl rfl rfl rfl ?_ ?_ ?_;(next=>(first|omega| (simp[NFL] <;> omega)));(next=>(first|omega| (simp[NFL] <;> omega)));(next=>(first|omega| (simp[NFL] <;> omega))))
     | (refine dR (T:=TT) (k1:=.u64) (k2:=.u64) rfl rfl rfl rfl ?_ ?_ ?_;(next=>(first|omega| (simp[NFL] <;> omega)));(next=>(first|omega| (simp[NFL] <;> omega)));(next=>(first|omega| (simp[NFL] <;> omega))))
     |fail)
    |fail)))
   | (refine arO _ ?_;first
    | (refine arO ⟨_,.move _,_,_,_,_⟩ ?_;first|refine dv rfl rfl rfl rfl ?_|fail)
    | (refine arO ⟨_,.assign _,_,_,_,_⟩ ?_;first
     |refine cr rfl rfl rfl rfl ?_
     |refine lX rfl rfl rfl rfl (bm (bg _) (.inr rfl)) ?_
     |fail)
    | (refine arO ⟨_,.call { callee:=.builtin .append,args:=_,argTypes:=_ },_,_,_,_⟩ ?_;first
     | (apply ie rfl rfl;(next=>(first
      | (apply a7 (T:=TT) rfl rfl rfl rfl rfl rfl rfl rfl rfl rfl;(next=>(first|exact trivial|exact az _|assumption| (simp[bE,AV.one,AV.rd,AV.cells,cst,Value.oneCell'] <;> omega)));(next=>(first|omega| (simp[NFL] <;> omega))))
      | (apply a7 (T:=TT) rfl (lb aH rfl) rfl rfl rfl rfl rfl rfl rfl rfl;(next=>(first|exact trivial|exact az _|assumption| (simp[bE,AV.one,AV.rd,AV.cells,cst,Value.oneCell'] <;> omega)));(next=>(first|omega| (simp[NFL] <;> omega))))
      | (apply a7 (T:=TT) rfl (lb (bX (by first|assumption| (intro e;exact absurd e.symm (by assumption))) aH) rfl) rfl rfl rfl rfl rfl rfl rfl rfl;(next=>(first|exact trivial|exact az _|assumption| (simp[bE,AV.one,AV.rd,AV.cells,cst,Value.oneCell'] <;> omega)));(next=>(first|omega| (simp[NFL] <;> omega))))
      | (apply cU (T:=TT) rfl rfl rfl rfl rfl rfl rfl rfl rfl;(next=>(first|exact trivial|exact az _|assumption| (simp[bE,AV.one,AV.rd,AV.cells,cst,Value.oneCell'] <;> omega)));(next=>(first|omega| (simp[NFL] <;> omega))))
      |fail)))
     |fail)
    |fail)
   |refine iH ?_
   | (refine arE ?_;refine gi [0,1,2,6,7,8,9,16,22,31,68] rfl ?_)
   |refine dM ?_
   |refine eH ?_
   |refine gk ?_
   |refine iI ?_
   |refine e9 rfl ?_
   | (refine arC (.cond _ _ _) ?_;first
    | (refine bU rfl ?_ ?_;(next=>(first|rfl| (simp only[decide_eq_true_eq,beq_iff_eq,bne_iff_ne,ge_iff_le,gt_iff_lt,ne_eq,Bool.not_eq_true',decide_eq_false_iff_not];omega))))
    | (refine bz rfl ?_ ?_;(next=>(first
     |rfl
     | (simp only[decide_eq_false_iff_not,beq_eq_false_iff_ne,bne_eq_false_iff_eq,ge_iff_le,gt_iff_lt,ne_eq,Bool.not_eq_false',decide_eq_true_eq];omega))))
    |fail)
   |refine gh ?_
   |refine eb ?_
   |refine dp rfl ?_
   |refine dq ?_
   |refine dm ?_
   | (refine arC .ret ?_;refine gQ [6] ?_)
   |refine d8 ?_
   |refine d9 ?_
   |refine ea ?_
   |refine gu ?_
   |fail)
  refine⟨_,rfl,k,c,(cs.drop ((n+1) * 2)),rfl,?_,?_⟩
  ·rw[B0]
   simp[b7,hr,Nat.add_mul]
  ·rw[List.length_drop];omega
 ·refine dZ rfl rfl (zw (T:=TT) (sz:=2) (by_:=32) (N:=1) (us:=r) rfl (B0 _ _ _) hmp rfl rfl (.inr ⟨_,rfl⟩) rfl (by decide) (fun F X a hs=>EA hs rfl hrok) (by omega) (by omega) (fun u hu=>(hok u hu).1) (by omega) (fun u hu=>(hrok u hu).2) (fun u hu=>(hok u hu).2) rfl ?_)
  rintro k' cap sp hk' ⟨h1,h2,h3⟩
  repeat (first
   | ((first|apply lP|apply iS);(next=>(first| (simp only[go_sem,Nat.reduceBEq,Nat.reduceEqDiff,reduceIte,reduceCtorEq,String.reduceEq,Nat.reduceAdd,Int.reduceToNat];exact rfl)|exact rfl)))
   | (apply gd rfl rfl rfl rfl;(next=>(first
    | (refine fg (T:=TT) rfl ?_;(first|exact trivial|omega| (simp[NFL] <;> omega)))
    | (apply opk ⟨_,.move _,_,_,_,_⟩;first|exact bm (bg _) (.inl rfl)|fail)
    | (apply opk ⟨_,.binOp .add _ _ _ _,_,_,_,_⟩;first|exact bi rfl rfl rfl|fail)
    | (apply opk ⟨_,.binOp .sub _ _ _ _,_,_,_,_⟩;first|exact bi rfl rfl rfl|fail)
    | (apply opk ⟨_,.binOp .eql _ _ _ _,_,_,_,_⟩;first
     | (refine di rfl rfl rfl ?_;(next=>(first|exact rfl| (simp only[cz];omega)| (simp only[cz];simp[NFL] <;> omega))))
     | (refine dk rfl rfl rfl ?_;(next=>(first|exact rfl| (simp only[cz];omega)| (simp only[cz];simp[NFL] <;> omega))))
     |exact bi rfl rfl rfl
     | (refine fX rfl rfl rfl ?_;(next=>(first|rfl|assumption)))
     | (refine fW rfl rfl rfl ?_;(next=>(first|rfl|assumption)))
     |exact cR rfl rfl rfl
     |fail)
    | (apply opk ⟨_,.binOp .gtr _ _ _ _,_,_,_,_⟩;first
     | (refine di rfl rfl rfl ?_;(next=>(first|exact rfl| (simp only[cz];omega)| (simp only[cz];simp[NFL] <;> omega))))
     | (refine dk rfl rfl rfl ?_;(next=>(first|exact rfl| (simp only[cz];omega)| (simp only[cz];simp[NFL] <;> omega))))
     |exact bi rfl rfl rfl
     |exact cR rfl rfl rfl
     |fail)
    | (apply opk ⟨_,.unOp _ _ _,_,_,_,_⟩;first|exact vP rfl rfl|exact vE rfl rfl|exact w6 rfl rfl|fail)
    | (apply opk ⟨_,.call { callee:=.builtin .len,args:=_,argTypes:=_ },_,_,_,_⟩;first
     |exact nL (T:=TT) rfl rfl rfl
     |exact pw (T:=TT) rfl rfl rfl
     |exact g7 (T:=TT) rfl rfl rfl
     |fail)
    | (apply opk ⟨_,.slice _ _ _ _ _,_,_,_,_⟩;first
     | (refine dR (T:=TT) (k1:=.i64) (k2:=.u64) rfl rfl rfl rfl ?_ ?_ ?_;(next=>(first|omega| (simp[NFL] <;> omega)));(next=>(first|omega| (simp[NFL] <;> omega)));(next=>(first|omega| (simp[NFL] <;> omega))))
     | (refine dR (T:=TT) (k1:=.u64) (k2:=.i64) rfl rfl rfl rfl ?_ ?_ ?_;(next=>(first|omega| (simp[NFL] <;> omega)));(next=>(first|omega| (simp[NFL] <;> omega)));(next=>(first|omega| (simp[NFL] <;> omega))))
     | (refine dR (T:=TT) (k1:=.u64) (k2:=.u64) rfl rfl rfl rfl ?_ ?_ ?_;(next=>(first|omega| (simp[NFL] <;> omega)));(next=>(first|omega| (simp[NFL] <;> omega)));(next=>(first|omega| (simp[NFL] <;> omega))))
     |fail)
    |fail)))
   | (refine arO _ ?_;first
    | (refine arO ⟨_,.move _,_,_,_,_⟩ ?_;first|refine dv rfl rfl rfl rfl ?_|fail)
    | (refine arO ⟨_,.assign _,_,_,_,_⟩ ?_;first
     |refine cr rfl rfl rfl rfl ?_
     |refine lX rfl rfl rfl rfl (bm (bg _) (.inr rfl)) ?_
     |fail)
    | (refine arO ⟨_,.call { callee:=.builtin .append,args:=_,argTypes:=_ },_,_,_,_⟩ ?_;first
     | (apply ie rfl rfl;(next=>(first
      | (apply a7 (T:=TT) rfl rfl rfl rfl rfl rfl rfl rfl rfl rfl;(next=>(first|exact trivial|exact az _|assumption| (simp[bE,AV.one,AV.rd,AV.cells,cst,Value.oneCell'] <;> omega)));(next=>(first|omega| (simp[NFL] <;> omega))))
      | (apply a7 (T:=TT) rfl (lb aH rfl) rfl rfl rfl rfl rfl rfl rfl rfl;(next=>(first|exact trivial|exact az _|assumption| (simp[bE,AV.one,AV.rd,AV.cells,cst,Value.oneCell'] <;> omega)));(next=>(first|omega| (simp[NFL] <;> omega))))
      | (apply a7 (T:=TT) rfl (lb (bX (by first|assumption| (intro e;exact absurd e.symm (by assumption))) aH) rfl) rfl rfl rfl rfl rfl rfl rfl rfl;(next=>(first|exact trivial|exact az _|assumption| (simp[bE,AV.one,AV.rd,AV.cells,cst,Value.oneCell'] <;> omega)));(next=>(first|omega| (simp[NFL] <;> omega))))
      | (apply cU (T:=TT) rfl rfl rfl rfl rfl rfl rfl rfl rfl;(next=>(first|exact trivial|exact az _|assumption| (simp[bE,AV.one,AV.rd,AV.cells,cst,Value.oneCell'] <;> omega)));(next=>(first|omega| (simp[NFL] <;> omega))))
      |fail)))
     |fail)
    |fail)
   |refine iH ?_
   | (refine arE ?_;refine gi [0,1,2,6,7,8,9,16,22,31,68] rfl ?_)
   |refine dM ?_
   |refine eH ?_
   |refine gk ?_
   |refine iI ?_
   |refine e9 rfl ?_
   | (refine arC (.cond _ _ _) ?_;first
    | (refine bU rfl ?_ ?_;(next=>(first|rfl| (simp only[decide_eq_true_eq,beq_iff_eq,bne_iff_ne,ge_iff_le,gt_iff_lt,ne_eq,Bool.not_eq_true',decide_eq_false_iff_not];omega))))
    | (refine bz rfl ?_ ?_;(next=>(first
     |rfl
     | (simp only[decide_eq_false_iff_not,beq_eq_false_iff_ne,bne_eq_false_iff_eq,ge_iff_le,gt_iff_lt,ne_eq,Bool.not_eq_false',decide_eq_true_eq];omega))))
    |fail)
   |refine gh ?_
   |refine eb ?_
   |refine dp rfl ?_
   |refine dq ?_
   |refine dm ?_
   | (refine arC .ret ?_;refine gQ [6] ?_)
   |refine d8 ?_
   |refine d9 ?_
   |refine ea ?_
   |refine gu ?_
   |fail)
  refine⟨_,rfl,k',cap,sp,rfl,?_,?_⟩
  ·rw[B0];simp
  ·rw[List.length_append,List.length_append,List.length_take] at h2
   omega
end Go.Proofs.YtobacplonkjigaaDoor
namespace Go.Proofs.YtobacplonkjigaaDoor
open Go.RowKit P
theorem zy{P:Program}{T:Tys P}{σ:AS}{t u ty e:TypeId}{x y:Operand}{pos:String}{af:Array Edge}{g:Option (Nat × Bool)}{d by_ sz N:Nat}{us:List AV}{du:TypeDesc}(hx:opV σ x=some (.cl sz []))(ht:look T.ty t=some (.slice e))(hu:look T.ty u=some du)(hnz:du=.string∨∃e',du=.slice e')(hz:look T.sz e=some (sz,by_))(hb1:1≤by_)
  (hsrc:∀F X (a:Act),SimE F X σ a.tmps→∃vs,SrcA P X sz N N us (a.eval y) vs) (hN:0 < N) (hfit:N * by_≤140737488355328) (hpl:fM us) (hd:Nat.ble (d+1) σ.n=true)
  {R:AS→Prop} (hR:∀k' cap sp,gm k' σ.h→(N≤cap∧(us++sp).length=cap * sz∧fM sp)→R ((σ.box k' (us++sp)).put d (.v (.slice (some ⟨k',0,none⟩) N cap)))):cy P ⟨some d,.call { callee:=.builtin .append,args:= #[x,y],argTypes:= #[t,u] },ty,pos,af,g⟩ σ R:=by
 refine nE (Fact:=fun cap sp=>N≤cap∧(us++sp).length=cap * sz∧fM sp) rfl hd (fun cap sp h v hv=> ?_) (fun F X a hs=> ?_) hR
 ·rcases List.mem_append.1 hv with hv|hv
  ·exact hpl v hv
  ·exact h.2.2 v hv
 ·have hrel:=bt hs hx
  obtain⟨vs,hv⟩:=hsrc F X a hs
  obtain⟨i,hi1,hi2,hi3,zv,hi4,hi5⟩:=T.szOk _ _ _ hz
  generalize hxv:a.eval x=xv at hrel
  cases hrel with
  |cl _ _ ad n hr=>
   have hn:n=0:=by
    obtain⟨a1,c1,h1⟩:=gy hr
    cases h1;rfl
   subst hn
   have hcge:=grownCap_ge X.w (0+N) 0 e
   have hold:∀w',w'.heap=X.w.heap→(Builtin.firstCells i.size 0 (.slice ad 0 0)).run P w'=.ok ([] :List Value).toArray w':=fun w' _=>by
    cases ad with
    |none=>simp[Builtin.firstCells]
    |some b=>exact run_firstCells_some (P:=P) (w:=w') i.size 0 b 0 0 [] (by simp) (fun j v hv=>by simp at hv)
   have hrun:=gc (P:=P) (ty:=ty) (sLen:=0) (sCap:=0) (a:=ad) (m:=N) (olds:=[]) (news:=vs) (x:=a.eval y) (T.tyOk _ _ ht) (T.tyOk _ _ hu) hnz hi1 hi4 ⟨hv.len,by rw[hi2];exact hv.first,by rw[hi2];exact hv.lv⟩ hold (by omega) (by rw[hi3,Nat.zero_add];exact hfit) (by rw[hi3];exact hb1)
   rw[Nat.zero_add] at hrun hcge
   refine⟨_,e,grownCap X.w N 0 e,(Builtin.zeroCells zv.cells (grownCap X.w N 0 e - N)).toList.map .v,⟨hcge,?_,fun v hv=> ?_⟩,cb hxv rfl hrun,?_,fun j u0 v hu0 hv0=> ?_⟩
   ·rw[List.length_append,hv.lu,List.length_map,Array.length_toList]
    have:(Builtin.zeroCells zv.cells (grownCap X.w N 0 e - N)).size=(grownCap X.w N 0 e - N) * sz:=by simp[Builtin.zeroCells,hi5]
    rw[this,← Nat.add_mul];congr 1;omega
   ·obtain⟨z,_,rfl⟩:=List.mem_map.1 hv;rfl
   ·simp only[Array.size_append,List.size_toArray,List.length_append,hv.lu,hv.lv,List.length_map,Array.length_toList,List.length_nil,Nat.zero_add]
   ·have hl0:(([] :List Value).toArray++vs.toArray++Builtin.zeroCells zv.cells (grownCap X.w N 0 e - N))[j]? =(vs++ (Builtin.zeroCells zv.cells (grownCap X.w N 0 e - N)).toList)[j]? :=by
     rw[← Array.getElem?_toList];simp
    rw[hl0] at hv0
    refine rA (by rw[hv.lu,hv.lv]) hv.rel (fun i u v hu hv=> ?_) j u0 v hu0 hv0
    rw[List.getElem?_map,hv] at hu
    cases hu
    exact .v _
attribute [local irreducible] AS.nf OpV aY Stk lz vU ai cy v6 v8 Awp Fk D9 F2
def CM(L:List (List AV)):Prop:=∀r∈L,r.length=2∧∀u∈r,xA u
theorem CM.flat{L:List (List AV)}(h:CM L):∀u∈L.flatten,xA u:=fun u hu=>by
 obtain⟨r,h1,h2⟩:=List.mem_flatten.1 hu
 exact(h r h1).2 u h2
set_option maxHeartbeats 2000000
set_option maxRecDepth 100000 in
theorem Ph(r:List AV)(L:List (List AV))(hl:L.length < 1000000)(hok:CM (r::L)):
  ai Tryd.prog 10 [.sl false 2 (r::L)] [] (fun out H=>∃k c sp,out=.ret (.v (.slice (some ⟨k,0,none⟩) (L.length+1) c))∧H=[(k,(r::L).flatten++sp)] ∧(L.length+1) * 2+sp.length=c * 2):=by
 refine kV _ 8 [.tmp 2] Tryd.func10 (by kernel_rfl) rfl rfl rfl rfl ?_
 dsimp only[slotsOf]
 repeat (first
  | ((first|apply lP|apply iS);(next=>(first| (simp only[go_sem,Nat.reduceBEq,Nat.reduceEqDiff,reduceIte,reduceCtorEq,String.reduceEq,Nat.reduceAdd,Int.reduceToNat];exact rfl)|exact rfl)))
  | (apply gd rfl rfl rfl rfl;(next=>(first
   | (refine fg (T:=TT) rfl ?_;(first|exact trivial|omega| (simp[NFL] <;> omega)))
   | (apply opk ⟨_,.move _,_,_,_,_⟩;first|exact bm (bg _) (.inl rfl)|fail)
   | (apply opk ⟨_,.binOp .eql _ _ _ _,_,_,_,_⟩;first
    | (refine di rfl rfl rfl ?_;(next=>(first|exact rfl| (simp only[cz];omega)| (simp only[cz];simp[NFL] <;> omega))))
    | (refine dk rfl rfl rfl ?_;(next=>(first|exact rfl| (simp only[cz];omega)| (simp only[cz];simp[NFL] <;> omega))))
    |exact bi rfl rfl rfl
    | (refine fX rfl rfl rfl ?_;(next=>(first|rfl|assumption)))
    | (refine fW rfl rfl rfl ?_;(next=>(first|rfl|assumption)))
    |exact cR rfl rfl rfl
    |fail)
   | (apply opk ⟨_,.buildSlice _ _ _,_,_,_,_⟩;first|exact cP (T:=TT) rfl rfl rfl rfl rfl rfl rfl|fail)
   |fail)))
  | (refine arO _ ?_;first
   | (refine arO ⟨_,.move _,_,_,_,_⟩ ?_;first|refine dv rfl rfl rfl rfl ?_|fail)
   | (refine arO ⟨_,.assign _,_,_,_,_⟩ ?_;first
    |refine cr rfl rfl rfl rfl ?_
    |refine lX rfl rfl rfl rfl (bm (bg _) (.inr rfl)) ?_
    |fail)
   | (refine arO ⟨_,.call { callee:=.builtin .append,args:=_,argTypes:=_ },_,_,_,_⟩ ?_;first
    | (apply ie rfl rfl;(next=>(first
     | (apply a7 (T:=TT) rfl rfl rfl rfl rfl rfl rfl rfl rfl rfl;(next=>(first|exact trivial|exact az _|assumption| (simp[bE,AV.one,AV.rd,AV.cells,cst,Value.oneCell'] <;> omega)));(next=>(first|omega| (simp[NFL] <;> omega))))
     | (apply a7 (T:=TT) rfl (lb aH rfl) rfl rfl rfl rfl rfl rfl rfl rfl;(next=>(first|exact trivial|exact az _|assumption| (simp[bE,AV.one,AV.rd,AV.cells,cst,Value.oneCell'] <;> omega)));(next=>(first|omega| (simp[NFL] <;> omega))))
     | (apply a7 (T:=TT) rfl (lb (bX (by first|assumption| (intro e;exact absurd e.symm (by assumption))) aH) rfl) rfl rfl rfl rfl rfl rfl rfl rfl;(next=>(first|exact trivial|exact az _|assumption| (simp[bE,AV.one,AV.rd,AV.cells,cst,Value.oneCell'] <;> omega)));(next=>(first|omega| (simp[NFL] <;> omega))))
     | (apply cU (T:=TT) rfl rfl rfl rfl rfl rfl rfl rfl rfl;(next=>(first|exact trivial|exact az _|assumption| (simp[bE,AV.one,AV.rd,AV.cells,cst,Value.oneCell'] <;> omega)));(next=>(first|omega| (simp[NFL] <;> omega))))
     |fail)))
    |fail)
   |fail)
  |refine iH ?_
  | (refine arE ?_;refine gi [0,2,4] rfl ?_)
  |refine dM ?_
  |refine eH ?_
  |refine gk ?_
  |refine iI ?_
  |refine e9 rfl ?_
  | (refine arC (.cond _ _ _) ?_;first
   | (refine bU rfl ?_ ?_;(next=>(first|rfl| (simp only[decide_eq_true_eq,beq_iff_eq,bne_iff_ne,ge_iff_le,gt_iff_lt,ne_eq,Bool.not_eq_true',decide_eq_false_iff_not];omega))))
   | (refine bz rfl ?_ ?_;(next=>(first
    |rfl
    | (simp only[decide_eq_false_iff_not,beq_eq_false_iff_ne,bne_eq_false_iff_eq,ge_iff_le,gt_iff_lt,ne_eq,Bool.not_eq_false',decide_eq_true_eq];omega))))
   |fail)
  |refine gh ?_
  |refine eb ?_
  |refine dp rfl ?_
  |refine dq ?_
  |refine dm ?_
  | (refine arC .ret ?_;refine gQ [2] ?_)
  |refine d8 ?_
  |refine d9 ?_
  |refine ea ?_
  |refine gu ?_
  |fail)
 refine dZ rfl rfl (wZ (.inl ⟨rfl,rfl⟩) (TT.tyOk 22 (.slice 34) rfl) rfl rfl rfl (fun b hb=> ?_))
 cases b with
 |true=>cases hb rfl
 |false=>
  repeat (first
   | ((first|apply lP|apply iS);(next=>(first| (simp only[go_sem,Nat.reduceBEq,Nat.reduceEqDiff,reduceIte,reduceCtorEq,String.reduceEq,Nat.reduceAdd,Int.reduceToNat];exact rfl)|exact rfl)))
   | (apply gd rfl rfl rfl rfl;(next=>exact su (T:=TT) rfl rfl))
   | (apply gd rfl rfl rfl rfl;(next=>(first
    | (refine fg (T:=TT) rfl ?_;(first|exact trivial|omega| (simp[NFL] <;> omega)))
    | (apply opk ⟨_,.move _,_,_,_,_⟩;first|exact bm (bg _) (.inl rfl)|fail)
    | (apply opk ⟨_,.binOp .eql _ _ _ _,_,_,_,_⟩;first
     | (refine di rfl rfl rfl ?_;(next=>(first|exact rfl| (simp only[cz];omega)| (simp only[cz];simp[NFL] <;> omega))))
     | (refine dk rfl rfl rfl ?_;(next=>(first|exact rfl| (simp only[cz];omega)| (simp only[cz];simp[NFL] <;> omega))))
     |exact bi rfl rfl rfl
     | (refine fX rfl rfl rfl ?_;(next=>(first|rfl|assumption)))
     | (refine fW rfl rfl rfl ?_;(next=>(first|rfl|assumption)))
     |exact cR rfl rfl rfl
     |fail)
    | (apply opk ⟨_,.buildSlice _ _ _,_,_,_,_⟩;first|exact cP (T:=TT) rfl rfl rfl rfl rfl rfl rfl|fail)
    |fail)))
   | (refine arO _ ?_;first
    | (refine arO ⟨_,.move _,_,_,_,_⟩ ?_;first|refine dv rfl rfl rfl rfl ?_|fail)
    | (refine arO ⟨_,.assign _,_,_,_,_⟩ ?_;first
     |refine cr rfl rfl rfl rfl ?_
     |refine lX rfl rfl rfl rfl (bm (bg _) (.inr rfl)) ?_
     |fail)
    | (refine arO ⟨_,.call { callee:=.builtin .append,args:=_,argTypes:=_ },_,_,_,_⟩ ?_;first
     | (apply ie rfl rfl;(next=>(first
      | (apply a7 (T:=TT) rfl rfl rfl rfl rfl rfl rfl rfl rfl rfl;(next=>(first|exact trivial|exact az _|assumption| (simp[bE,AV.one,AV.rd,AV.cells,cst,Value.oneCell'] <;> omega)));(next=>(first|omega| (simp[NFL] <;> omega))))
      | (apply a7 (T:=TT) rfl (lb aH rfl) rfl rfl rfl rfl rfl rfl rfl rfl;(next=>(first|exact trivial|exact az _|assumption| (simp[bE,AV.one,AV.rd,AV.cells,cst,Value.oneCell'] <;> omega)));(next=>(first|omega| (simp[NFL] <;> omega))))
      | (apply a7 (T:=TT) rfl (lb (bX (by first|assumption| (intro e;exact absurd e.symm (by assumption))) aH) rfl) rfl rfl rfl rfl rfl rfl rfl rfl;(next=>(first|exact trivial|exact az _|assumption| (simp[bE,AV.one,AV.rd,AV.cells,cst,Value.oneCell'] <;> omega)));(next=>(first|omega| (simp[NFL] <;> omega))))
      | (apply cU (T:=TT) rfl rfl rfl rfl rfl rfl rfl rfl rfl;(next=>(first|exact trivial|exact az _|assumption| (simp[bE,AV.one,AV.rd,AV.cells,cst,Value.oneCell'] <;> omega)));(next=>(first|omega| (simp[NFL] <;> omega))))
      |fail)))
     |fail)
    |fail)
   |refine iH ?_
   | (refine arE ?_;refine gi [0,2,4] rfl ?_)
   |refine dM ?_
   |refine eH ?_
   |refine gk ?_
   |refine iI ?_
   |refine e9 rfl ?_
   | (refine arC (.cond _ _ _) ?_;first
    | (refine bU rfl ?_ ?_;(next=>(first|rfl| (simp only[decide_eq_true_eq,beq_iff_eq,bne_iff_ne,ge_iff_le,gt_iff_lt,ne_eq,Bool.not_eq_true',decide_eq_false_iff_not];omega))))
    | (refine bz rfl ?_ ?_;(next=>(first
     |rfl
     | (simp only[decide_eq_false_iff_not,beq_eq_false_iff_ne,bne_eq_false_iff_eq,ge_iff_le,gt_iff_lt,ne_eq,Bool.not_eq_false',decide_eq_true_eq];omega))))
    |fail)
   |refine gh ?_
   |refine eb ?_
   |refine dp rfl ?_
   |refine dq ?_
   |refine dm ?_
   | (refine arC .ret ?_;refine gQ [2] ?_)
   |refine d8 ?_
   |refine d9 ?_
   |refine ea ?_
   |refine gu ?_
   |fail)
  have hfl:(r::L).flatten.length=(L.length+1) * 2:=mO (L:=r::L) fun q hq=>(hok q hq).1
  refine dZ rfl rfl (zy (T:=TT) (sz:=2) (by_:=32) (N:=L.length+1) (us:=(r::L).flatten) rfl rfl rfl (.inr ⟨_,rfl⟩) rfl (by decide) (fun F X a hs=> ?_) (by omega) (by omega) (fun u hu=>(hok.flat u hu).2) rfl ?_)
  ·exact wR (P:=Tryd.prog) (by decide) (bt hs (u:=.sl false 2 (r::L)) rfl) (fun q hq u hu=>((hok q hq).2 u hu).1)
  rintro k' cap sp hk' ⟨h1,h2,h3⟩
  repeat (first
   | ((first|apply lP|apply iS);(next=>(first| (simp only[go_sem,Nat.reduceBEq,Nat.reduceEqDiff,reduceIte,reduceCtorEq,String.reduceEq,Nat.reduceAdd,Int.reduceToNat];exact rfl)|exact rfl)))
   | (apply gd rfl rfl rfl rfl;(next=>(first
    | (refine fg (T:=TT) rfl ?_;(first|exact trivial|omega| (simp[NFL] <;> omega)))
    | (apply opk ⟨_,.move _,_,_,_,_⟩;first|exact bm (bg _) (.inl rfl)|fail)
    | (apply opk ⟨_,.binOp .eql _ _ _ _,_,_,_,_⟩;first
     | (refine di rfl rfl rfl ?_;(next=>(first|exact rfl| (simp only[cz];omega)| (simp only[cz];simp[NFL] <;> omega))))
     | (refine dk rfl rfl rfl ?_;(next=>(first|exact rfl| (simp only[cz];omega)| (simp only[cz];simp[NFL] <;> omega))))
     |exact bi rfl rfl rfl
     | (refine fX rfl rfl rfl ?_;(next=>(first|rfl|assumption)))
     | (refine fW rfl rfl rfl ?_;(next=>(first|rfl|assumption)))
     |exact cR rfl rfl rfl
     |fail)
    | (apply opk ⟨_,.buildSlice _ _ _,_,_,_,_⟩;first|exact cP (T:=TT) rfl rfl rfl rfl rfl rfl rfl|fail)
    |fail)))
   | (refine arO _ ?_;first
    | (refine arO ⟨_,.move _,_,_,_,_⟩ ?_;first|refine dv rfl rfl rfl rfl ?_|fail)
    | (refine arO ⟨_,.assign _,_,_,_,_⟩ ?_;first
     |refine cr rfl rfl rfl rfl ?_
     |refine lX rfl rfl rfl rfl (bm (bg _) (.inr rfl)) ?_
     |fail)
    | (refine arO ⟨_,.call { callee:=.builtin .append,args:=_,argTypes:=_ },_,_,_,_⟩ ?_;first
     | (apply ie rfl rfl;(next=>(first
      | (apply a7 (T:=TT) rfl rfl rfl rfl rfl rfl rfl rfl rfl rfl;(next=>(first|exact trivial|exact az _|assumption| (simp[bE,AV.one,AV.rd,AV.cells,cst,Value.oneCell'] <;> omega)));(next=>(first|omega| (simp[NFL] <;> omega))))
      | (apply a7 (T:=TT) rfl (lb aH rfl) rfl rfl rfl rfl rfl rfl rfl rfl;(next=>(first|exact trivial|exact az _|assumption| (simp[bE,AV.one,AV.rd,AV.cells,cst,Value.oneCell'] <;> omega)));(next=>(first|omega| (simp[NFL] <;> omega))))
      | (apply a7 (T:=TT) rfl (lb (bX (by first|assumption| (intro e;exact absurd e.symm (by assumption))) aH) rfl) rfl rfl rfl rfl rfl rfl rfl rfl;(next=>(first|exact trivial|exact az _|assumption| (simp[bE,AV.one,AV.rd,AV.cells,cst,Value.oneCell'] <;> omega)));(next=>(first|omega| (simp[NFL] <;> omega))))
      | (apply cU (T:=TT) rfl rfl rfl rfl rfl rfl rfl rfl rfl;(next=>(first|exact trivial|exact az _|assumption| (simp[bE,AV.one,AV.rd,AV.cells,cst,Value.oneCell'] <;> omega)));(next=>(first|omega| (simp[NFL] <;> omega))))
      |fail)))
     |fail)
    |fail)
   |refine iH ?_
   | (refine arE ?_;refine gi [0,2,4] rfl ?_)
   |refine dM ?_
   |refine eH ?_
   |refine gk ?_
   |refine iI ?_
   |refine e9 rfl ?_
   | (refine arC (.cond _ _ _) ?_;first
    | (refine bU rfl ?_ ?_;(next=>(first|rfl| (simp only[decide_eq_true_eq,beq_iff_eq,bne_iff_ne,ge_iff_le,gt_iff_lt,ne_eq,Bool.not_eq_true',decide_eq_false_iff_not];omega))))
    | (refine bz rfl ?_ ?_;(next=>(first
     |rfl
     | (simp only[decide_eq_false_iff_not,beq_eq_false_iff_ne,bne_eq_false_iff_eq,ge_iff_le,gt_iff_lt,ne_eq,Bool.not_eq_false',decide_eq_true_eq];omega))))
    |fail)
   |refine gh ?_
   |refine eb ?_
   |refine dp rfl ?_
   |refine dq ?_
   |refine dm ?_
   | (refine arC .ret ?_;refine gQ [2] ?_)
   |refine d8 ?_
   |refine d9 ?_
   |refine ea ?_
   |refine gu ?_
   |fail)
  exact⟨_,rfl,k',cap,sp,rfl,rfl,by rw[List.length_append,hfl] at h2;exact h2⟩
set_option maxHeartbeats 2000000
end Go.Proofs.YtobacplonkjigaaDoor
namespace Go.Proofs.YtobacplonkjigaaDoor
open Go.RowKit P
def gM(l:List VLabel):List (List AV):=l.map fun v=>[.v (.string (mkB v.Name)),.v (.string (mkB v.Value))]
theorem TL{N:Nat}(l:List VLabel)(nm:List UInt8){i:Int}{ok:Bool}(h:gE N l nm=some (i,ok)):ai Tryd.prog 39 [.sl false 2 (gM l),.v (.string (mkB nm))] [] (fun out H=>out=.ret (.tu [.v (.int .i64 i),.v (.bool ok)])∧H=[]):=
 qY l nm h Rn.zero
theorem qG(l:List VLabel):CM (gM l):=fun r hr=>by
 obtain⟨v,_,rfl⟩:=List.mem_map.1 hr
 refine⟨rfl,fun u hu=> ?_⟩
 simp only[List.mem_cons,List.not_mem_nil,or_false] at hu
 rcases hu with rfl|rfl<;> exact⟨rfl,rfl⟩
theorem oW(l:List VLabel):(gM l).flatten.length=l.length * 2:=by
 rw[mO (sz:=2) fun r hr=>(qG l r hr).1];simp[gM]
theorem xC(l:List VLabel)(sp:List AV){i:Nat}(hi:i≤l.length):((gM l).flatten++sp).take (i * 2)=(gM (l.take i)).flatten:=by
 have h:(gM l).flatten=(gM (l.take i)).flatten++ (gM (l.drop i)).flatten:=by
  rw[← List.flatten_append];congr 1
  simp only[gM,← List.map_append,List.take_append_drop]
 have h2:=oW (l.take i)
 rw[List.length_take,Nat.min_eq_left hi] at h2
 rw[h,List.append_assoc,← h2,List.take_left]
theorem Fu(l:List VLabel)(sp:List AV){i:Nat}(hi:i≤l.length):(((gM l).flatten++sp).drop (i * 2)).take ((l.length - i) * 2)=(gM (l.drop i)).flatten:=by
 have h:(gM l).flatten=(gM (l.take i)).flatten++ (gM (l.drop i)).flatten:=by
  rw[← List.flatten_append];congr 1
  simp only[gM,← List.map_append,List.take_append_drop]
 have h2:=oW (l.take i)
 have h3:=oW (l.drop i)
 rw[List.length_take,Nat.min_eq_left hi] at h2
 rw[List.length_drop] at h3
 rw[h,List.append_assoc,← h2,List.drop_left,← h3,List.take_left]
attribute [local irreducible] AS.nf OpV aY Stk lz vU ai cy v6 v8 Awp Fk D9 F2
set_option maxHeartbeats 2000000
set_option maxRecDepth 100000 in
theorem Qk{N:Nat}(a:VLabel)(l:List VLabel)(nm v:List UInt8)(hl:l.length < 400000)(h:gE N (a::l) nm=some (((l.length+1:Nat):Int),false))(hv:v≠[]):
  ai Tryd.prog 45 [.sl false 2 (gM (a::l)),.v (.string (mkB nm)),.v (.string (mkB v))] [] (fun out H=>out=.ret (.sl true 2 (gM ((a::l)++ [⟨nm,v⟩])))∧H=[]):=by
 have hf:=TL (a::l) nm h
 have hve:(decide (mkB v=⟨#[]⟩))=false:=decide_eq_false fun e=>hv (by have:=congrArg (fun b=>b.data.toList) e;simpa[mkB] using this)
 refine kV _ 46 [.tmp 6] Tryd.func45 (by kernel_rfl) rfl rfl rfl rfl ?_
 dsimp only[slotsOf]
 repeat (first
  | ((first|apply lP|apply iS);(next=>(first| (simp only[go_sem,Nat.reduceBEq,Nat.reduceEqDiff,reduceIte,reduceCtorEq,String.reduceEq,Nat.reduceAdd,Int.reduceToNat];exact rfl)|exact rfl)))
  | (apply gd rfl rfl rfl rfl;(next=>(first
   | (refine fg (T:=TT) rfl ?_;(first|exact trivial|omega| (simp[NFL] <;> omega)))
   | (apply opk ⟨_,.move _,_,_,_,_⟩;first|exact bm (bg _) (.inl rfl)|fail)
   | (apply opk ⟨_,.binOp .add _ _ _ _,_,_,_,_⟩;first|exact bi rfl rfl rfl|fail)
   | (apply opk ⟨_,.binOp .eql _ _ _ _,_,_,_,_⟩;first
    | (refine di rfl rfl rfl ?_;(next=>(first|exact rfl| (simp only[cz];omega)| (simp only[cz];simp[NFL] <;> omega))))
    | (refine dk rfl rfl rfl ?_;(next=>(first|exact rfl| (simp only[cz];omega)| (simp only[cz];simp[NFL] <;> omega))))
    |exact bi rfl rfl rfl
    | (refine fX rfl rfl rfl ?_;(next=>(first|rfl|assumption)))
    | (refine fW rfl rfl rfl ?_;(next=>(first|rfl|assumption)))
    |exact cR rfl rfl rfl
    |fail)
   | (apply opk ⟨_,.binOp .neq _ _ _ _,_,_,_,_⟩;first
    | (refine di rfl rfl rfl ?_;(next=>(first|exact rfl| (simp only[cz];omega)| (simp only[cz];simp[NFL] <;> omega))))
    | (refine dk rfl rfl rfl ?_;(next=>(first|exact rfl| (simp only[cz];omega)| (simp only[cz];simp[NFL] <;> omega))))
    |exact bi rfl rfl rfl
    | (refine ri rfl rfl rfl ?_;(next=>(first|rfl|assumption)))
    | (refine rj rfl rfl rfl ?_;(next=>(first|rfl|assumption)))
    |exact cR rfl rfl rfl
    |fail)
   | (apply opk ⟨_,.indexAddr _ _ _,_,_,_,_⟩;first
    | (refine hU (T:=TT) rfl rfl rfl rfl ?_ ?_;(next=>(first|omega| (simp[NFL] <;> omega)));(next=>(first|omega| (simp[NFL] <;> omega))))
    | (refine iw (T:=TT) rfl rfl rfl rfl ?_ ?_;(next=>(first|omega| (simp[NFL] <;> omega)));(next=>(first|omega| (simp[NFL] <;> omega))))
    |fail)
   | (apply opk ⟨_,.fieldAddr _ _ _,_,_,_,_⟩;first
    |exact kG (T:=TT) rfl rfl rfl rfl rfl rfl
    |exact iE (T:=TT) rfl rfl rfl rfl rfl
    |fail)
   | (apply opk ⟨_,.buildSlice _ _ _,_,_,_,_⟩;first|exact cP (T:=TT) rfl rfl rfl rfl rfl rfl rfl|fail)
   | (apply opk ⟨_,.build _ _,_,_,_,_⟩;first|exact oK (T:=TT) rfl rfl rfl rfl rfl|fail)
   | (apply opk ⟨_,.pick _ _ _,_,_,_,_⟩;first
    | (refine jZ rfl ?_ rfl;(next=>(first|rfl|assumption)))
    | (refine ka rfl ?_ rfl;(next=>(first|rfl|assumption)))
    |fail)
   |fail)))
  | (refine arO _ ?_;first
   | (refine arO ⟨_,.move _,_,_,_,_⟩ ?_;first|refine dv rfl rfl rfl rfl ?_|fail)
   | (refine arO ⟨_,.assign _,_,_,_,_⟩ ?_;first
    |refine cr rfl rfl rfl rfl ?_
    |refine lX rfl rfl rfl rfl (bm (bg _) (.inr rfl)) ?_
    |fail)
   | (refine arO ⟨_,.store _ _ _,_,_,_,_⟩ ?_;first
    | (apply ie rfl rfl;(next=>(first
     | (apply fB (T:=TT) rfl rfl rfl;(next=>(first
      |rfl
      |exact aH
      |assumption
      | ((repeat (first|exact aH|assumption| (apply bX;(next=>(first|assumption| (intro e;exact absurd e.symm (by assumption))|fail)))|fail));done)
      |fail));(next=>rfl);(next=>rfl);(next=>rfl))
     | (apply eY (T:=TT) rfl;(next=>(first
      |rfl
      |exact aH
      |assumption
      | ((repeat (first|exact aH|assumption| (apply bX;(next=>(first|assumption| (intro e;exact absurd e.symm (by assumption))|fail)))|fail));done)
      |fail));(next=>rfl);(next=>rfl);(next=>rfl);(next=>rfl);(next=>rfl);(next=>rfl);(next=>rfl);(next=>rfl))
     |fail)))
    |fail)
   | (refine arO ⟨_,.call { callee:=.value _,args:=_,argTypes:=_ },_,_,_,_⟩ ?_;first
    | (apply IC rfl (hf) rfl rfl;(next=>(repeat (first
     |exact PArgs.nil
     | (apply PArgs.cons;(next=>(first
      |exact PArg.own rfl rfl
      |exact PArg.rd rfl (Le1.refl _) rfl
      |exact PArg.rd rfl (Le1.rd _ _ _) rfl
      |exact PArg.nil rfl
      |exact PArg.rd rfl (Le1.nil _ _) rfl
      | (refine PArg.rd rfl (Le1.of_eq ?_) rfl;congr 2<;> (first|omega| (simp;omega)| (simp[NFL];done)))))))));(next=>rfl);(next=>rfl);rintro _ _ ⟨rfl,rfl⟩;refine⟨_,rfl,?_⟩)
    |fail)
   |fail)
  |refine kL rfl rfl rfl rfl ?_
  |refine iH ?_
  | (refine arE ?_;refine gi [0,1,2,6,7,8,17,28,35] rfl ?_)
  |refine dM ?_
  |refine eH ?_
  |refine gk ?_
  |refine iI ?_
  |refine e9 rfl ?_
  | (refine arC (.cond _ _ _) ?_;first
   | (refine bU rfl ?_ ?_;(next=>(first|rfl| (simp only[decide_eq_true_eq,beq_iff_eq,bne_iff_ne,ge_iff_le,gt_iff_lt,ne_eq,Bool.not_eq_true',decide_eq_false_iff_not];omega))))
   | (refine bz rfl ?_ ?_;(next=>(first
    |rfl
    | (simp only[decide_eq_false_iff_not,beq_eq_false_iff_ne,bne_eq_false_iff_eq,ge_iff_le,gt_iff_lt,ne_eq,Bool.not_eq_false',decide_eq_true_eq];omega))))
   |fail)
  |refine gh ?_
  |refine eb ?_
  |refine dp rfl ?_
  |refine dq ?_
  |refine dm ?_
  | (refine arC .ret ?_;refine gQ [6] ?_)
  |refine d8 ?_
  |refine d9 ?_
  |refine ea ?_
  |refine gu ?_
  |fail)
 have hl:l.length < 1000000:=by omega
 refine dZ rfl rfl (xZ (Hp:=[]) (Hr:=[]) (Ph _ _ (by simpa[gM] using hl) (qG (a::l))) (.cons (.rd rfl (Le1.refl _) rfl) .nil) (fun i j r hi hj=>ij (ρs:=[none]) rfl i j r r hi hj) (fun _ _ _=>rfl) (fun k cs hk=>by simp[av] at hk) (fun k cs hk=>by simp[av] at hk) rfl ?_)
 rintro _ _ ⟨k,c,sp,rfl,rfl,hc⟩
 refine⟨_,rfl,?_⟩
 repeat (first
  | ((first|apply lP|apply iS);(next=>(first| (simp only[go_sem,Nat.reduceBEq,Nat.reduceEqDiff,reduceIte,reduceCtorEq,String.reduceEq,Nat.reduceAdd,Int.reduceToNat];exact rfl)|exact rfl)))
  | (apply gd rfl rfl rfl rfl;(next=>(first
   | (refine fg (T:=TT) rfl ?_;(first|exact trivial|omega| (simp[NFL] <;> omega)))
   | (apply opk ⟨_,.move _,_,_,_,_⟩;first|exact bm (bg _) (.inl rfl)|fail)
   | (apply opk ⟨_,.binOp .add _ _ _ _,_,_,_,_⟩;first|exact bi rfl rfl rfl|fail)
   | (apply opk ⟨_,.binOp .eql _ _ _ _,_,_,_,_⟩;first
    | (refine di rfl rfl rfl ?_;(next=>(first|exact rfl| (simp only[cz];omega)| (simp only[cz];simp[NFL] <;> omega))))
    | (refine dk rfl rfl rfl ?_;(next=>(first|exact rfl| (simp only[cz];omega)| (simp only[cz];simp[NFL] <;> omega))))
    |exact bi rfl rfl rfl
    | (refine fX rfl rfl rfl ?_;(next=>(first|rfl|assumption)))
    | (refine fW rfl rfl rfl ?_;(next=>(first|rfl|assumption)))
    |exact cR rfl rfl rfl
    |fail)
   | (apply opk ⟨_,.binOp .neq _ _ _ _,_,_,_,_⟩;first
    | (refine di rfl rfl rfl ?_;(next=>(first|exact rfl| (simp only[cz];omega)| (simp only[cz];simp[NFL] <;> omega))))
    | (refine dk rfl rfl rfl ?_;(next=>(first|exact rfl| (simp only[cz];omega)| (simp only[cz];simp[NFL] <;> omega))))
    |exact bi rfl rfl rfl
    | (refine ri rfl rfl rfl ?_;(next=>(first|rfl|assumption)))
    | (refine rj rfl rfl rfl ?_;(next=>(first|rfl|assumption)))
    |exact cR rfl rfl rfl
    |fail)
   | (apply opk ⟨_,.indexAddr _ _ _,_,_,_,_⟩;first
    | (refine hU (T:=TT) rfl rfl rfl rfl ?_ ?_;(next=>(first|omega| (simp[NFL] <;> omega)));(next=>(first|omega| (simp[NFL] <;> omega))))
    | (refine iw (T:=TT) rfl rfl rfl rfl ?_ ?_;(next=>(first|omega| (simp[NFL] <;> omega)));(next=>(first|omega| (simp[NFL] <;> omega))))
    |fail)
   | (apply opk ⟨_,.fieldAddr _ _ _,_,_,_,_⟩;first
    |exact kG (T:=TT) rfl rfl rfl rfl rfl rfl
    |exact iE (T:=TT) rfl rfl rfl rfl rfl
    |fail)
   | (apply opk ⟨_,.buildSlice _ _ _,_,_,_,_⟩;first|exact cP (T:=TT) rfl rfl rfl rfl rfl rfl rfl|fail)
   | (apply opk ⟨_,.build _ _,_,_,_,_⟩;first|exact oK (T:=TT) rfl rfl rfl rfl rfl|fail)
   | (apply opk ⟨_,.pick _ _ _,_,_,_,_⟩;first
    | (refine jZ rfl ?_ rfl;(next=>(first|rfl|assumption)))
    | (refine ka rfl ?_ rfl;(next=>(first|rfl|assumption)))
    |fail)
   |fail)))
  | (refine arO _ ?_;first
   | (refine arO ⟨_,.move _,_,_,_,_⟩ ?_;first|refine dv rfl rfl rfl rfl ?_|fail)
   | (refine arO ⟨_,.assign _,_,_,_,_⟩ ?_;first
    |refine cr rfl rfl rfl rfl ?_
    |refine lX rfl rfl rfl rfl (bm (bg _) (.inr rfl)) ?_
    |fail)
   | (refine arO ⟨_,.store _ _ _,_,_,_,_⟩ ?_;first
    | (apply ie rfl rfl;(next=>(first
     | (apply fB (T:=TT) rfl rfl rfl;(next=>(first
      |rfl
      |exact aH
      |assumption
      | ((repeat (first|exact aH|assumption| (apply bX;(next=>(first|assumption| (intro e;exact absurd e.symm (by assumption))|fail)))|fail));done)
      |fail));(next=>rfl);(next=>rfl);(next=>rfl))
     | (apply eY (T:=TT) rfl;(next=>(first
      |rfl
      |exact aH
      |assumption
      | ((repeat (first|exact aH|assumption| (apply bX;(next=>(first|assumption| (intro e;exact absurd e.symm (by assumption))|fail)))|fail));done)
      |fail));(next=>rfl);(next=>rfl);(next=>rfl);(next=>rfl);(next=>rfl);(next=>rfl);(next=>rfl);(next=>rfl))
     |fail)))
    |fail)
   |fail)
  |refine kL rfl rfl rfl rfl ?_
  |refine iH ?_
  | (refine arE ?_;refine gi [0,1,2,6,7,8,17,28,35] rfl ?_)
  |refine dM ?_
  |refine eH ?_
  |refine gk ?_
  |refine iI ?_
  |refine e9 rfl ?_
  | (refine arC (.cond _ _ _) ?_;first
   | (refine bU rfl ?_ ?_;(next=>(first|rfl| (simp only[decide_eq_true_eq,beq_iff_eq,bne_iff_ne,ge_iff_le,gt_iff_lt,ne_eq,Bool.not_eq_true',decide_eq_false_iff_not];omega))))
   | (refine bz rfl ?_ ?_;(next=>(first
    |rfl
    | (simp only[decide_eq_false_iff_not,beq_eq_false_iff_ne,bne_eq_false_iff_eq,ge_iff_le,gt_iff_lt,ne_eq,Bool.not_eq_false',decide_eq_true_eq];omega))))
   |fail)
  |refine gh ?_
  |refine eb ?_
  |refine dp rfl ?_
  |refine dq ?_
  |refine dm ?_
  | (refine arC .ret ?_;refine gQ [6] ?_)
  |refine d8 ?_
  |refine d9 ?_
  |refine ea ?_
  |refine gu ?_
  |fail)
 refine dZ rfl rfl (xZ (Hp:=[(k,(gM (a::l)).flatten++sp)]) (Hr:=[]) (Gx k (l.length+1) c ((gM (a::l)).flatten++sp) [.v (.string (mkB nm)),.v (.string (mkB v))] ?_ ?_ (by omega) ?_ rfl (qG [⟨nm,v⟩] _ (List.mem_singleton.2 rfl)).2) (.cons (.rd rfl ?_ rfl) (.cons (.rd rfl (Le1.refl _) rfl) (.cons (.rd rfl (Le1.rd _ _ _) rfl) .nil))) (fun i j r hi hj=>ij (ρs:=[none,none,none]) rfl i j r r hi hj) (fun _ _ hh=>by simp at hh) (fun k cs hk=>hk) (fun k cs hk=>by simp[av] at hk) rfl ?_)
 ·rw[List.length_append,oW];rw[List.length_map] at hc;simp only[List.length_cons];omega
 ·rw[List.length_map] at hc;omega
 ·rw[show l.length+1=(a::l).length from rfl,xC _ _ (Nat.le_refl _),List.take_length]
  exact(qG (a::l)).flat
 ·rw[List.length_map];exact Le1.refl _
 rintro _ H ⟨k',c',sp',rfl,hk',hc'⟩
 refine⟨_,rfl,?_⟩
 rw[show l.length+1=(a::l).length from rfl,xC _ _ (Nat.le_refl _),Fu _ _ (Nat.le_refl _)] at hk'
 repeat (first
  | ((first|apply lP|apply iS);(next=>(first| (simp only[go_sem,Nat.reduceBEq,Nat.reduceEqDiff,reduceIte,reduceCtorEq,String.reduceEq,Nat.reduceAdd,Int.reduceToNat];exact rfl)|exact rfl)))
  | (apply gd rfl rfl rfl rfl;(next=>(first
   | (refine fg (T:=TT) rfl ?_;(first|exact trivial|omega| (simp[NFL] <;> omega)))
   | (apply opk ⟨_,.move _,_,_,_,_⟩;first|exact bm (bg _) (.inl rfl)|fail)
   | (apply opk ⟨_,.binOp .add _ _ _ _,_,_,_,_⟩;first|exact bi rfl rfl rfl|fail)
   | (apply opk ⟨_,.binOp .eql _ _ _ _,_,_,_,_⟩;first
    | (refine di rfl rfl rfl ?_;(next=>(first|exact rfl| (simp only[cz];omega)| (simp only[cz];simp[NFL] <;> omega))))
    | (refine dk rfl rfl rfl ?_;(next=>(first|exact rfl| (simp only[cz];omega)| (simp only[cz];simp[NFL] <;> omega))))
    |exact bi rfl rfl rfl
    | (refine fX rfl rfl rfl ?_;(next=>(first|rfl|assumption)))
    | (refine fW rfl rfl rfl ?_;(next=>(first|rfl|assumption)))
    |exact cR rfl rfl rfl
    |fail)
   | (apply opk ⟨_,.binOp .neq _ _ _ _,_,_,_,_⟩;first
    | (refine di rfl rfl rfl ?_;(next=>(first|exact rfl| (simp only[cz];omega)| (simp only[cz];simp[NFL] <;> omega))))
    | (refine dk rfl rfl rfl ?_;(next=>(first|exact rfl| (simp only[cz];omega)| (simp only[cz];simp[NFL] <;> omega))))
    |exact bi rfl rfl rfl
    | (refine ri rfl rfl rfl ?_;(next=>(first|rfl|assumption)))
    | (refine rj rfl rfl rfl ?_;(next=>(first|rfl|assumption)))
    |exact cR rfl rfl rfl
    |fail)
   | (apply opk ⟨_,.indexAddr _ _ _,_,_,_,_⟩;first
    | (refine hU (T:=TT) rfl rfl rfl rfl ?_ ?_;(next=>(first|omega| (simp[NFL] <;> omega)));(next=>(first|omega| (simp[NFL] <;> omega))))
    | (refine iw (T:=TT) rfl rfl rfl rfl ?_ ?_;(next=>(first|omega| (simp[NFL] <;> omega)));(next=>(first|omega| (simp[NFL] <;> omega))))
    |fail)
   | (apply opk ⟨_,.fieldAddr _ _ _,_,_,_,_⟩;first
    |exact kG (T:=TT) rfl rfl rfl rfl rfl rfl
    |exact iE (T:=TT) rfl rfl rfl rfl rfl
    |fail)
   | (apply opk ⟨_,.buildSlice _ _ _,_,_,_,_⟩;first|exact cP (T:=TT) rfl rfl rfl rfl rfl rfl rfl|fail)
   | (apply opk ⟨_,.build _ _,_,_,_,_⟩;first|exact oK (T:=TT) rfl rfl rfl rfl rfl|fail)
   | (apply opk ⟨_,.pick _ _ _,_,_,_,_⟩;first
    | (refine jZ rfl ?_ rfl;(next=>(first|rfl|assumption)))
    | (refine ka rfl ?_ rfl;(next=>(first|rfl|assumption)))
    |fail)
   |fail)))
  | (refine arO _ ?_;first
   | (refine arO ⟨_,.move _,_,_,_,_⟩ ?_;first|refine dv rfl rfl rfl rfl ?_|fail)
   | (refine arO ⟨_,.assign _,_,_,_,_⟩ ?_;first
    |refine cr rfl rfl rfl rfl ?_
    |refine lX rfl rfl rfl rfl (bm (bg _) (.inr rfl)) ?_
    |fail)
   | (refine arO ⟨_,.store _ _ _,_,_,_,_⟩ ?_;first
    | (apply ie rfl rfl;(next=>(first
     | (apply fB (T:=TT) rfl rfl rfl;(next=>(first
      |rfl
      |exact aH
      |assumption
      | ((repeat (first|exact aH|assumption| (apply bX;(next=>(first|assumption| (intro e;exact absurd e.symm (by assumption))|fail)))|fail));done)
      |fail));(next=>rfl);(next=>rfl);(next=>rfl))
     | (apply eY (T:=TT) rfl;(next=>(first
      |rfl
      |exact aH
      |assumption
      | ((repeat (first|exact aH|assumption| (apply bX;(next=>(first|assumption| (intro e;exact absurd e.symm (by assumption))|fail)))|fail));done)
      |fail));(next=>rfl);(next=>rfl);(next=>rfl);(next=>rfl);(next=>rfl);(next=>rfl);(next=>rfl);(next=>rfl))
     |fail)))
    |fail)
   |fail)
  |refine kL rfl rfl rfl rfl ?_
  |refine iH ?_
  | (refine arE ?_;refine gi [0,1,2,6,7,8,17,28,35] rfl ?_)
  |refine dM ?_
  |refine eH ?_
  |refine gk ?_
  |refine iI ?_
  |refine e9 rfl ?_
  | (refine arC (.cond _ _ _) ?_;first
   | (refine bU rfl ?_ ?_;(next=>(first|rfl| (simp only[decide_eq_true_eq,beq_iff_eq,bne_iff_ne,ge_iff_le,gt_iff_lt,ne_eq,Bool.not_eq_true',decide_eq_false_iff_not];omega))))
   | (refine bz rfl ?_ ?_;(next=>(first
    |rfl
    | (simp only[decide_eq_false_iff_not,beq_eq_false_iff_ne,bne_eq_false_iff_eq,ge_iff_le,gt_iff_lt,ne_eq,Bool.not_eq_false',decide_eq_true_eq];omega))))
   |fail)
  |refine gh ?_
  |refine eb ?_
  |refine dp rfl ?_
  |refine dq ?_
  |refine dm ?_
  |fail
  |refine d8 ?_
  |refine d9 ?_
  |refine ea ?_
  |refine gu ?_
  |fail)
 have hk2:look H k'=some ((gM ((a::l)++ [⟨nm,v⟩])).flatten++sp'):=by
  rw[hk',List.take_length,List.drop_length]
  simp[gM]
 have hll:((a::l)++ [(⟨nm,v⟩:VLabel)]).length=l.length+1+1:=by simp
 have hbl:((gM ((a::l)++ [⟨nm,v⟩])).flatten++sp').length=c' * 2:=by
  rw[List.length_append,oW,hll];exact hc'
 refine Ew ?_ (fun F X tm hs=>SimE.claim (k:=k') (d:=6) (L:=gM ((a::l)++ [⟨nm,v⟩])) hs rfl hk2 (ym hbl) (by rw[← hll];simp[gM]) (fun r hr=>(qG _ r hr).1) rfl hbl (by omega))
 repeat (first
  | ((first|apply lP|apply iS);(next=>(first| (simp only[go_sem,Nat.reduceBEq,Nat.reduceEqDiff,reduceIte,reduceCtorEq,String.reduceEq,Nat.reduceAdd,Int.reduceToNat];exact rfl)|exact rfl)))
  | (refine arC .ret ?_;refine Fi [6] ?_)
  | (apply gd rfl rfl rfl rfl;(next=>(first
   | (refine fg (T:=TT) rfl ?_;(first|exact trivial|omega| (simp[NFL] <;> omega)))
   | (apply opk ⟨_,.move _,_,_,_,_⟩;first|exact bm (bg _) (.inl rfl)|fail)
   | (apply opk ⟨_,.binOp .add _ _ _ _,_,_,_,_⟩;first|exact bi rfl rfl rfl|fail)
   | (apply opk ⟨_,.binOp .eql _ _ _ _,_,_,_,_⟩;first
    | (refine di rfl rfl rfl ?_;(next=>(first|exact rfl| (simp only[cz];omega)| (simp only[cz];simp[NFL] <;> omega))))
    | (refine dk rfl rfl rfl ?_;(next=>(first|exact rfl| (simp only[cz];omega)| (simp only[cz];simp[NFL] <;> omega))))
    |exact bi rfl rfl rfl
    | (refine fX rfl rfl rfl ?_;(next=>(first|rfl|assumption)))
    | (refine fW rfl rfl rfl ?_;(next=>(first|rfl|assumption)))
    |exact cR rfl rfl rfl
    |fail)
   | (apply opk ⟨_,.binOp .neq _ _ _ _,_,_,_,_⟩;first
    | (refine di rfl rfl rfl ?_;(next=>(first|exact rfl| (simp only[cz];omega)| (simp only[cz];simp[NFL] <;> omega))))
    | (refine dk rfl rfl rfl ?_;(next=>(first|exact rfl| (simp only[cz];omega)| (simp only[cz];simp[NFL] <;> omega))))
    |exact bi rfl rfl rfl
    | (refine ri rfl rfl rfl ?_;(next=>(first|rfl|assumption)))
    | (refine rj rfl rfl rfl ?_;(next=>(first|rfl|assumption)))
    |exact cR rfl rfl rfl
    |fail)
   | (apply opk ⟨_,.indexAddr _ _ _,_,_,_,_⟩;first
    | (refine hU (T:=TT) rfl rfl rfl rfl ?_ ?_;(next=>(first|omega| (simp[NFL] <;> omega)));(next=>(first|omega| (simp[NFL] <;> omega))))
    | (refine iw (T:=TT) rfl rfl rfl rfl ?_ ?_;(next=>(first|omega| (simp[NFL] <;> omega)));(next=>(first|omega| (simp[NFL] <;> omega))))
    |fail)
   | (apply opk ⟨_,.fieldAddr _ _ _,_,_,_,_⟩;first
    |exact kG (T:=TT) rfl rfl rfl rfl rfl rfl
    |exact iE (T:=TT) rfl rfl rfl rfl rfl
    |fail)
   | (apply opk ⟨_,.buildSlice _ _ _,_,_,_,_⟩;first|exact cP (T:=TT) rfl rfl rfl rfl rfl rfl rfl|fail)
   | (apply opk ⟨_,.build _ _,_,_,_,_⟩;first|exact oK (T:=TT) rfl rfl rfl rfl rfl|fail)
   | (apply opk ⟨_,.pick _ _ _,_,_,_,_⟩;first
    | (refine jZ rfl ?_ rfl;(next=>(first|rfl|assumption)))
    | (refine ka rfl ?_ rfl;(next=>(first|rfl|assumption)))
    |fail)
   |fail)))
  | (refine arO _ ?_;first
   | (refine arO ⟨_,.move _,_,_,_,_⟩ ?_;first|refine dv rfl rfl rfl rfl ?_|fail)
   | (refine arO ⟨_,.assign _,_,_,_,_⟩ ?_;first
    |refine cr rfl rfl rfl rfl ?_
    |refine lX rfl rfl rfl rfl (bm (bg _) (.inr rfl)) ?_
    |fail)
   | (refine arO ⟨_,.store _ _ _,_,_,_,_⟩ ?_;first
    | (apply ie rfl rfl;(next=>(first
     | (apply fB (T:=TT) rfl rfl rfl;(next=>(first
      |rfl
      |exact aH
      |assumption
      | ((repeat (first|exact aH|assumption| (apply bX;(next=>(first|assumption| (intro e;exact absurd e.symm (by assumption))|fail)))|fail));done)
      |fail));(next=>rfl);(next=>rfl);(next=>rfl))
     | (apply eY (T:=TT) rfl;(next=>(first
      |rfl
      |exact aH
      |assumption
      | ((repeat (first|exact aH|assumption| (apply bX;(next=>(first|assumption| (intro e;exact absurd e.symm (by assumption))|fail)))|fail));done)
      |fail));(next=>rfl);(next=>rfl);(next=>rfl);(next=>rfl);(next=>rfl);(next=>rfl);(next=>rfl);(next=>rfl))
     |fail)))
    |fail)
   |fail)
  |refine kL rfl rfl rfl rfl ?_
  |refine iH ?_
  | (refine arE ?_;refine gi [0,1,2,6,7,8,17,28,35] rfl ?_)
  |refine dM ?_
  |refine eH ?_
  |refine gk ?_
  |refine iI ?_
  |refine e9 rfl ?_
  | (refine arC (.cond _ _ _) ?_;first
   | (refine bU rfl ?_ ?_;(next=>(first|rfl| (simp only[decide_eq_true_eq,beq_iff_eq,bne_iff_ne,ge_iff_le,gt_iff_lt,ne_eq,Bool.not_eq_true',decide_eq_false_iff_not];omega))))
   | (refine bz rfl ?_ ?_;(next=>(first
    |rfl
    | (simp only[decide_eq_false_iff_not,beq_eq_false_iff_ne,bne_eq_false_iff_eq,ge_iff_le,gt_iff_lt,ne_eq,Bool.not_eq_false',decide_eq_true_eq];omega))))
   |fail)
  |refine gh ?_
  |refine eb ?_
  |refine dp rfl ?_
  |refine dq ?_
  |refine dm ?_
  | (refine arC .ret ?_;refine gQ [6] ?_)
  |refine d8 ?_
  |refine d9 ?_
  |refine ea ?_
  |refine gu ?_
  |fail)
 exact⟨_,rfl,rfl,rfl⟩
end Go.Proofs.YtobacplonkjigaaDoor
namespace Go.Proofs.YtobacplonkjigaaDoor
open Go.RowKit P
theorem Jp{P:Program}{f:FuncId}{us:List AV}{o:Bool}{sz:Nat}{l:List (List AV)}(h:ai P f us [] (fun out H=>out=.ret (.sl o sz l)∧H=[])):ai P f us [] (fun out H=>out=.ret (.sl false sz l)∧H=[]):=
 ⟨h.1,fun F X vs hs=>(h.2 F X vs hs).mono fun e w' ⟨X',out,H',h1,⟨h2,h3⟩,h4,h5⟩=>by
  subst h2
  subst h3
  obtain⟨v,k1,k2⟩:=h4
  exact⟨X',_,[],h1,⟨rfl,rfl⟩,⟨v,k1,k2.le ⟨rfl,⟨⟨_,aH,.rd _ _ _⟩,trivial⟩,trivial,rfl⟩⟩,h5⟩⟩
def jM(N:Nat)(l:List VLabel)(nm v:List UInt8):Option (List VLabel):=match gE N l nm with
 |none=>none
 |some (i,ok)=>if ok=false∧i=(l.length:Int)∧l≠[] ∧v≠[] ∧l.length < 400000 then some (l++ [⟨nm,v⟩]) else none
attribute [local irreducible] ai
theorem L6{N:Nat}(l:List VLabel)(nm v:List UInt8){r:List VLabel}(h:jM N l nm v=some r):ai Tryd.prog 45 [.sl false 2 (gM l),.v (.string (mkB nm)),.v (.string (mkB v))] [] (fun out H=>out=.ret (.sl false 2 (gM r))∧H=[]):=by
 unfold jM at h
 split at h
 ·cases h
 ·rename_i i ok hf
  split at h
  ·rename_i hc
   obtain⟨h1,h2,h3,h4,h5⟩:=hc
   cases h
   cases l with
   |nil=>exact absurd rfl h3
   |cons a l=>
    simp only[List.length_cons] at h5
    exact Jp (Qk a l nm v (by omega) (by rw[hf,h1,h2];rfl) h4)
  ·cases h
def CD(r:List VLabel):TV EE.T:=.a (.d (.sl (.nam 2)) r)
def pr(N:Nat):List (TV EE.T)→PV EE.T
 | [u0,u1,u2] =>match eB (.sl (.nam 2)) u0,eB .str u1,eB .str u2 with
   |some x0,some x1,some x2=>.opt (jM N x0 x1 x2) CD
   |_,_,_=>.bad
 |_=>.bad
theorem yn(N:Nat)(us:List (TV EE.T)):(pr N us).ok fun u=>∀ρ,ai Tryd.prog 45 (us.map (TV.to EE.toEnc ρ)) [] (fun out H=>out=.ret (u.to EE.toEnc ρ)∧H=[]):=by
 unfold pr
 split
 ·split
  ·rename_i u0 u1 u2 _ _ _ x0 x1 x2 h0 h1 h2
   intro z hz ρ
   refine bq (us':=([.a (.d (.sl (.nam 2)) x0),.a (.d .str x1),.a (.d .str x2)] :List (TV EE.T))) ⟨bb h0 ρ,bb h1 ρ,bb h2 ρ,trivial⟩ ?_
   exact L6 x0 x1 x2 hz
  ·trivial
 ·trivial
end Go.Proofs.YtobacplonkjigaaDoor
namespace Go.Proofs.YtobacplonkjigaaDoor
open Go.RowKit P
set_option maxRecDepth 100000
def fc(N:Nat)(x0:List UInt8):Option (List UInt8):=
 (oG x0 0 (if 100 < (x0.length:Int) then 100 else(x0.length:Int))).bind fun z1=>
 some z1
abbrev bL:=(List VLabel) × Bool
def jP(N:Nat):Nat→(List VLabel)→(List UInt8)→(List (List UInt8))→(List (List UInt8))→Int→Int→VRule→Option (PR bL)
 |0,_,_,_,_,_,_,_=>none
 |n+1,x0,x3,x11,x35,x36,x37,b5=>
  bif decide (x37 < x36) then
   (bN x35 x37).bind fun z6=>
   (fc N z6).bind fun z7=>
   (bN x11 x37).bind fun z8=>
   none
  else
   (fc N x3).bind fun z9=>
   (iX N b5.Replacement z9 x11).bind fun z10=>
   (fc N z10.1).bind fun z11=>
   (jM N x0 b5.Target z11).bind fun z12=>
   some (.ok (z12,true))
def mb(N:Nat)(x0:List VLabel)(x1:VRule)(x2:Option VMask)(x3:List UInt8):Option (PR bL):=
 (dU N x2 x3).bind fun z1=>
 match z1 with
 |.pan vz1=>
  some (.pan vz1)
 |.ok z2=>
  bif !z2.1 then
   some (.ok (x0,true))
  else
   (iX N x1.Replacement x3 z2.2).bind fun z3=>
   bif z3.2 != 0 then
    jP N N x0 x3 z2.2 z2.2 (z2.2.length:Int) 0 x1
   else
    (fc N z3.1).bind fun z4=>
    (jM N x0 x1.Target z4).bind fun z5=>
    some (.ok (z5,true))
set_option maxRecDepth 100000
def nW(r:List UInt8):TV EE.T:=.a (.d .str r)
def Gm(r:List UInt8):RL EE.T:=.ret (nW r) []
def Wo:Lvs:=⟨[],[],[],[],false,[],[],[],[]⟩
def TY:List ResultVar:=[.tmp 2]
def Ug(N:Nat):Gam EE:=⟨[],EQT,[],[]⟩
theorem SA(N:Nat):GOk Tryd.prog TT EE (Ug N):=GOk.nil bP
def R7(c:Code):List It2:=[.c c]
def RM(x0:List UInt8):TS EE.T:=⟨8,[(0,.a (.d .str x0))],[],[]⟩
abbrev TZ(N:Nat)(r:List UInt8)(k:List It2)(s:TS EE.T):Prop:=eN (Y:=TT) EE (Ug N) Wo TY (fun u=>u=Gm r) k s
def Wj(x:List UInt8):Tree (Lf EE.T × Option (List UInt8)):=.leaf (.done (Gm x),some x)
theorem RB{N:Nat}{r:List UInt8}(x0:List UInt8)(h:fc N x0=some r):TZ N r (R7 (aa 0 Tryd.f44)) (RM x0):=
 am (m:=4000) (t:=
 .bnd (oG x0 0 (if 100 < (x0.length:Int) then 100 else(x0.length:Int))) fun z1=>
 Wj z1) (by kernel_rfl) (by kernel_rfl) h (fun _=>ay (enc:=Gm) rfl)
theorem yX{N:Nat}(x0:List UInt8){r:List UInt8}(h:fc N x0=some r)(ρ:Rn):ai Tryd.prog 44 (([.a (.d .str x0)] :List (TV EE.T)).map (TV.to EE.toEnc ρ)) [] (fun out H=>out=.ret ((nW r).to EE.toEnc ρ)∧H=[]):=
 (ip (aa 0 Tryd.f44) 8 mixed (SA N) Tryd.func44 (by kernel_rfl) rfl rfl rfl rfl (RB x0 h) ρ).mono fun out H h=>bQ.ret rfl h
def nX(N:Nat):List (TV EE.T)→PV EE.T
 | [u0] =>match eB .str u0 with
   |some x0=>.opt (fc N x0) nW
   |_=>.bad
 |_=>.bad
theorem wA(N:Nat)(us:List (TV EE.T)):(nX N us).ok fun u=>∀ρ,ai Tryd.prog 44 (us.map (TV.to EE.toEnc ρ)) [] (fun out H=>out=.ret (u.to EE.toEnc ρ)∧H=[]):=by
 unfold nX
 split
 ·split
  ·rename_i h0
   intro z hz ρ;refine bq ?_ (yX _ hz ρ);exact⟨bb h0 ρ,trivial⟩
  ·trivial
 ·trivial
def nO(r:bL):TV EE.T:=.tu [.a (.d (.sl (.nam 2)) r.1),.a (.d .bool r.2)]
def Rr(r:bL):List (Nat × TB EE.T):=[]
def vC(r:PR bL):RL EE.T:=match r with
 |.ok z=>.ret (nO z) (Rr z)
 |.pan v=>.pan v
def U1:Lvs:=⟨[(11,⟨[(0,false),(3,false),(5,false),(11,false)],[],[(5,(some 3,[]))],[]⟩),(12,⟨[(0,false),(5,false),(12,false)],[],[(5,(some 3,[]))],[]⟩)],[(7,⟨[(0,false),(3,false),(5,false),(11,false),(35,false),(36,false),(37,false)],[],[(5,(some 3,[]))],[]⟩)],[],[],false,[],[],[],[]⟩
def UW:List ResultVar:=[.tmp 8,.tmp 9]
def Vg(N:Nat):Gam EE:=⟨[⟨45,pr N⟩,⟨43,ol N⟩,⟨44,nX N⟩],EQT,[⟨25,jF N⟩],[]⟩
theorem RF(N:Nat):GOk Tryd.prog TT EE (Vg N):=GOk.cons (yn N) (GOk.cons (wJ N) (GOk.cons (wA N) (GOk.consx (kK N) (GOk.nil bP))))
def J6(c:Code):List It2:=atL 7 c
def Od(x0:List VLabel)(x3:List UInt8)(x11:List (List UInt8))(x35:List (List UInt8))(x36:Int)(x37:Int)(b5:VRule):TS EE.T:=⟨63,[(0,.a (.d (.sl (.nam 2)) x0)),(3,.a (.d .str x3)),(5,.a (.box 5 0)),(11,.a (.d (.sl .str) x11)),(35,.a (.d (.sl .str) x35)),(36,.a (.d (.int .i64) x36)),(37,.a (.d (.int .i64) x37))],[(5,.cs (ga EE (.nam 3) b5))],[]⟩
def SX(c:Code):List It2:=[.c c]
def SS(x0:List VLabel)(x1:VRule)(x2:Option VMask)(x3:List UInt8):TS EE.T:=⟨63,[(0,.a (.d (.sl (.nam 2)) x0)),(1,.ag (ga EE (.nam 3) x1)),(2,.a (.d (.ptr (.nam 5)) x2)),(3,.a (.d .str x3))],[],[]⟩
def Sz(c:Code)(f:(List VLabel)→(List UInt8)→(List (List UInt8))→(List (List UInt8))→Int→Int→VRule→Option (PR bL))(x0:List VLabel)(x3:List UInt8)(x11:List (List UInt8))(x35:List (List UInt8))(x36:Int)(x37:Int)(b5:VRule):Tree (Lf EE.T × Option (PR bL)):=.leaf (.go (J6 c) (Od x0 x3 x11 x35 x36 x37 b5),f x0 x3 x11 x35 x36 x37 b5)
abbrev Rb(N:Nat)(r:PR bL)(k:List It2)(s:TS EE.T):Prop:=eN (Y:=TT) EE (Vg N) U1 UW (fun u=>u=vC r) k s
def Ha(x:PR bL):Tree (Lf EE.T × Option (PR bL)):=.leaf (.done (vC x),some x)
theorem RH{N:Nat}{r:PR bL}:∀ (n:Nat) (x0:List VLabel) (x3:List UInt8) (x11:List (List UInt8)) (x35:List (List UInt8)) (x36:Int) (x37:Int) (b5:VRule),jP N n x0 x3 x11 x35 x36 x37 b5=some r→Rb N r (J6 (aa 0 Tryd.f23)) (Od x0 x3 x11 x35 x36 x37 b5)
 |0,_,_,_,_,_,_,_,h=>by cases h
 |n+1,x0,x3,x11,x35,x36,x37,b5,h=>am (m:=4000) (t:=
  .cond (decide (x37 < x36))
  (
   .bnd (bN x35 x37) fun z6=>
   .bnd (fc N z6) fun z7=>
   .bnd (bN x11 x37) fun z8=>
   .fail)
  (
   .bnd (fc N x3) fun z9=>
   .bnd (iX N b5.Replacement z9 x11) fun z10=>
   .bnd (fc N z10.1) fun z11=>
   .bnd (jM N x0 b5.Target z11) fun z12=>
   Ha (.ok (z12,true)))) (by kernel_rfl) (by kernel_rfl) h (⟨fun _=>fun _=>fun _=>trivial,fun _=>fun _=>fun _=>fun _=>ay (enc:=vC) rfl⟩)
theorem TK{N:Nat}{r:PR bL}(x0:List VLabel)(x1:VRule)(x2:Option VMask)(x3:List UInt8)(h:mb N x0 x1 x2 x3=some r):Rb N r (SX (aa 0 Tryd.f23)) (SS x0 x1 x2 x3):=
 am (m:=4000) (t:=
 .bnd (dU N x2 x3) fun z1=>
 .sm z1 (fun z2=>
  .cond (!z2.1)
  (
   Ha (.ok (x0,true)))
  (
   .bnd (iX N x1.Replacement x3 z2.2) fun z3=>
   .cond (z3.2 != 0)
   (
    Sz (aa 0 Tryd.f23) (jP N N) x0 x3 z2.2 z2.2 (z2.2.length:Int) 0 x1)
   (
    .bnd (fc N z3.1) fun z4=>
    .bnd (jM N x0 x1.Target z4) fun z5=>
    Ha (.ok (z5,true))))) (fun vz1=>
  Ha (.pan vz1))) (by kernel_rfl) (by kernel_rfl) h (fun _=>⟨fun _=>⟨ay (enc:=vC) rfl,fun _=>⟨fun h=>RH N _ _ _ _ _ _ _ h,fun _=>fun _=>ay (enc:=vC) rfl⟩⟩,fun _=>ay (enc:=vC) rfl⟩)
def Uy(x0:List VLabel)(x1:VRule)(x2:Option VMask)(x3:List UInt8):List (TV EE.T):=[.a (.d (.sl (.nam 2)) x0),.ag (ga EE (.nam 3) x1),.a (.d (.ptr (.nam 5)) x2),.a (.d .str x3)]
def Q9(x0:List VLabel)(x1:VRule)(x2:Option VMask)(x3:List UInt8):List (Nat × TB EE.T):=[]
theorem sT{N:Nat}(x0:List VLabel)(x1:VRule)(x2:Option VMask)(x3:List UInt8){r:PR bL}(h:mb N x0 x1 x2 x3=some r)(ρ:Rn)(hi:Inj ρ (Q9 x0 x1 x2 x3)):ai Tryd.prog 23 ((Uy x0 x1 x2 x3).map (TV.to EE.toEnc ρ)) (hTo EE.toEnc ρ (Q9 x0 x1 x2 x3)) (fun out H=>match r with|.ok z=>out=.ret ((nO z).to EE.toEnc ρ)∧H=hTo EE.toEnc ρ (Rr z)|.pan v=>out=.pan v):=
 (fA (aa 0 Tryd.f23) 63 mixed (RF N) Tryd.func23 (by kernel_rfl) rfl rfl rfl rfl (TK x0 x1 x2 x3 h) ρ hi).mono fun out H h=>by cases r with|ok z=>exact bQ.retH rfl rfl h|pan v=>exact bQ.pan h
theorem ik{P:Program}{T:Tys P}{σ:AS}{t ty:TypeId}{x y z:Operand}{pos:String}{af:Array Edge}{g:Option (Nat × Bool)}{kt et:TypeId}{k:Nat}{l:List (Int × AV)}{key:Int}{u:AV}(hx:opV σ x=some (.v (.map (some k))))(hb:look σ.h k=some [imap l])(hy:opV σ y=some (.v (.int .i64 key)))(hz:opV σ z=some u)(ht:look T.ty t=some (.map kt et))(hk:look T.ty kt=some (.int .i64)){l':List (Int × AV)}(he:iset l key u.rd=l'){R:AS→Prop}(hR:R (σ.setc k [imap l'])):
  cy P ⟨none,.insert t x y z,ty,pos,af,g⟩ σ R:=fun F X a hs=>by
 have h:cy P ⟨none,.mapUpdate t x y z,ty,pos,af,g⟩ σ R:=uw hx hb hy hz ht hk (he ▸ hR)
 exact h F X a hs
theorem uH{P:Program}{T:Tys P}{σ:AS}{t ty:TypeId}{x y:Operand}{pos:String}{af:Array Edge}{g:Option (Nat × Bool)}{d:Option Tmp}{kt et:TypeId}{zv:Value}{k:Nat}{l:List (Int × AV)}{key:Int}{u:AV}(hx:opV σ x=some (.v (.map (some k))))(hb:look σ.h k=some [imap l])(hy:opV σ y=some (.v (.int .i64 key)))(ht:look T.ty t=some (.map kt et))(hk:look T.ty kt=some (.int .i64))(hz:look T.zr et=some zv)(hpz:(cst zv).isSl=false)(he:iget l key=some u):OpV P ⟨d,.lookup t x y false,ty,pos,af,g⟩ σ u.rd:=by
 have h:=r7 (P:=P) (d:=d) (ty:=ty) (pos:=pos) (af:=af) (g:=g) hx hb hy ht hk hz hpz
 rw[he] at h
 exact h
section
attribute [local irreducible] AS.nf OpV aY Stk lz vU ai cy v6 v8 Awp Fk D9 F2
def KI:List (Int × AV):=[(1,.v (.func (.func 23) #[] #[])),(2,.v (.func (.func 24) #[] #[])),(3,.v (.func (.func 26) #[] #[])),(4,.v (.func (.func 27) #[] #[])),(5,.v (.func (.func 28) #[] #[])),(6,.v (.func (.func 29) #[] #[])),(7,.v (.func (.func 31) #[] #[]))]
set_option maxHeartbeats 2000000
set_option maxRecDepth 100000 in
theorem OW(kd:Int)(f:FuncId)(hf:iget KI kd=some (.v (.func (.func f) #[] #[]))):ai Tryd.prog 12 [.v (.int .i64 kd)] [] (fun out H=>out=.ret (.v (.func (.func f) #[] #[]))∧H=[]):=by
 refine kV _ 7 [.tmp 2] Tryd.func12 (by kernel_rfl) rfl rfl rfl rfl ?_
 dsimp only[slotsOf]
 repeat (first
  | ((first|apply lP|apply iS);(next=>(first| (simp only[go_sem,Nat.reduceBEq,Nat.reduceEqDiff,reduceIte,reduceCtorEq,String.reduceEq,Nat.reduceAdd,Int.reduceToNat];exact rfl)|exact rfl)))
  | (apply gd rfl rfl rfl rfl;(next=>(first
   | (refine fg (T:=TT) rfl ?_;(first|exact trivial|omega| (simp[NFL] <;> omega)))
   | (apply opk ⟨_,.move _,_,_,_,_⟩;first|exact bm (bg _) (.inl rfl)|fail)
   | (apply opk ⟨_,.lookup _ _ _ false,_,_,_,_⟩;first
    |exact gG (T:=TT) rfl aH rfl rfl rfl rfl rfl
    | (refine gG (T:=TT) rfl (bX ?_ aH) rfl rfl rfl rfl rfl;(next=>(first|assumption| (intro e;exact absurd e.symm (by assumption)))))
    | (refine gG (T:=TT) rfl (bX ?_ (bX ?_ aH)) rfl rfl rfl rfl rfl;(next=>(first|assumption| (intro e;exact absurd e.symm (by assumption))));(next=>(first|assumption| (intro e;exact absurd e.symm (by assumption)))))
    |fail)
   |fail)))
  | (refine arO _ ?_;first
   | (refine arO ⟨_,.move _,_,_,_,_⟩ ?_;first|refine dv rfl rfl rfl rfl ?_|fail)
   | (refine arO ⟨_,.assign _,_,_,_,_⟩ ?_;first
    |refine cr rfl rfl rfl rfl ?_
    |refine lX rfl rfl rfl rfl (bm (bg _) (.inr rfl)) ?_
    |fail)
   | (refine arO ⟨_,.makeMap _ _,_,_,_,_⟩ ?_;first
    | (refine dZ rfl rfl (n6 (T:=TT) rfl rfl rfl rfl ?_);intro kb hkb;(repeat (have hkn:=(jW hkb).1;replace hkb:=(jW hkb).2));(try have hkl:=lL hkb);clear hkb;refine HN ?_)
    |fail)
   |fail)
  |refine iH ?_
  | (refine arE ?_;refine gi [0,2] rfl ?_)
  |refine dM ?_
  |refine eH ?_
  |refine gk ?_
  |refine iI ?_
  |refine e9 rfl ?_
  | (refine arC (.cond _ _ _) ?_;first
   | (refine bU rfl ?_ ?_;(next=>(first|rfl| (simp only[decide_eq_true_eq,beq_iff_eq,bne_iff_ne,ge_iff_le,gt_iff_lt,ne_eq,Bool.not_eq_true',decide_eq_false_iff_not];omega))))
   | (refine bz rfl ?_ ?_;(next=>(first
    |rfl
    | (simp only[decide_eq_false_iff_not,beq_eq_false_iff_ne,bne_eq_false_iff_eq,ge_iff_le,gt_iff_lt,ne_eq,Bool.not_eq_false',decide_eq_true_eq];omega))))
   |fail)
  |refine gh ?_
  |refine eb ?_
  |refine dp rfl ?_
  |refine dq ?_
  |refine dm ?_
  | (refine arC .ret ?_;refine gQ [2] ?_)
  |refine d8 ?_
  |refine d9 ?_
  |refine ea ?_
  |refine gu ?_
  |fail)
 refine dZ rfl rfl (qt rfl rfl fun k hk=> ?_)
 refine dZ rfl rfl (ik (T:=TT) (k:=k) (l:=[]) (key:=1) (u:=.v (.func (.func 23) #[] #[])) (l':=[(1,.v (.func (.func 23) #[] #[]))]) rfl aH rfl rfl rfl rfl rfl ?_)
 refine dZ rfl rfl (ik (T:=TT) (k:=k) (l:=[(1,.v (.func (.func 23) #[] #[]))]) (key:=2) (u:=.v (.func (.func 24) #[] #[])) (l':=[(1,.v (.func (.func 23) #[] #[])),(2,.v (.func (.func 24) #[] #[]))]) rfl aH rfl rfl rfl rfl rfl ?_)
 refine dZ rfl rfl (ik (T:=TT) (k:=k) (l:=[(1,.v (.func (.func 23) #[] #[])),(2,.v (.func (.func 24) #[] #[]))]) (key:=3) (u:=.v (.func (.func 26) #[] #[])) (l':=[(1,.v (.func (.func 23) #[] #[])),(2,.v (.func (.func 24) #[] #[])),(3,.v (.func (.func 26) #[] #[]))]) rfl aH rfl rfl rfl rfl rfl ?_)
 refine dZ rfl rfl (ik (T:=TT) (k:=k) (l:=[(1,.v (.func (.func 23) #[] #[])),(2,.v (.func (.func 24) #[] #[])),(3,.v (.func (.func 26) #[] #[]))]) (key:=4) (u:=.v (.func (.func 27) #[] #[])) (l':=[(1,.v (.func (.func 23) #[] #[])),(2,.v (.func (.func 24) #[] #[])),(3,.v (.func (.func 26) #[] #[])),(4,.v (.func (.func 27) #[] #[]))]) rfl aH rfl rfl rfl rfl rfl ?_)
 refine dZ rfl rfl (ik (T:=TT) (k:=k) (l:=[(1,.v (.func (.func 23) #[] #[])),(2,.v (.func (.func 24) #[] #[])),(3,.v (.func (.func 26) #[] #[])),(4,.v (.func (.func 27) #[] #[]))]) (key:=5) (u:=.v (.func (.func 28) #[] #[])) (l':=[(1,.v (.func (.func 23) #[] #[])),(2,.v (.func (.func 24) #[] #[])),(3,.v (.func (.func 26) #[] #[])),(4,.v (.func (.func 27) #[] #[])),(5,.v (.func (.func 28) #[] #[]))]) rfl aH rfl rfl rfl rfl rfl ?_)
 refine dZ rfl rfl (ik (T:=TT) (k:=k) (l:=[(1,.v (.func (.func 23) #[] #[])),(2,.v (.func (.func 24) #[] #[])),(3,.v (.func (.func 26) #[] #[])),(4,.v (.func (.func 27) #[] #[])),(5,.v (.func (.func 28) #[] #[]))]) (key:=6) (u:=.v (.func (.func 29) #[] #[])) (l':=[(1,.v (.func (.func 23) #[] #[])),(2,.v (.func (.func 24) #[] #[])),(3,.v (.func (.func 26) #[] #[])),(4,.v (.func (.func 27) #[] #[])),(5,.v (.func (.func 28) #[] #[])),(6,.v (.func (.func 29) #[] #[]))]) rfl aH rfl rfl rfl rfl rfl ?_)
 refine dZ rfl rfl (ik (T:=TT) (k:=k) (l:=[(1,.v (.func (.func 23) #[] #[])),(2,.v (.func (.func 24) #[] #[])),(3,.v (.func (.func 26) #[] #[])),(4,.v (.func (.func 27) #[] #[])),(5,.v (.func (.func 28) #[] #[])),(6,.v (.func (.func 29) #[] #[]))]) (key:=7) (u:=.v (.func (.func 31) #[] #[])) (l':=[(1,.v (.func (.func 23) #[] #[])),(2,.v (.func (.func 24) #[] #[])),(3,.v (.func (.func 26) #[] #[])),(4,.v (.func (.func 27) #[] #[])),(5,.v (.func (.func 28) #[] #[])),(6,.v (.func (.func 29) #[] #[])),(7,.v (.func (.func 31) #[] #[]))]) rfl aH rfl rfl rfl rfl rfl ?_)
 refine gd rfl rfl rfl rfl (yO (u:=.v (.map (some k))) rfl rfl) ?_
 refine gd rfl rfl rfl rfl (yO (u:=.v (.int .i64 kd)) rfl rfl) ?_
 refine gd (u:=.v (.func (.func f) #[] #[])) rfl rfl rfl rfl (uH (T:=TT) (k:=k) (l:=KI) (key:=kd) rfl aH rfl rfl rfl rfl rfl hf) ?_
 repeat (first
  | ((first|apply lP|apply iS);(next=>(first| (simp only[go_sem,Nat.reduceBEq,Nat.reduceEqDiff,reduceIte,reduceCtorEq,String.reduceEq,Nat.reduceAdd,Int.reduceToNat];exact rfl)|exact rfl)))
  | (refine arC .ret ?_;refine Fi [2] ?_)
  | (apply gd rfl rfl rfl rfl;(next=>(first
   | (refine fg (T:=TT) rfl ?_;(first|exact trivial|omega| (simp[NFL] <;> omega)))
   | (apply opk ⟨_,.move _,_,_,_,_⟩;first|exact bm (bg _) (.inl rfl)|fail)
   | (apply opk ⟨_,.lookup _ _ _ false,_,_,_,_⟩;first
    |exact gG (T:=TT) rfl aH rfl rfl rfl rfl rfl
    | (refine gG (T:=TT) rfl (bX ?_ aH) rfl rfl rfl rfl rfl;(next=>(first|assumption| (intro e;exact absurd e.symm (by assumption)))))
    | (refine gG (T:=TT) rfl (bX ?_ (bX ?_ aH)) rfl rfl rfl rfl rfl;(next=>(first|assumption| (intro e;exact absurd e.symm (by assumption))));(next=>(first|assumption| (intro e;exact absurd e.symm (by assumption)))))
    |fail)
   |fail)))
  | (refine arO _ ?_;first
   | (refine arO ⟨_,.move _,_,_,_,_⟩ ?_;first|refine dv rfl rfl rfl rfl ?_|fail)
   | (refine arO ⟨_,.assign _,_,_,_,_⟩ ?_;first
    |refine cr rfl rfl rfl rfl ?_
    |refine lX rfl rfl rfl rfl (bm (bg _) (.inr rfl)) ?_
    |fail)
   | (refine arO ⟨_,.makeMap _ _,_,_,_,_⟩ ?_;first
    | (refine dZ rfl rfl (n6 (T:=TT) rfl rfl rfl rfl ?_);intro kb hkb;(repeat (have hkn:=(jW hkb).1;replace hkb:=(jW hkb).2));(try have hkl:=lL hkb);clear hkb;refine HN ?_)
    |fail)
   |fail)
  |refine iH ?_
  | (refine arE ?_;refine gi [0,2] rfl ?_)
  |refine dM ?_
  |refine eH ?_
  |refine gk ?_
  |refine iI ?_
  |refine e9 rfl ?_
  | (refine arC (.cond _ _ _) ?_;first
   | (refine bU rfl ?_ ?_;(next=>(first|rfl| (simp only[decide_eq_true_eq,beq_iff_eq,bne_iff_ne,ge_iff_le,gt_iff_lt,ne_eq,Bool.not_eq_true',decide_eq_false_iff_not];omega))))
   | (refine bz rfl ?_ ?_;(next=>(first
    |rfl
    | (simp only[decide_eq_false_iff_not,beq_eq_false_iff_ne,bne_eq_false_iff_eq,ge_iff_le,gt_iff_lt,ne_eq,Bool.not_eq_false',decide_eq_true_eq];omega))))
   |fail)
  |refine gh ?_
  |refine eb ?_
  |refine dp rfl ?_
  |refine dq ?_
  |refine dm ?_
  | (refine arC .ret ?_;refine gQ [2] ?_)
  |refine d8 ?_
  |refine d9 ?_
  |refine ea ?_
  |refine gu ?_
  |fail)
 exact⟨_,rfl,rfl,rfl⟩
end
theorem CN{kd:Int}{f:FuncId}(hf:iget KI kd=some (.v (.func (.func f) #[] #[]))):ai Tryd.prog 12 [.v (.int .i64 kd)] [] (fun out H=>out=.ret (.fn f [])∧H=[]):=by
 refine xr ⟨_,Tryd.func12,by kernel_rfl,rfl⟩ (fun X=>.fn f [] #[] rfl (fun i u x h=>by cases h)) rfl fun X vs hX hv hr=> ?_
 have e0:=bF (hr 0 _ rfl)
 have ev:vs= #[.int .i64 kd] :=by
  apply Array.ext (by simpa using hv)
  intro i h1 h2
  have hi:i=0:=by simp at h2;omega
  subst hi
  simp at h1 e0
  simpa[h1] using e0
 rw[ev]
 refine(lk (X:=X) (vs:=[.int .i64 kd]) (OW kd f hf) rfl hX ?_).mono ?_
 ·intro i u x hu hx
  match i,hu,hx with
  |0,hu,hx=>simp at hu hx;subst hu hx;exact⟨.v _,rfl⟩
  |i+1,hu,hx=>simp at hu
 ·rintro e w' ⟨X',y,rfl,rfl,hr,hb,_⟩
  exact⟨by rw[bF hr],hb⟩
def kP(N:Nat)(k:Int):Option Unit:=if k=1 then some () else none
def vG(_:Unit):TV EE.T:=.fn 23 []
def lg(N:Nat):List (TV EE.T)→PV EE.T
 | [u0] =>match eB (.int .i64) u0 with
   |some x0=>.opt (kP N x0) vG
   |_=>.bad
 |_=>.bad
theorem sH(N:Nat)(us:List (TV EE.T)):(lg N us).ok fun u=>∀ρ,ai Tryd.prog 12 (us.map (TV.to EE.toEnc ρ)) [] (fun out H=>out=.ret (u.to EE.toEnc ρ)∧H=[]):=by
 unfold lg
 split
 ·split
  ·rename_i u0 x0 h0
   intro z hz ρ
   refine bq (us':=([.a (.d (.int .i64) x0)] :List (TV EE.T))) ⟨bb h0 ρ,trivial⟩ ?_
   unfold kP at hz
   split at hz
   ·rename_i e
    cases hz
    subst e
    exact CN rfl
   ·cases hz
  ·trivial
 ·trivial
def kU(N:Nat)(k:Int):Option Unit:=if k=2 then some () else none
def vO(_:Unit):TV EE.T:=.fn 24 []
def li(N:Nat):List (TV EE.T)→PV EE.T
 | [u0] =>match eB (.int .i64) u0 with
   |some x0=>.opt (kU N x0) vO
   |_=>.bad
 |_=>.bad
theorem sv(N:Nat)(us:List (TV EE.T)):(li N us).ok fun u=>∀ρ,ai Tryd.prog 12 (us.map (TV.to EE.toEnc ρ)) [] (fun out H=>out=.ret (u.to EE.toEnc ρ)∧H=[]):=by
 unfold li
 split
 ·split
  ·rename_i u0 x0 h0
   intro z hz ρ
   refine bq (us':=([.a (.d (.int .i64) x0)] :List (TV EE.T))) ⟨bb h0 ρ,trivial⟩ ?_
   unfold kU at hz
   split at hz
   ·rename_i e
    cases hz
    subst e
    exact CN rfl
   ·cases hz
  ·trivial
 ·trivial
def kD(N:Nat)(k:Int):Option Unit:=if k=3 then some () else none
def vo(_:Unit):TV EE.T:=.fn 26 []
def lE(N:Nat):List (TV EE.T)→PV EE.T
 | [u0] =>match eB (.int .i64) u0 with
   |some x0=>.opt (kD N x0) vo
   |_=>.bad
 |_=>.bad
theorem sJ(N:Nat)(us:List (TV EE.T)):(lE N us).ok fun u=>∀ρ,ai Tryd.prog 12 (us.map (TV.to EE.toEnc ρ)) [] (fun out H=>out=.ret (u.to EE.toEnc ρ)∧H=[]):=by
 unfold lE
 split
 ·split
  ·rename_i u0 x0 h0
   intro z hz ρ
   refine bq (us':=([.a (.d (.int .i64) x0)] :List (TV EE.T))) ⟨bb h0 ρ,trivial⟩ ?_
   unfold kD at hz
   split at hz
   ·rename_i e
    cases hz
    subst e
    exact CN rfl
   ·cases hz
  ·trivial
 ·trivial
end Go.Proofs.YtobacplonkjigaaDoor
namespace Go.Proofs.YtobacplonkjigaaDoor
open Go.RowKit P
theorem CT{T:Nat→Type}(ρ:Rn):Inj ρ ([] :List (Nat × TB T)):=fun p hp=>nomatch hp
def gz(N:Nat)(x0:List VLabel)(x1:VRule)(x2:Option VMask)(x3:List UInt8):Option (List VLabel × Bool):=(jK N x0 x1 x2 x3).bind fun z=>match z with
 |.ok r=>some r
 |.pan _=>none
def qT(r:List VLabel × Bool):TV EE.T:=.tu [.a (.d (.sl (.nam 2)) r.1),.a (.d .bool r.2)]
theorem wF{N:Nat}(x0:List VLabel)(x1:VRule)(x2:Option VMask)(x3:List UInt8){r:List VLabel × Bool}(h:gz N x0 x1 x2 x3=some r)(ρ:Rn):ai Tryd.prog 24 (([.a (.d (.sl (.nam 2)) x0),.ag (ga EE (.nam 3) x1),.a (.d (.ptr (.nam 5)) x2),.a (.d .str x3)] :List (TV EE.T)).map (TV.to EE.toEnc ρ)) [] (fun out H=>out=.ret ((qT r).to EE.toEnc ρ)∧H=[]):=by
 unfold gz at h
 obtain⟨z,hz,h⟩:=Option.bind_eq_some_iff.1 h
 cases z with
 |ok r'=>cases h;exact tc x0 x1 x2 x3 hz ρ (CT ρ)
 |pan v=>cases h
def np(N:Nat):List (TV EE.T)→PV EE.T
 | [u0,u1,u2,u3] =>match eB (.sl (.nam 2)) u0,y5 EE 3 u1,eB (.ptr (.nam 5)) u2,eB .str u3 with
   |some x0,some x1,some x2,some x3=>.opt (gz N x0 x1 x2 x3) qT
   |_,_,_,_=>.bad
 |_=>.bad
theorem vv(N:Nat)(us:List (TV EE.T)):(np N us).ok fun u=>∀ρ,ai Tryd.prog 24 (us.map (TV.to EE.toEnc ρ)) [] (fun out H=>out=.ret (u.to EE.toEnc ρ)∧H=[]):=by
 unfold np
 split
 ·split
  ·rename_i h0 h1 h2 h3
   intro z hz ρ;refine bq ?_ (wF _ _ _ _ hz ρ);exact⟨bb h0 ρ,mm h1 ρ,bb h2 ρ,bb h3 ρ,trivial⟩
  ·trivial
 ·trivial
def gw(N:Nat)(x0:List VLabel)(x1:VRule)(x2:Option VMask)(x3:List UInt8):Option (List VLabel × Bool):=(jJ N x0 x1 x2 x3).bind fun z=>match z with
 |.ok r=>some r
 |.pan _=>none
def qw(r:List VLabel × Bool):TV EE.T:=.tu [.a (.d (.sl (.nam 2)) r.1),.a (.d .bool r.2)]
theorem wk{N:Nat}(x0:List VLabel)(x1:VRule)(x2:Option VMask)(x3:List UInt8){r:List VLabel × Bool}(h:gw N x0 x1 x2 x3=some r)(ρ:Rn):ai Tryd.prog 26 (([.a (.d (.sl (.nam 2)) x0),.ag (ga EE (.nam 3) x1),.a (.d (.ptr (.nam 5)) x2),.a (.d .str x3)] :List (TV EE.T)).map (TV.to EE.toEnc ρ)) [] (fun out H=>out=.ret ((qw r).to EE.toEnc ρ)∧H=[]):=by
 unfold gw at h
 obtain⟨z,hz,h⟩:=Option.bind_eq_some_iff.1 h
 cases z with
 |ok r'=>cases h;exact sY x0 x1 x2 x3 hz ρ (CT ρ)
 |pan v=>cases h
def mT(N:Nat):List (TV EE.T)→PV EE.T
 | [u0,u1,u2,u3] =>match eB (.sl (.nam 2)) u0,y5 EE 3 u1,eB (.ptr (.nam 5)) u2,eB .str u3 with
   |some x0,some x1,some x2,some x3=>.opt (gw N x0 x1 x2 x3) qw
   |_,_,_,_=>.bad
 |_=>.bad
theorem vm(N:Nat)(us:List (TV EE.T)):(mT N us).ok fun u=>∀ρ,ai Tryd.prog 26 (us.map (TV.to EE.toEnc ρ)) [] (fun out H=>out=.ret (u.to EE.toEnc ρ)∧H=[]):=by
 unfold mT
 split
 ·split
  ·rename_i h0 h1 h2 h3
   intro z hz ρ;refine bq ?_ (wk _ _ _ _ hz ρ);exact⟨bb h0 ρ,mm h1 ρ,bb h2 ρ,bb h3 ρ,trivial⟩
  ·trivial
 ·trivial
def kH(N:Nat)(x0:List VLabel)(x1:VRule)(x2:Option VMask)(x3:List UInt8):Option (List VLabel × Bool):=(mb N x0 x1 x2 x3).bind fun z=>match z with
 |.ok r=>some r
 |.pan _=>none
def qH(r:List VLabel × Bool):TV EE.T:=.tu [.a (.d (.sl (.nam 2)) r.1),.a (.d .bool r.2)]
theorem wy{N:Nat}(x0:List VLabel)(x1:VRule)(x2:Option VMask)(x3:List UInt8){r:List VLabel × Bool}(h:kH N x0 x1 x2 x3=some r)(ρ:Rn):ai Tryd.prog 23 (([.a (.d (.sl (.nam 2)) x0),.ag (ga EE (.nam 3) x1),.a (.d (.ptr (.nam 5)) x2),.a (.d .str x3)] :List (TV EE.T)).map (TV.to EE.toEnc ρ)) [] (fun out H=>out=.ret ((qH r).to EE.toEnc ρ)∧H=[]):=by
 unfold kH at h
 obtain⟨z,hz,h⟩:=Option.bind_eq_some_iff.1 h
 cases z with
 |ok r'=>cases h;exact sT x0 x1 x2 x3 hz ρ (CT ρ)
 |pan v=>cases h
def mI(N:Nat):List (TV EE.T)→PV EE.T
 | [u0,u1,u2,u3] =>match eB (.sl (.nam 2)) u0,y5 EE 3 u1,eB (.ptr (.nam 5)) u2,eB .str u3 with
   |some x0,some x1,some x2,some x3=>.opt (kH N x0 x1 x2 x3) qH
   |_,_,_,_=>.bad
 |_=>.bad
theorem vn(N:Nat)(us:List (TV EE.T)):(mI N us).ok fun u=>∀ρ,ai Tryd.prog 23 (us.map (TV.to EE.toEnc ρ)) [] (fun out H=>out=.ret (u.to EE.toEnc ρ)∧H=[]):=by
 unfold mI
 split
 ·split
  ·rename_i h0 h1 h2 h3
   intro z hz ρ;refine bq ?_ (wy _ _ _ _ hz ρ);exact⟨bb h0 ρ,mm h1 ρ,bb h2 ρ,bb h3 ρ,trivial⟩
  ·trivial
 ·trivial
set_option maxRecDepth 100000
abbrev bj:=(List VLabel) × Bool × Int
def fK(N:Nat):Nat→(List VLabel)→(List (Option VMask))→(List VRule)→Int→Int→Option bj
 |0,_,_,_,_,_=>none
 |n+1,x0,x8,x46,x47,x48=>
  bif decide (x48 < x47) then
   (bN x46 x48).bind fun z6=>
   (cF N x0 z6).bind fun z7=>
   bif decide ((z7.length:Int) > 2000) then
    some (([] :List VLabel),false,2)
   else
    (kP N z6.Kind).bind fun z8=>
    (bN x8 x48).bind fun z9=>
    (kH N x0 z6 z9 z7).bind fun z10=>
    bif !z10.2 then
     some (([] :List VLabel),false,0)
    else
     bif decide ((z10.1.length:Int) > 20) then
      some (([] :List VLabel),false,2)
     else
      fK N n z10.1 x8 x46 x47 (w64 (x48+1))
  else
   some (x0,true,0)
def gg(N:Nat):Nat→(List VLabel)→(List VRule)→(List (Option VMask))→(List VRule)→Int→Int→Option bj
 |0,_,_,_,_,_,_=>none
 |n+1,x0,x1,x8,x25,x26,x27=>
  bif decide (x27 < x26) then
   (bN x25 x27).bind fun z2=>
   (cm N z2).bind fun z3=>
   bif z3.2 != 0 then
    some (([] :List VLabel),false,z3.2)
   else
    (jf 8 x8 ([z3.1] :List (Option VMask))).bind fun z4=>
    gg N n x0 x1 z4 x25 x26 (w64 (x27+1))
  else
   (aA N x0).bind fun z5=>
   fK N n z5 x8 x1 (x1.length:Int) 0
def ma(N:Nat)(x0:List VLabel)(x1:List VRule):Option bj:=
 bif decide ((x1.length:Int) > 30) then
  some (([] :List VLabel),false,2)
 else
  (cK N x0).bind fun z1=>
  bif z1 != 0 then
   some (([] :List VLabel),false,z1)
  else
   gg N N x0 x1 ([] :List (Option VMask)) x1 (x1.length:Int) 0
set_option maxRecDepth 100000
def nQ(r:bj):TV EE.T:=.tu [.a (.d (.sl (.nam 2)) r.1),.a (.d .bool r.2.1),.a (.d (.int .i64) r.2.2)]
def mw(r:bj):RL EE.T:=.ret (nQ r) []
def TP:Lvs:=⟨[(23,⟨[(0,false),(8,false),(13,false),(14,false),(15,false),(46,false),(47,false),(48,false)],[],[(14,(some 3,[]))],[]⟩)],[(8,⟨[(0,false),(1,false),(8,false),(25,false),(26,false),(27,false)],[],[],[]⟩),(17,⟨[(0,false),(8,false),(46,false),(47,false),(48,false)],[],[],[]⟩)],[],[],false,[],[],[],[]⟩
def Se:List ResultVar:=[.tmp 4,.tmp 5,.tmp 6]
def Ri(N:Nat):Gam EE:=⟨[⟨8,iT N⟩,⟨9,gF N⟩,⟨23,mI N⟩,⟨11,gZ N⟩,⟨12,lg N⟩,⟨10,bZ N⟩],EQT,[],[]⟩
theorem Px(N:Nat):GOk Tryd.prog TT EE (Ri N):=GOk.cons (lG N) (GOk.cons (jp N) (GOk.cons (vn N) (GOk.cons (jR N) (GOk.cons (sH N) (GOk.cons (dz N) (GOk.nil bP))))))
def DH(c:Code):List It2:=atL 17 c
def Dy(x0:List VLabel)(x8:List (Option VMask))(x46:List VRule)(x47:Int)(x48:Int):TS EE.T:=⟨80,[(0,.a (.d (.sl (.nam 2)) x0)),(8,.a (.own (.ptr (.nam 5)) x8)),(46,.a (.d (.sl (.nam 3)) x46)),(47,.a (.d (.int .i64) x47)),(48,.a (.d (.int .i64) x48))],[],[]⟩
def HW(c:Code):List It2:=atL 8 c
def HX(x0:List VLabel)(x1:List VRule)(x8:List (Option VMask))(x25:List VRule)(x26:Int)(x27:Int):TS EE.T:=⟨80,[(0,.a (.d (.sl (.nam 2)) x0)),(1,.a (.d (.sl (.nam 3)) x1)),(8,.a (.own (.ptr (.nam 5)) x8)),(25,.a (.d (.sl (.nam 3)) x25)),(26,.a (.d (.int .i64) x26)),(27,.a (.d (.int .i64) x27))],[],[]⟩
def Qq(c:Code):List It2:=[.c c]
def QB(x0:List VLabel)(x1:List VRule):TS EE.T:=⟨80,[(0,.a (.d (.sl (.nam 2)) x0)),(1,.a (.d (.sl (.nam 3)) x1))],[],[]⟩
def Dc(c:Code)(f:(List VLabel)→(List (Option VMask))→(List VRule)→Int→Int→Option bj)(x0:List VLabel)(x8:List (Option VMask))(x46:List VRule)(x47:Int)(x48:Int):Tree (Lf EE.T × Option bj):=.leaf (.go (DH c) (Dy x0 x8 x46 x47 x48),f x0 x8 x46 x47 x48)
def GX(c:Code)(f:(List VLabel)→(List VRule)→(List (Option VMask))→(List VRule)→Int→Int→Option bj)(x0:List VLabel)(x1:List VRule)(x8:List (Option VMask))(x25:List VRule)(x26:Int)(x27:Int):Tree (Lf EE.T × Option bj):=.leaf (.go (HW c) (HX x0 x1 x8 x25 x26 x27),f x0 x1 x8 x25 x26 x27)
abbrev F3(N:Nat)(r:bj)(k:List It2)(s:TS EE.T):Prop:=eN (Y:=TT) EE (Ri N) TP Se (fun u=>u=mw r) k s
def sI(x:bj):Tree (Lf EE.T × Option bj):=.leaf (.done (mw x),some x)
theorem Et{N:Nat}{r:bj}:∀ (n:Nat) (x0:List VLabel) (x8:List (Option VMask)) (x46:List VRule) (x47:Int) (x48:Int),fK N n x0 x8 x46 x47 x48=some r→F3 N r (DH (aa 0 Tryd.f6)) (Dy x0 x8 x46 x47 x48)
 |0,_,_,_,_,_,h=>by cases h
 |n+1,x0,x8,x46,x47,x48,h=>am (m:=4000) (t:=
  .cond (decide (x48 < x47))
  (
   .bnd (bN x46 x48) fun z6=>
   .bnd (cF N x0 z6) fun z7=>
   .cond (decide ((z7.length:Int) > 2000))
   (
    sI (([] :List VLabel),false,2))
   (
    .bnd (kP N z6.Kind) fun z8=>
    .bnd (bN x8 x48) fun z9=>
    .bnd (kH N x0 z6 z9 z7) fun z10=>
    .cond (!z10.2)
    (
     sI (([] :List VLabel),false,0))
    (
     .cond (decide ((z10.1.length:Int) > 20))
     (
      sI (([] :List VLabel),false,2))
     (
      Dc (aa 0 Tryd.f6) (fK N n) z10.1 x8 x46 x47 (w64 (x48+1))))))
  (
   sI (x0,true,0))) (by kernel_rfl) (by kernel_rfl) h (⟨fun _=>fun _=>⟨ay (enc:=mw) rfl,fun _=>fun _=>fun _=>⟨ay (enc:=mw) rfl,⟨ay (enc:=mw) rfl,fun h=>(Et n) _ _ _ _ _ h⟩⟩⟩,ay (enc:=mw) rfl⟩)
theorem HV{N:Nat}{r:bj}:∀ (n:Nat) (x0:List VLabel) (x1:List VRule) (x8:List (Option VMask)) (x25:List VRule) (x26:Int) (x27:Int),gg N n x0 x1 x8 x25 x26 x27=some r→F3 N r (HW (aa 0 Tryd.f6)) (HX x0 x1 x8 x25 x26 x27)
 |0,_,_,_,_,_,_,h=>by cases h
 |n+1,x0,x1,x8,x25,x26,x27,h=>am (m:=4000) (t:=
  .cond (decide (x27 < x26))
  (
   .bnd (bN x25 x27) fun z2=>
   .bnd (cm N z2) fun z3=>
   .cond (z3.2 != 0)
   (
    sI (([] :List VLabel),false,z3.2))
   (
    .bnd (jf 8 x8 ([z3.1] :List (Option VMask))) fun z4=>
    GX (aa 0 Tryd.f6) (gg N n) x0 x1 z4 x25 x26 (w64 (x27+1))))
  (
   .bnd (aA N x0) fun z5=>
   Dc (aa 0 Tryd.f6) (fK N n) z5 x8 x1 (x1.length:Int) 0)) (by kernel_rfl) (by kernel_rfl) h (⟨fun _=>fun _=>⟨ay (enc:=mw) rfl,fun _=>fun h=>(HV n) _ _ _ _ _ _ h⟩,fun _=>fun h=>Et n _ _ _ _ _ h⟩)
theorem P0{N:Nat}{r:bj}(x0:List VLabel)(x1:List VRule)(h:ma N x0 x1=some r):F3 N r (Qq (aa 0 Tryd.f6)) (QB x0 x1):=
 am (m:=4000) (t:=
 .cond (decide ((x1.length:Int) > 30))
 (
  sI (([] :List VLabel),false,2))
 (
  .bnd (cK N x0) fun z1=>
  .cond (z1 != 0)
  (
   sI (([] :List VLabel),false,z1))
  (
   GX (aa 0 Tryd.f6) (gg N N) x0 x1 ([] :List (Option VMask)) x1 (x1.length:Int) 0))) (by kernel_rfl) (by kernel_rfl) h (⟨ay (enc:=mw) rfl,fun _=>⟨ay (enc:=mw) rfl,fun h=>HV N _ _ _ _ _ _ h⟩⟩)
theorem te{N:Nat}(x0:List VLabel)(x1:List VRule){r:bj}(h:ma N x0 x1=some r)(ρ:Rn):ai Tryd.prog 6 (([.a (.d (.sl (.nam 2)) x0),.a (.d (.sl (.nam 3)) x1)] :List (TV EE.T)).map (TV.to EE.toEnc ρ)) [] (fun out H=>out=.ret ((nQ r).to EE.toEnc ρ)∧H=[]):=
 (ip (aa 0 Tryd.f6) 80 mixed (Px N) Tryd.func6 (by kernel_rfl) rfl rfl rfl rfl (P0 x0 x1 h) ρ).mono fun out H h=>bQ.ret rfl h
set_option maxRecDepth 100000
abbrev bh:=(List VLabel) × Bool × Int
def cB(N:Nat):Nat→(List VLabel)→(List (Option VMask))→(List VRule)→Int→Int→Option bh
 |0,_,_,_,_,_=>none
 |n+1,x0,x8,x46,x47,x48=>
  bif decide (x48 < x47) then
   (bN x46 x48).bind fun z6=>
   (cF N x0 z6).bind fun z7=>
   bif decide ((z7.length:Int) > 2000) then
    some (([] :List VLabel),false,2)
   else
    (kU N z6.Kind).bind fun z8=>
    (bN x8 x48).bind fun z9=>
    (gz N x0 z6 z9 z7).bind fun z10=>
    bif !z10.2 then
     some (([] :List VLabel),false,0)
    else
     bif decide ((z10.1.length:Int) > 20) then
      some (([] :List VLabel),false,2)
     else
      cB N n z10.1 x8 x46 x47 (w64 (x48+1))
  else
   some (x0,true,0)
def cL(N:Nat):Nat→(List VLabel)→(List VRule)→(List (Option VMask))→(List VRule)→Int→Int→Option bh
 |0,_,_,_,_,_,_=>none
 |n+1,x0,x1,x8,x25,x26,x27=>
  bif decide (x27 < x26) then
   (bN x25 x27).bind fun z2=>
   (cm N z2).bind fun z3=>
   bif z3.2 != 0 then
    some (([] :List VLabel),false,z3.2)
   else
    (jf 8 x8 ([z3.1] :List (Option VMask))).bind fun z4=>
    cL N n x0 x1 z4 x25 x26 (w64 (x27+1))
  else
   (aA N x0).bind fun z5=>
   cB N n z5 x8 x1 (x1.length:Int) 0
def ew(N:Nat)(x0:List VLabel)(x1:List VRule):Option bh:=
 bif decide ((x1.length:Int) > 30) then
  some (([] :List VLabel),false,2)
 else
  (cK N x0).bind fun z1=>
  bif z1 != 0 then
   some (([] :List VLabel),false,z1)
  else
   cL N N x0 x1 ([] :List (Option VMask)) x1 (x1.length:Int) 0
set_option maxRecDepth 100000
def nG(r:bh):TV EE.T:=.tu [.a (.d (.sl (.nam 2)) r.1),.a (.d .bool r.2.1),.a (.d (.int .i64) r.2.2)]
def mj(r:bh):RL EE.T:=.ret (nG r) []
def TR:Lvs:=⟨[(23,⟨[(0,false),(8,false),(13,false),(14,false),(15,false),(46,false),(47,false),(48,false)],[],[(14,(some 3,[]))],[]⟩)],[(8,⟨[(0,false),(1,false),(8,false),(25,false),(26,false),(27,false)],[],[],[]⟩),(17,⟨[(0,false),(8,false),(46,false),(47,false),(48,false)],[],[],[]⟩)],[],[],false,[],[],[],[]⟩
def RO:List ResultVar:=[.tmp 4,.tmp 5,.tmp 6]
def Rj(N:Nat):Gam EE:=⟨[⟨8,iT N⟩,⟨9,gF N⟩,⟨11,gZ N⟩,⟨12,li N⟩,⟨24,np N⟩,⟨10,bZ N⟩],EQT,[],[]⟩
theorem Po(N:Nat):GOk Tryd.prog TT EE (Rj N):=GOk.cons (lG N) (GOk.cons (jp N) (GOk.cons (jR N) (GOk.cons (sv N) (GOk.cons (vv N) (GOk.cons (dz N) (GOk.nil bP))))))
def Ek(c:Code):List It2:=atL 17 c
def Dw(x0:List VLabel)(x8:List (Option VMask))(x46:List VRule)(x47:Int)(x48:Int):TS EE.T:=⟨80,[(0,.a (.d (.sl (.nam 2)) x0)),(8,.a (.own (.ptr (.nam 5)) x8)),(46,.a (.d (.sl (.nam 3)) x46)),(47,.a (.d (.int .i64) x47)),(48,.a (.d (.int .i64) x48))],[],[]⟩
def Hn(c:Code):List It2:=atL 8 c
def GY(x0:List VLabel)(x1:List VRule)(x8:List (Option VMask))(x25:List VRule)(x26:Int)(x27:Int):TS EE.T:=⟨80,[(0,.a (.d (.sl (.nam 2)) x0)),(1,.a (.d (.sl (.nam 3)) x1)),(8,.a (.own (.ptr (.nam 5)) x8)),(25,.a (.d (.sl (.nam 3)) x25)),(26,.a (.d (.int .i64) x26)),(27,.a (.d (.int .i64) x27))],[],[]⟩
def P3(c:Code):List It2:=[.c c]
def O3(x0:List VLabel)(x1:List VRule):TS EE.T:=⟨80,[(0,.a (.d (.sl (.nam 2)) x0)),(1,.a (.d (.sl (.nam 3)) x1))],[],[]⟩
def EQ(c:Code)(f:(List VLabel)→(List (Option VMask))→(List VRule)→Int→Int→Option bh)(x0:List VLabel)(x8:List (Option VMask))(x46:List VRule)(x47:Int)(x48:Int):Tree (Lf EE.T × Option bh):=.leaf (.go (Ek c) (Dw x0 x8 x46 x47 x48),f x0 x8 x46 x47 x48)
def G1(c:Code)(f:(List VLabel)→(List VRule)→(List (Option VMask))→(List VRule)→Int→Int→Option bh)(x0:List VLabel)(x1:List VRule)(x8:List (Option VMask))(x25:List VRule)(x26:Int)(x27:Int):Tree (Lf EE.T × Option bh):=.leaf (.go (Hn c) (GY x0 x1 x8 x25 x26 x27),f x0 x1 x8 x25 x26 x27)
abbrev Gi(N:Nat)(r:bh)(k:List It2)(s:TS EE.T):Prop:=eN (Y:=TT) EE (Rj N) TR RO (fun u=>u=mj r) k s
def tb(x:bh):Tree (Lf EE.T × Option bh):=.leaf (.done (mj x),some x)
theorem Di{N:Nat}{r:bh}:∀ (n:Nat) (x0:List VLabel) (x8:List (Option VMask)) (x46:List VRule) (x47:Int) (x48:Int),cB N n x0 x8 x46 x47 x48=some r→Gi N r (Ek (aa 0 Tryd.f6)) (Dw x0 x8 x46 x47 x48)
 |0,_,_,_,_,_,h=>by cases h
 |n+1,x0,x8,x46,x47,x48,h=>am (m:=4000) (t:=
  .cond (decide (x48 < x47))
  (
   .bnd (bN x46 x48) fun z6=>
   .bnd (cF N x0 z6) fun z7=>
   .cond (decide ((z7.length:Int) > 2000))
   (
    tb (([] :List VLabel),false,2))
   (
    .bnd (kU N z6.Kind) fun z8=>
    .bnd (bN x8 x48) fun z9=>
    .bnd (gz N x0 z6 z9 z7) fun z10=>
    .cond (!z10.2)
    (
     tb (([] :List VLabel),false,0))
    (
     .cond (decide ((z10.1.length:Int) > 20))
     (
      tb (([] :List VLabel),false,2))
     (
      EQ (aa 0 Tryd.f6) (cB N n) z10.1 x8 x46 x47 (w64 (x48+1))))))
  (
   tb (x0,true,0))) (by kernel_rfl) (by kernel_rfl) h (⟨fun _=>fun _=>⟨ay (enc:=mj) rfl,fun _=>fun _=>fun _=>⟨ay (enc:=mj) rfl,⟨ay (enc:=mj) rfl,fun h=>(Di n) _ _ _ _ _ h⟩⟩⟩,ay (enc:=mj) rfl⟩)
theorem HM{N:Nat}{r:bh}:∀ (n:Nat) (x0:List VLabel) (x1:List VRule) (x8:List (Option VMask)) (x25:List VRule) (x26:Int) (x27:Int),cL N n x0 x1 x8 x25 x26 x27=some r→Gi N r (Hn (aa 0 Tryd.f6)) (GY x0 x1 x8 x25 x26 x27)
 |0,_,_,_,_,_,_,h=>by cases h
 |n+1,x0,x1,x8,x25,x26,x27,h=>am (m:=4000) (t:=
  .cond (decide (x27 < x26))
  (
   .bnd (bN x25 x27) fun z2=>
   .bnd (cm N z2) fun z3=>
   .cond (z3.2 != 0)
   (
    tb (([] :List VLabel),false,z3.2))
   (
    .bnd (jf 8 x8 ([z3.1] :List (Option VMask))) fun z4=>
    G1 (aa 0 Tryd.f6) (cL N n) x0 x1 z4 x25 x26 (w64 (x27+1))))
  (
   .bnd (aA N x0) fun z5=>
   EQ (aa 0 Tryd.f6) (cB N n) z5 x8 x1 (x1.length:Int) 0)) (by kernel_rfl) (by kernel_rfl) h (⟨fun _=>fun _=>⟨ay (enc:=mj) rfl,fun _=>fun h=>(HM n) _ _ _ _ _ _ h⟩,fun _=>fun h=>Di n _ _ _ _ _ h⟩)
theorem QM{N:Nat}{r:bh}(x0:List VLabel)(x1:List VRule)(h:ew N x0 x1=some r):Gi N r (P3 (aa 0 Tryd.f6)) (O3 x0 x1):=
 am (m:=4000) (t:=
 .cond (decide ((x1.length:Int) > 30))
 (
  tb (([] :List VLabel),false,2))
 (
  .bnd (cK N x0) fun z1=>
  .cond (z1 != 0)
  (
   tb (([] :List VLabel),false,z1))
  (
   G1 (aa 0 Tryd.f6) (cL N N) x0 x1 ([] :List (Option VMask)) x1 (x1.length:Int) 0))) (by kernel_rfl) (by kernel_rfl) h (⟨ay (enc:=mj) rfl,fun _=>⟨ay (enc:=mj) rfl,fun h=>HM N _ _ _ _ _ _ h⟩⟩)
theorem nj{N:Nat}(x0:List VLabel)(x1:List VRule){r:bh}(h:ew N x0 x1=some r)(ρ:Rn):ai Tryd.prog 6 (([.a (.d (.sl (.nam 2)) x0),.a (.d (.sl (.nam 3)) x1)] :List (TV EE.T)).map (TV.to EE.toEnc ρ)) [] (fun out H=>out=.ret ((nG r).to EE.toEnc ρ)∧H=[]):=
 (ip (aa 0 Tryd.f6) 80 mixed (Po N) Tryd.func6 (by kernel_rfl) rfl rfl rfl rfl (QM x0 x1 h) ρ).mono fun out H h=>bQ.ret rfl h
set_option maxRecDepth 100000
abbrev bl:=(List VLabel) × Bool × Int
def er(N:Nat):Nat→(List VLabel)→(List (Option VMask))→(List VRule)→Int→Int→Option bl
 |0,_,_,_,_,_=>none
 |n+1,x0,x8,x46,x47,x48=>
  bif decide (x48 < x47) then
   (bN x46 x48).bind fun z6=>
   (cF N x0 z6).bind fun z7=>
   bif decide ((z7.length:Int) > 2000) then
    some (([] :List VLabel),false,2)
   else
    (kD N z6.Kind).bind fun z8=>
    (bN x8 x48).bind fun z9=>
    (gw N x0 z6 z9 z7).bind fun z10=>
    bif !z10.2 then
     some (([] :List VLabel),false,0)
    else
     bif decide ((z10.1.length:Int) > 20) then
      some (([] :List VLabel),false,2)
     else
      er N n z10.1 x8 x46 x47 (w64 (x48+1))
  else
   some (x0,true,0)
def dw(N:Nat):Nat→(List VLabel)→(List VRule)→(List (Option VMask))→(List VRule)→Int→Int→Option bl
 |0,_,_,_,_,_,_=>none
 |n+1,x0,x1,x8,x25,x26,x27=>
  bif decide (x27 < x26) then
   (bN x25 x27).bind fun z2=>
   (cm N z2).bind fun z3=>
   bif z3.2 != 0 then
    some (([] :List VLabel),false,z3.2)
   else
    (jf 8 x8 ([z3.1] :List (Option VMask))).bind fun z4=>
    dw N n x0 x1 z4 x25 x26 (w64 (x27+1))
  else
   (aA N x0).bind fun z5=>
   er N n z5 x8 x1 (x1.length:Int) 0
def io(N:Nat)(x0:List VLabel)(x1:List VRule):Option bl:=
 bif decide ((x1.length:Int) > 30) then
  some (([] :List VLabel),false,2)
 else
  (cK N x0).bind fun z1=>
  bif z1 != 0 then
   some (([] :List VLabel),false,z1)
  else
   dw N N x0 x1 ([] :List (Option VMask)) x1 (x1.length:Int) 0
set_option maxRecDepth 100000
def nN(r:bl):TV EE.T:=.tu [.a (.d (.sl (.nam 2)) r.1),.a (.d .bool r.2.1),.a (.d (.int .i64) r.2.2)]
def ml(r:bl):RL EE.T:=.ret (nN r) []
def Tb:Lvs:=⟨[(23,⟨[(0,false),(8,false),(13,false),(14,false),(15,false),(46,false),(47,false),(48,false)],[],[(14,(some 3,[]))],[]⟩)],[(8,⟨[(0,false),(1,false),(8,false),(25,false),(26,false),(27,false)],[],[],[]⟩),(17,⟨[(0,false),(8,false),(46,false),(47,false),(48,false)],[],[],[]⟩)],[],[],false,[],[],[],[]⟩
def SV:List ResultVar:=[.tmp 4,.tmp 5,.tmp 6]
def Ru(N:Nat):Gam EE:=⟨[⟨8,iT N⟩,⟨9,gF N⟩,⟨11,gZ N⟩,⟨12,lE N⟩,⟨26,mT N⟩,⟨10,bZ N⟩],EQT,[],[]⟩
theorem Ot(N:Nat):GOk Tryd.prog TT EE (Ru N):=GOk.cons (lG N) (GOk.cons (jp N) (GOk.cons (jR N) (GOk.cons (sJ N) (GOk.cons (vm N) (GOk.cons (dz N) (GOk.nil bP))))))
def EU(c:Code):List It2:=atL 17 c
def Fd(x0:List VLabel)(x8:List (Option VMask))(x46:List VRule)(x47:Int)(x48:Int):TS EE.T:=⟨80,[(0,.a (.d (.sl (.nam 2)) x0)),(8,.a (.own (.ptr (.nam 5)) x8)),(46,.a (.d (.sl (.nam 3)) x46)),(47,.a (.d (.int .i64) x47)),(48,.a (.d (.int .i64) x48))],[],[]⟩
def Ik(c:Code):List It2:=atL 8 c
def Hc(x0:List VLabel)(x1:List VRule)(x8:List (Option VMask))(x25:List VRule)(x26:Int)(x27:Int):TS EE.T:=⟨80,[(0,.a (.d (.sl (.nam 2)) x0)),(1,.a (.d (.sl (.nam 3)) x1)),(8,.a (.own (.ptr (.nam 5)) x8)),(25,.a (.d (.sl (.nam 3)) x25)),(26,.a (.d (.int .i64) x26)),(27,.a (.d (.int .i64) x27))],[],[]⟩
def PK(c:Code):List It2:=[.c c]
def Qn(x0:List VLabel)(x1:List VRule):TS EE.T:=⟨80,[(0,.a (.d (.sl (.nam 2)) x0)),(1,.a (.d (.sl (.nam 3)) x1))],[],[]⟩
def C9(c:Code)(f:(List VLabel)→(List (Option VMask))→(List VRule)→Int→Int→Option bl)(x0:List VLabel)(x8:List (Option VMask))(x46:List VRule)(x47:Int)(x48:Int):Tree (Lf EE.T × Option bl):=.leaf (.go (EU c) (Fd x0 x8 x46 x47 x48),f x0 x8 x46 x47 x48)
def GV(c:Code)(f:(List VLabel)→(List VRule)→(List (Option VMask))→(List VRule)→Int→Int→Option bl)(x0:List VLabel)(x1:List VRule)(x8:List (Option VMask))(x25:List VRule)(x26:Int)(x27:Int):Tree (Lf EE.T × Option bl):=.leaf (.go (Ik c) (Hc x0 x1 x8 x25 x26 x27),f x0 x1 x8 x25 x26 x27)
abbrev Gu(N:Nat)(r:bl)(k:List It2)(s:TS EE.T):Prop:=eN (Y:=TT) EE (Ru N) Tb SV (fun u=>u=ml r) k s
def tj(x:bl):Tree (Lf EE.T × Option bl):=.leaf (.done (ml x),some x)
theorem Ez{N:Nat}{r:bl}:∀ (n:Nat) (x0:List VLabel) (x8:List (Option VMask)) (x46:List VRule) (x47:Int) (x48:Int),er N n x0 x8 x46 x47 x48=some r→Gu N r (EU (aa 0 Tryd.f6)) (Fd x0 x8 x46 x47 x48)
 |0,_,_,_,_,_,h=>by cases h
 |n+1,x0,x8,x46,x47,x48,h=>am (m:=4000) (t:=
  .cond (decide (x48 < x47))
  (
   .bnd (bN x46 x48) fun z6=>
   .bnd (cF N x0 z6) fun z7=>
   .cond (decide ((z7.length:Int) > 2000))
   (
    tj (([] :List VLabel),false,2))
   (
    .bnd (kD N z6.Kind) fun z8=>
    .bnd (bN x8 x48) fun z9=>
    .bnd (gw N x0 z6 z9 z7) fun z10=>
    .cond (!z10.2)
    (
     tj (([] :List VLabel),false,0))
    (
     .cond (decide ((z10.1.length:Int) > 20))
     (
      tj (([] :List VLabel),false,2))
     (
      C9 (aa 0 Tryd.f6) (er N n) z10.1 x8 x46 x47 (w64 (x48+1))))))
  (
   tj (x0,true,0))) (by kernel_rfl) (by kernel_rfl) h (⟨fun _=>fun _=>⟨ay (enc:=ml) rfl,fun _=>fun _=>fun _=>⟨ay (enc:=ml) rfl,⟨ay (enc:=ml) rfl,fun h=>(Ez n) _ _ _ _ _ h⟩⟩⟩,ay (enc:=ml) rfl⟩)
theorem Hu{N:Nat}{r:bl}:∀ (n:Nat) (x0:List VLabel) (x1:List VRule) (x8:List (Option VMask)) (x25:List VRule) (x26:Int) (x27:Int),dw N n x0 x1 x8 x25 x26 x27=some r→Gu N r (Ik (aa 0 Tryd.f6)) (Hc x0 x1 x8 x25 x26 x27)
 |0,_,_,_,_,_,_,h=>by cases h
 |n+1,x0,x1,x8,x25,x26,x27,h=>am (m:=4000) (t:=
  .cond (decide (x27 < x26))
  (
   .bnd (bN x25 x27) fun z2=>
   .bnd (cm N z2) fun z3=>
   .cond (z3.2 != 0)
   (
    tj (([] :List VLabel),false,z3.2))
   (
    .bnd (jf 8 x8 ([z3.1] :List (Option VMask))) fun z4=>
    GV (aa 0 Tryd.f6) (dw N n) x0 x1 z4 x25 x26 (w64 (x27+1))))
  (
   .bnd (aA N x0) fun z5=>
   C9 (aa 0 Tryd.f6) (er N n) z5 x8 x1 (x1.length:Int) 0)) (by kernel_rfl) (by kernel_rfl) h (⟨fun _=>fun _=>⟨ay (enc:=ml) rfl,fun _=>fun h=>(Hu n) _ _ _ _ _ _ h⟩,fun _=>fun h=>Ez n _ _ _ _ _ h⟩)
theorem Qe{N:Nat}{r:bl}(x0:List VLabel)(x1:List VRule)(h:io N x0 x1=some r):Gu N r (PK (aa 0 Tryd.f6)) (Qn x0 x1):=
 am (m:=4000) (t:=
 .cond (decide ((x1.length:Int) > 30))
 (
  tj (([] :List VLabel),false,2))
 (
  .bnd (cK N x0) fun z1=>
  .cond (z1 != 0)
  (
   tj (([] :List VLabel),false,z1))
  (
   GV (aa 0 Tryd.f6) (dw N N) x0 x1 ([] :List (Option VMask)) x1 (x1.length:Int) 0))) (by kernel_rfl) (by kernel_rfl) h (⟨ay (enc:=ml) rfl,fun _=>⟨ay (enc:=ml) rfl,fun h=>Hu N _ _ _ _ _ _ h⟩⟩)
theorem sD{N:Nat}(x0:List VLabel)(x1:List VRule){r:bl}(h:io N x0 x1=some r)(ρ:Rn):ai Tryd.prog 6 (([.a (.d (.sl (.nam 2)) x0),.a (.d (.sl (.nam 3)) x1)] :List (TV EE.T)).map (TV.to EE.toEnc ρ)) [] (fun out H=>out=.ret ((nN r).to EE.toEnc ρ)∧H=[]):=
 (ip (aa 0 Tryd.f6) 80 mixed (Ot N) Tryd.func6 (by kernel_rfl) rfl rfl rfl rfl (Qe x0 x1 h) ρ).mono fun out H h=>bQ.ret rfl h
def cg(N:Nat)(l:List VLabel)(rules:List VRule):Option (List VLabel × Bool × Int):=match rules with
 | [] =>ew N l []
 |r::rs=>if r.Kind=1 then ma N l (r::rs) else if r.Kind=2 then ew N l (r::rs) else if r.Kind=3 then io N l (r::rs) else none
def pJ(r:List VLabel × Bool × Int):TV EE.T:=.tu [.a (.d (.sl (.nam 2)) r.1),.a (.d .bool r.2.1),.a (.d (.int .i64) r.2.2)]
theorem vr{N:Nat}(x0:List VLabel)(x1:List VRule){r:List VLabel × Bool × Int}(h:cg N x0 x1=some r)(ρ:Rn):ai Tryd.prog 6 (([.a (.d (.sl (.nam 2)) x0),.a (.d (.sl (.nam 3)) x1)] :List (TV EE.T)).map (TV.to EE.toEnc ρ)) [] (fun out H=>out=.ret ((pJ r).to EE.toEnc ρ)∧H=[]):=by
 unfold cg at h
 split at h
 ·exact nj x0 [] h ρ
 ·rename_i r0 rs
  by_cases h1:r0.Kind=1
  ·rw[if_pos h1] at h;exact te x0 (r0::rs) h ρ
  ·rw[if_neg h1] at h
   by_cases h2:r0.Kind=2
   ·rw[if_pos h2] at h;exact nj x0 (r0::rs) h ρ
   ·rw[if_neg h2] at h
    by_cases h3:r0.Kind=3
    ·rw[if_pos h3] at h;exact sD x0 (r0::rs) h ρ
    ·rw[if_neg h3] at h;cases h
def jG(N:Nat):List (TV EE.T)→PV EE.T
 | [u0,u1] =>match eB (.sl (.nam 2)) u0,eB (.sl (.nam 3)) u1 with
   |some x0,some x1=>.opt (cg N x0 x1) pJ
   |_,_=>.bad
 |_=>.bad
theorem nS(N:Nat)(us:List (TV EE.T)):(jG N us).ok fun u=>∀ρ,ai Tryd.prog 6 (us.map (TV.to EE.toEnc ρ)) [] (fun out H=>out=.ret (u.to EE.toEnc ρ)∧H=[]):=by
 unfold jG
 split
 ·split
  ·rename_i u0 u1 x0 x1 h0 h1
   intro z hz ρ
   refine bq (us':=([.a (.d (.sl (.nam 2)) x0),.a (.d (.sl (.nam 3)) x1)] :List (TV EE.T))) ⟨bb h0 ρ,bb h1 ρ,trivial⟩ ?_
   exact vr x0 x1 hz ρ
  ·trivial
 ·trivial
set_option maxRecDepth 100000
def fZ(N:Nat):Option Bool:=
 (cg N ([({ Name:=([97] :List UInt8),Value:=([120,49] :List UInt8) }:VLabel)] :List VLabel) ([({ Kind:=1,Sources:=([([97] :List UInt8)] :List (List UInt8)),Between:=([] :List UInt8),Mask:=([120,40,46,41] :List UInt8),Modulus:=0,Target:=([98] :List UInt8),Replacement:=([121,36,49] :List UInt8) }:VRule)] :List VRule)).bind fun z1=>
 bif z1.2.2==0 then
  bif z1.2.1 then
   bif (z1.1.length:Int)==2 then
    (bN z1.1 1).bind fun z2=>
    some (decide (z2.Value=([121,49] :List UInt8)))
   else
    some false
  else
   some false
 else
  some false
def dL(N:Nat):Nat→(List VLabel)→(List VLabel)→Int→Option Bool
 |0,_,_,_=>none
 |n+1,x0,x1,x5=>
  bif decide (x5 < (x0.length:Int)) then
   (bN x0 x5).bind fun z1=>
   (bN x1 x5).bind fun z2=>
   bif !(zN z1.Name z2.Name && (zN z1.Value z2.Value && true)) then
    some false
   else
    dL N n x0 x1 (w64 (x5+1))
  else
   some true
def ej(N:Nat)(x0:List VLabel)(x1:List VLabel):Option Bool:=
 bif (x0.length:Int) != (x1.length:Int) then
  some false
 else
  dL N N x0 x1 0
def jE(N:Nat)(x0:List VLabel)(x1:List (List UInt8))(x2:List UInt8):Option Bool:=
 (fZ N).bind fun z1=>
 bif !z1 then
  some false
 else
  (cg N x0 ([] :List VRule)).bind fun z2=>
  bif z2.2.2 != 0 then
   some true
  else
   (cg N x0 ([({ Kind:=2,Sources:=x1,Between:=x2,Mask:=([46,42] :List UInt8),Modulus:=0,Target:=([] :List UInt8),Replacement:=([] :List UInt8) }:VRule)] :List VRule)).bind fun z3=>
   (cg N x0 ([({ Kind:=3,Sources:=x1,Between:=x2,Mask:=([46,42] :List UInt8),Modulus:=0,Target:=([] :List UInt8),Replacement:=([] :List UInt8) }:VRule)] :List VRule)).bind fun z4=>
   bif !z2.2.1 then
    some false
   else
    (ej N z2.1 x0).bind fun z5=>
    bif !z5 then
     some false
    else
     bif z3.2.2 != z4.2.2 then
      some false
     else
      bif z3.2.2 != 0 then
       some true
      else
       bif z3.2.1 then
        (ej N z3.1 x0).bind fun z6=>
        bif z6 then
         bif !z4.2.1 then
          some ((z4.1.length:Int)==0)
         else
          some false
        else
         some false
       else
        some false
end Go.Proofs.YtobacplonkjigaaDoor
