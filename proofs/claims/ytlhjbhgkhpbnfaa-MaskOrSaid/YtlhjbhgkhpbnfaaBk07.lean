import Derived.Test.YtlhjbhgkhpbnfaaBk06
import Derived.Shelf.Strings.Builder1
import Derived.Shelf.Strings.Builder2
import Derived.WalkKit
import Derived.Lib.Hide
import Derived.BigCall
import Derived.Test.YtlhjbhgkhpbnfaaProg
import Derived.Recover
import Derived.Defers
import Derived.RegionTactic
import Derived.BigRegion
import Derived.Shelf.Bits.Mul64
import Derived.Deep.OwnRows
import Derived.Laws.CopyRow
set_option linter.unusedSimpArgs false
set_option linter.unusedVariables false
namespace Go.Proofs.Ytlhjbhgkhpbnfaa
open Go.RowKit P
attribute [local irreducible] AS.nf OpV be Stk lR Fm aW cQ G0 G2 Awp Mg D0 nU lf No Nn uR
set_option maxHeartbeats 8000000
def lfs{T:Nat→Type}:Tree (OL T)→List (TS T)
 |.leaf (.st s)=>[s]
 |.nl [] a b=>lfs a++lfs b
 |_=>[]
def okL{T:Nat→Type}:Tree (OL T)→Bool
 |.leaf (.st _)=>true
 |.nl [] a b=>okL a && okL b
 |_=>false
theorem rx{T:Nat→Type}{R:OL T→Prop}:∀ {t:Tree (OL T)},okL t=true→(∀s∈lfs t,R (.st s))→t.holds R
 |.leaf (.st s),_,h=>h s (List.mem_singleton_self s)
 |.leaf (.pan v),h0,_=>by cases h0
 |.nl [] a b,h0,h=>by
  simp only[okL,Bool.and_eq_true] at h0
  exact⟨fun _=>rx h0.1 fun s hs=>h s (List.mem_append.2 (.inl hs)),rx h0.2 fun s hs=>h s (List.mem_append.2 (.inr hs))⟩
 |.nl (_::_) a b,h0,_=>by cases h0
 |.cond _ _ _,h0,_=>by cases h0
 |.bnd _ _,h0,_=>by cases h0
 |.sm _ _ _,h0,_=>by cases h0
 |.fail,h0,_=>by cases h0
def Dn:List Oper:=[{ dst:=some 10,op:=Op.load 28 (Operand.tmp 2),type:=28,pos:= "mask.go:248",after:= #[{ on:=1,ground:=Ground.gcOnly Departure.lateStores }],guard:=none },
 { dst:=none,op:=Op.store 54 (Operand.tmp 0) (Operand.const (Value.pointer none)),type:=0,pos:= "mask.go:248",after:= #[{ on:=0,ground:=Ground.textOnly Departure.lateStores }],guard:=none },
 { dst:=none,op:=Op.store 28 (Operand.tmp 1) (Operand.tmp 10),type:=0,pos:= "mask.go:248",after:= #[{ on:=0,ground:=Ground.data },{ on:=1,ground:=Ground.chain },{ on:=0,ground:=Ground.phase },{ on:=1,ground:=Ground.phase }],guard:=none }]
def cpT(e a:Int):TS EE.T:=⟨11,[(0,.a (.box 100000 0)),(1,.a (.box 100001 0)),(2,.a (.box 100002 0)),(3,.a .tt),(9,.a .tt)],[(100002,.cs [.d (.int .i64) e,.d (.int .i64) a]),(100000,.cs [.raw (.pointer none)]),(100001,.cs [.d (.int .i64) (0:Int),.d (.int .i64) (0:Int)])],[]⟩
def cpH(e a:Int):List (Nat × TB EE.T):=[(100001,.cs [.d (.int .i64) e,.d (.int .i64) a]),(100000,.cs [.raw (.pointer none)]),(100002,.cs [.d (.int .i64) e,.d (.int .i64) a]),(100000,.cs [.raw (.pointer none)]),(100001,.cs [.d (.int .i64) (0:Int),.d (.int .i64) (0:Int)])]
def cpR(k2 k3 kb:Nat):Rn:=⟨fun i=>if i=100000 then⟨k2,false,[]⟩ else if i=100001 then⟨k3,false,[]⟩ else⟨kb,false,[]⟩⟩
theorem DJ(e a:Int):okL (DY TT EE ⟨[],EQT,[],[]⟩ Dn (cpT e a))=true:=by kernel_rfl
theorem GK(e a:Int):(lfs (DY TT EE ⟨[],EQT,[],[]⟩ Dn (cpT e a))).map (·.h)=[cpH e a,cpH e a] :=by kernel_rfl
def faultV(e a:Int):Value:=.iface 28 (.agg #[.int .i64 e,.int .i64 a])
set_option maxRecDepth 100000 in
theorem Ke(k2 k3:Nat)(u0 c0 c1:AV)(hne:k2≠k3):uR Try.prog 33 [.v (.pointer (some ⟨k2,0,none⟩)),.v (.pointer (some ⟨k3,0,none⟩))] [(k2,[u0]),(k3,[c0,c1])] .returning .returning (fun out H'=>out=.ret (.tu [])∧look H' k2=some [u0] ∧look H' k3=some [c0,c1]):=by
 unfold uR
 refine tO Try.func33 rfl rfl rfl (fun X=>.v .nilIface) rfl rfl Jm ?_
 dsimp only[slotsOf,List.drop_succ_cons,List.drop_zero]
 repeat (first
  | ((first|apply Ba|apply ue);(next=>(first| (simp only[go_sem,Nat.reduceBEq,Nat.reduceEqDiff,reduceIte,reduceCtorEq,String.reduceEq,Nat.reduceAdd,Int.reduceToNat];exact rfl)|exact rfl)))
  | ((first|apply qX rfl rfl rfl rfl|apply AR rfl rfl rfl);(next=>(first
   | (refine ns (T:=TT) rfl ?_;(first|exact trivial|omega| (simp[NFL] <;> omega)))
   | (apply opk ⟨_,.move _,_,_,_,_⟩;first|exact eT (ey _) (.inl rfl)|fail)
   | (apply opk ⟨_,.load _ _,_,_,_,_⟩;first|exact ml (T:=TT) rfl rfl rfl|exact lP (T:=TT) rfl rfl rfl rfl|fail)
   | (apply opk ⟨_,.typeAssert _ _ _ _,_,_,_,_⟩;first|exact md (T:=TT) rfl rfl rfl rfl|exact mf (T:=TT) rfl rfl rfl rfl|fail)
   |fail)))
  | (refine arO _ ?_;first
   | (refine arO ⟨_,.move _,_,_,_,_⟩ ?_;first|refine jx rfl rfl rfl rfl ?_|fail)
   | (refine arO ⟨_,.assign _,_,_,_,_⟩ ?_;first
    |refine gQ rfl rfl rfl rfl ?_
    |refine Bf rfl rfl rfl rfl (eT (ey _) (.inr rfl)) ?_
    |fail)
   | (refine arO ⟨_,.load _ _,_,_,_,_⟩ ?_;first
    |refine gN (T:=TT) rfl rfl rfl rfl cm rfl rfl rfl rfl ?_
    | (refine gN (T:=TT) rfl rfl rfl rfl (ek ?_ cm) rfl rfl rfl rfl ?_;(next=>(first|assumption| (intro e;exact absurd e.symm (by assumption)))))
    | (refine gN (T:=TT) rfl rfl rfl rfl (ek ?_ (ek ?_ cm)) rfl rfl rfl rfl ?_;(next=>(first|assumption| (intro e;exact absurd e.symm (by assumption))));(next=>(first|assumption| (intro e;exact absurd e.symm (by assumption)))))
    |fail)
   | (refine arO ⟨_,.store _ _ _,_,_,_,_⟩ ?_;first
    | (apply qI rfl rfl;(next=>(first
     | (apply i5 (T:=TT) rfl rfl rfl;(next=>(first
      |rfl
      |exact cm
      |assumption
      | ((repeat (first|exact cm|assumption| (apply ek;(next=>(first|assumption| (intro e;exact absurd e.symm (by assumption))|fail)))|fail));done)
      |fail));(next=>rfl);(next=>rfl);(next=>rfl))
     | (apply fO (T:=TT) rfl;(next=>(first
      |rfl
      |exact cm
      |assumption
      | ((repeat (first|exact cm|assumption| (apply ek;(next=>(first|assumption| (intro e;exact absurd e.symm (by assumption))|fail)))|fail));done)
      |fail));(next=>rfl);(next=>rfl);(next=>rfl);(next=>rfl);(next=>rfl);(next=>rfl);(next=>rfl);(next=>rfl))
     |fail)))
    |fail)
   | (refine arO ⟨_,.alloc _,_,_,_,_⟩ ?_;first
    | (refine hU rfl rfl (nN (T:=TT) rfl rfl ?_);intro kb hkb;(repeat (have hkn:=(od hkb).1;replace hkb:=(od hkb).2));(try have hkl:=nb hkb);clear hkb;refine Lc ?_)
    |fail)
   |fail)
  | (apply AR rfl rfl rfl;(next=>(first
   |exact fI rfl (.inl rfl)
   |exact fI rfl (.inr rfl)
   |exact ro rfl
   | (apply ik (T:=TT) rfl;(next=>(first
    |rfl
    |exact cm
    |assumption
    | ((repeat (first|exact cm|assumption| (apply ek;(next=>(first|assumption| (intro e;exact absurd e.symm (by assumption))|fail)))|fail));done)
    |fail));(next=>rfl);(next=>rfl);(next=>rfl);(next=>rfl))
   |fail)))
  |refine rc ?_
  | (refine arE ?_;refine n9 [0,1,2,3,9] rfl ?_)
  |refine jq ?_
  |refine lF ?_
  |refine ou ?_
  |refine qU ?_
  |refine mY rfl ?_
  | (refine arC (.cond _ _ _) ?_;first
   | (refine fa rfl ?_ ?_;(next=>(first|rfl| (simp only[decide_eq_true_eq,beq_iff_eq,bne_iff_ne,ge_iff_le,gt_iff_lt,ne_eq,Bool.not_eq_true',decide_eq_false_iff_not];omega))))
   | (refine eH rfl ?_ ?_;(next=>(first
    |rfl
    | (simp only[decide_eq_false_iff_not,beq_eq_false_iff_ne,bne_eq_false_iff_eq,ge_iff_le,gt_iff_lt,ne_eq,Bool.not_eq_false',decide_eq_true_eq];omega))))
   |fail)
  |refine nW ?_
  |refine ll ?_
  |refine jT rfl ?_
  |refine jP ?_
  |refine jE ?_
  | (refine arC .ret ?_;refine qB [] ?_)
  |refine ln ?_
  |refine lE ?_
  |refine kP ?_
  |refine pQ ?_
  | (refine arC (.region _ _ true) ?_;refine t7 (DB mixed (by kernel_rfl) rfl ?_))
  |refine uh rfl rfl rfl ?_
  | (refine MZ ?_;refine n9 [0,1,2,3,9] rfl ?_)
  |fail)
 rename_i hkn2
 exact Gj ⟨_,rfl,rfl,ek hkn2 cm,ek hkn (ek (fun e=>hne e.symm) cm)⟩
set_option maxRecDepth 100000 in
theorem Jn(k2 k3:Nat)(e a:Int)(hne:k2≠k3):uR Try.prog 33 [.v (.pointer (some ⟨k2,0,none⟩)),.v (.pointer (some ⟨k3,0,none⟩))] [(k2,[.v (.pointer none)]),(k3,[.v (.int .i64 0),.v (.int .i64 0)])] (.panicking [⟨faultV e a,false,false⟩]) (.panicking [⟨faultV e a,true,false⟩]) (fun out H'=>out=.ret (.tu [])∧look H' k2=some [.v (.pointer none)] ∧look H' k3=some [.v (.int .i64 e),.v (.int .i64 a)]):=by
 unfold uR
 refine tO (ru:=.ifc 28 (.ag [.v (.int .i64 e),.v (.int .i64 a)])) Try.func33 rfl rfl rfl (fun X=>.ifc _ _ _ (.ag _ #[_,_] rfl (fun i u x hu hx=>by
  match i,hu,hx with
  |0,hu,hx=>simp at hu hx;subst hu hx;exact .v _
  |1,hu,hx=>simp at hu hx;subst hu hx;exact .v _))) rfl rfl (Js (faultV e a)) ?_
 dsimp only[slotsOf,List.drop_succ_cons,List.drop_zero]
 repeat (first
  | ((first|apply Ba|apply ue);(next=>(first| (simp only[go_sem,Nat.reduceBEq,Nat.reduceEqDiff,reduceIte,reduceCtorEq,String.reduceEq,Nat.reduceAdd,Int.reduceToNat];exact rfl)|exact rfl)))
  | (apply qX rfl rfl rfl rfl;(next=>(first
   | (refine ns (T:=TT) rfl ?_;(first|exact trivial|omega| (simp[NFL] <;> omega)))
   | (apply opk ⟨_,.move _,_,_,_,_⟩;first|exact eT (ey _) (.inl rfl)|fail)
   | (apply opk ⟨_,.load _ _,_,_,_,_⟩;first|exact ml (T:=TT) rfl rfl rfl|exact lP (T:=TT) rfl rfl rfl rfl|fail)
   | (apply opk ⟨_,.typeAssert _ _ _ _,_,_,_,_⟩;first|exact md (T:=TT) rfl rfl rfl rfl|exact mf (T:=TT) rfl rfl rfl rfl|fail)
   |fail)))
  | (refine arO _ ?_;first
   | (refine arO ⟨_,.move _,_,_,_,_⟩ ?_;first|refine jx rfl rfl rfl rfl ?_|fail)
   | (refine arO ⟨_,.assign _,_,_,_,_⟩ ?_;first
    |refine gQ rfl rfl rfl rfl ?_
    |refine Bf rfl rfl rfl rfl (eT (ey _) (.inr rfl)) ?_
    |fail)
   | (refine arO ⟨_,.load _ _,_,_,_,_⟩ ?_;first
    |refine gN (T:=TT) rfl rfl rfl rfl cm rfl rfl rfl rfl ?_
    | (refine gN (T:=TT) rfl rfl rfl rfl (ek ?_ cm) rfl rfl rfl rfl ?_;(next=>(first|assumption| (intro e;exact absurd e.symm (by assumption)))))
    | (refine gN (T:=TT) rfl rfl rfl rfl (ek ?_ (ek ?_ cm)) rfl rfl rfl rfl ?_;(next=>(first|assumption| (intro e;exact absurd e.symm (by assumption))));(next=>(first|assumption| (intro e;exact absurd e.symm (by assumption)))))
    |fail)
   | (refine arO ⟨_,.store _ _ _,_,_,_,_⟩ ?_;first
    | (apply qI rfl rfl;(next=>(first
     | (apply i5 (T:=TT) rfl rfl rfl;(next=>(first
      |rfl
      |exact cm
      |assumption
      | ((repeat (first|exact cm|assumption| (apply ek;(next=>(first|assumption| (intro e;exact absurd e.symm (by assumption))|fail)))|fail));done)
      |fail));(next=>rfl);(next=>rfl);(next=>rfl))
     | (apply fO (T:=TT) rfl;(next=>(first
      |rfl
      |exact cm
      |assumption
      | ((repeat (first|exact cm|assumption| (apply ek;(next=>(first|assumption| (intro e;exact absurd e.symm (by assumption))|fail)))|fail));done)
      |fail));(next=>rfl);(next=>rfl);(next=>rfl);(next=>rfl);(next=>rfl);(next=>rfl);(next=>rfl);(next=>rfl))
     |fail)))
    |fail)
   | (refine arO ⟨_,.alloc _,_,_,_,_⟩ ?_;first
    | (refine hU rfl rfl (nN (T:=TT) rfl rfl ?_);intro kb hkb;(repeat (have hkn:=(od hkb).1;replace hkb:=(od hkb).2));(try have hkl:=nb hkb);clear hkb;refine Lc ?_)
    |fail)
   |fail)
  |refine rc ?_
  | (refine arE ?_;refine n9 [0,1,2,3,9] rfl ?_)
  |refine jq ?_
  |refine lF ?_
  |refine ou ?_
  |refine qU ?_
  |refine mY rfl ?_
  | (refine arC (.cond _ _ _) ?_;first
   | (refine fa rfl ?_ ?_;(next=>(first|rfl| (simp only[decide_eq_true_eq,beq_iff_eq,bne_iff_ne,ge_iff_le,gt_iff_lt,ne_eq,Bool.not_eq_true',decide_eq_false_iff_not];omega))))
   | (refine eH rfl ?_ ?_;(next=>(first
    |rfl
    | (simp only[decide_eq_false_iff_not,beq_eq_false_iff_ne,bne_eq_false_iff_eq,ge_iff_le,gt_iff_lt,ne_eq,Bool.not_eq_false',decide_eq_true_eq];omega))))
   |fail)
  |refine nW ?_
  |refine ll ?_
  |refine jT rfl ?_
  |refine jP ?_
  |refine jE ?_
  | (refine arC .ret ?_;refine qB [] ?_)
  |refine ln ?_
  |refine lE ?_
  |refine kP ?_
  |refine pQ ?_
  |fail)
 rename_i hkn2
 have hinj:Inj (cpR k2 k3 kb) (cpT e a).h:=by
  intro p hp q hq
  simp only[cpT,List.mem_cons,List.not_mem_nil,or_false] at hp hq
  rcases hp with rfl|rfl|rfl<;> rcases hq with rfl|rfl|rfl<;> refine⟨fun _ _ h=> ?_,fun h=> ?_⟩<;> first|rfl| (exfalso;revert h;simp[cpR,Rn.b];omega)| (exfalso;revert h;simp)
 refine CA (Y:=TT) (E:=EE) (G:=⟨[],EQT,[],[]⟩) (ρ:=cpR k2 k3 kb) (σ:=cpT e a) (ops:=Dn) mixed (GOk.nil dQ) hinj (rx (DJ e a) fun s hs=> ?_)
 have hs2:s.h=cpH e a:=by
  have:s.h∈(lfs (DY TT EE ⟨[],EQT,[],[]⟩ Dn (cpT e a))).map (·.h):=List.mem_map_of_mem hs
  rw[GK] at this
  simpa using this
 intro ρ' hi' ha
 have e0:ρ' 100000=k2:=by
  have:=ha 100000 rfl
  show(ρ'.k 100000).b=k2
  rw[this];rfl
 have e1:ρ' 100001=k3:=by
  have:=ha 100001 rfl
  show(ρ'.k 100001).b=k3
  rw[this];rfl
 have hh:(TS.to EE.toEnc ρ' s).h=hTo EE.toEnc ρ' (cpH e a):=by rw[← hs2];rfl
 refine Gj ⟨.tu [],rfl,rfl,?_,?_⟩
 ·rw[hh,← e0]
  exact ek (fun e=>hne (by rw[← e0,← e1];exact e)) cm
 ·rw[hh,← e1]
  exact cm
end Go.Proofs.Ytlhjbhgkhpbnfaa
namespace Go.Proofs.Ytlhjbhgkhpbnfaa
open Go.Shelf Go.RowKit P
def Try.laysR_166:Go.Shelf.Ren:=⟨fun|166=>30|169=>31|170=>29|240=>48|276=>60|n=>n,fun|0=>0|3=>3|4=>4|5=>5|9=>9|20=>20|37=>46|70=>79|72=>81|75=>86|80=>89|127=>116|164=>124|n=>n,fun|n=>n⟩
set_option maxRecDepth 100000 in
theorem Try.laysn166:Go.Proofs.Lays.n166 Try.prog Try.laysR_166:={ mixed:=by kernel_rfl,f166:=Try.func30.trans (congrArg some (by kernel_rfl)),f240:=Try.func48.trans (congrArg some (by kernel_rfl)),f276:=Try.func60.trans (congrArg some (by kernel_rfl)),t0:=Try.underlying0,a0:=Try.isAgg0,z0:=Try.sizeOf0,v0:=Try.zeroValue0,t3:=Try.underlying3,a3:=Try.isAgg3,z3:=Try.sizeOf3,v3:=Try.zeroValue3,t4:=Try.underlying4,a4:=Try.isAgg4,z4:=Try.sizeOf4,v4:=Try.zeroValue4,t9:=Try.underlying9,a9:=Try.isAgg9,z9:=Try.sizeOf9,v9:=Try.zeroValue9,t20:=Try.underlying20,a20:=Try.isAgg20,z20:=Try.sizeOf20,v20:=Try.zeroValue20,t37:=Try.underlying46,a37:=Try.isAgg46,z37:=Try.sizeOf46,v37:=Try.zeroValue46,t70:=Try.underlying79,a70:=Try.isAgg79,z70:=Try.sizeOf79,v70:=Try.zeroValue79,t72:=Try.underlying81,a72:=Try.isAgg81,z72:=Try.sizeOf81,v72:=Try.zeroValue81,t75:=Try.underlying86,a75:=Try.isAgg86,z75:=Try.sizeOf86,v75:=Try.zeroValue86,t164:=Try.underlying124,a164:=Try.isAgg124,z164:=Try.sizeOf124,v164:=Try.zeroValue124 }
set_option maxRecDepth 100000 in
theorem Try.laysn170:Go.Proofs.Lays.n170 Try.prog Try.laysR_166:={ mixed:=by kernel_rfl,f170:=Try.func29.trans (congrArg some (by kernel_rfl)),t0:=Try.underlying0,a0:=Try.isAgg0,z0:=Try.sizeOf0,v0:=Try.zeroValue0,t3:=Try.underlying3,a3:=Try.isAgg3,z3:=Try.sizeOf3,v3:=Try.zeroValue3,t37:=Try.underlying46,a37:=Try.isAgg46,z37:=Try.sizeOf46,v37:=Try.zeroValue46,t70:=Try.underlying79,a70:=Try.isAgg79,z70:=Try.sizeOf79,v70:=Try.zeroValue79,t72:=Try.underlying81,a72:=Try.isAgg81,z72:=Try.sizeOf81,v72:=Try.zeroValue81 }
set_option maxRecDepth 100000 in
theorem Try.laysn169:Go.Proofs.Lays.n169 Try.prog Try.laysR_166:={ mixed:=by kernel_rfl,f169:=Try.func31.trans (congrArg some (by kernel_rfl)),t0:=Try.underlying0,a0:=Try.isAgg0,z0:=Try.sizeOf0,v0:=Try.zeroValue0,t3:=Try.underlying3,a3:=Try.isAgg3,z3:=Try.sizeOf3,v3:=Try.zeroValue3,t9:=Try.underlying9,a9:=Try.isAgg9,z9:=Try.sizeOf9,v9:=Try.zeroValue9,t37:=Try.underlying46,a37:=Try.isAgg46,z37:=Try.sizeOf46,v37:=Try.zeroValue46,t70:=Try.underlying79,a70:=Try.isAgg79,z70:=Try.sizeOf79,v70:=Try.zeroValue79,t72:=Try.underlying81,a72:=Try.isAgg81,z72:=Try.sizeOf81,v72:=Try.zeroValue81,t127:=Try.underlying116,a127:=Try.isAgg116,z127:=Try.sizeOf116,v127:=Try.zeroValue116 }
theorem zD:Builder.Extra Try.prog Try.laysR_166:={ sizeBuilder:=by kernel_rfl,liesBuilder:=by kernel_rfl,t5:=Try.underlying5,a5:=Try.isAgg5,z5:=Try.sizeOf5,v5:=Try.zeroValue5,infoByte:=by kernel_rfl,cellsByte:=by kernel_rfl,sizeByte:=by kernel_rfl,neB5:=by decide }
abbrev D3(B b:Nat)(g:List UInt8)(w:World):Prop:=Lib.IsBuilder 81 5 B b (Lib.byteCells g) w
theorem nI{T e:TypeId}{B b:Nat}{bs:List Value}{w w':World}(h:Lib.IsBuilder T e B b bs w)(hb:Below w.heap.size w w'):Lib.IsBuilder T e B b bs w':=by
 have key:∀p,Lib.BuilderAt T e B b p bs w→Lib.BuilderAt T e B b p bs w':=by
  rintro p ⟨h1,v,h2,h3,h4⟩
  refine⟨h1,v,?_,?_,h4⟩
  ·rw[hb.block b (Array.getElem?_eq_some_iff.1 h2).1];exact h2
  ·refine⟨h3.1,?_⟩
   rcases h3.2 with hn| ⟨g,cap,cur,rfl,k1,k2,rest⟩
   ·exact .inl hn
   ·exact .inr ⟨g,cap,cur,rfl,k1,by rw[hb.block g (Array.getElem?_eq_some_iff.1 k2).1];exact k2,rest⟩
 rcases h with h|h
 ·exact .inl (key _ h)
 ·exact .inr (key _ h)
theorem mn{B B':Nat}{w w':World}(h:Below B' w w')(hB:B≤B'):Below B w w':=⟨h.os,h.tape,h.output,h.size,fun k hk=>h.block k (by omega)⟩
theorem tc(B b:Nat)(g s:List UInt8)(w:World)(h:D3 B b g w)(hlen:g.length+s.length≤140737488355328)(hBw:B≤w.heap.size):
  Calls Try.prog 30 #[.pointer (some ⟨b,0,none⟩),.string (mkB s)] w fun e w'=>e=.returned (.tuple #[.int .i64 s.length,.nilIface])∧(D3 B b (g++s) w'∧Below B w w'):=
 (Any.Builder_WriteString Try.laysn166 zD B b (Lib.byteCells g) (mkB s) w h (by rw[Lib.byteCells_length];exact hlen) hBw).mono fun e w' k=>by
  obtain⟨k1,k2,k3⟩:=k
  refine⟨k1,.inr ?_,k3⟩
  rw[Lib.byteCells_append,show Lib.byteCells s=Lib.strCells (mkB s) from(Lib.strCells_eq (mkB s)).symm]
  exact k2
theorem rT(B b:Nat)(g:List UInt8)(w:World)(h:D3 B b g w):
  Calls Try.prog 29 #[.pointer (some ⟨b,0,none⟩)] w fun e w'=>e=.returned (.int .i64 g.length)∧w'=w:=
 (Any.Builder_Len Try.laysn170 B b (Lib.byteCells g) w h).mono fun e w' k=>by rw[Lib.byteCells_length] at k;exact k
theorem ND(B b:Nat)(g:List UInt8)(w:World)(h:D3 B b g w)(hBw:B≤w.heap.size):
  Calls Try.prog 31 #[.pointer (some ⟨b,0,none⟩)] w fun e w'=>e=.returned (.string (mkB g))∧Below B w w':=
 Any.Builder_String_any Try.laysn169 zD B b g w h hBw
theorem kM{P:Program}{f:FuncId}{us:List AV}{u:AV}{vs:List Value}{X:GW}(h:aW P f us [] (fun out H=>out=.ret u∧H=[]))(hl:vs.length=us.length)(hg:∀b n,X.g b=some n→b < X.w.heap.size)
  (hr:∀ (i:Nat) u x,us[i]? =some u→vs[i]? =some x→Rel X u x∧cp (some u)=none):
  Calls P f vs.toArray X.w fun e w'=>∃X' y,e=.returned y∧X'.w=w'∧Rel X' u y∧Below X.w.heap.size X.w w'∧(∀b n,X'.g b=some n→b < w'.heap.size)∧∀b,b < X.w.heap.size→X'.g b=X.g b:=by
 have hnown:∀r,AS.own ⟨us.length,slotsOf 0 us,[],[]⟩ r=none:=by
  intro r
  cases r with
  |c k o=>rfl
  |s t=>
   simp only[AS.own]
   cases hlk:look (slotsOf 0 us) t with
   |none=>rfl
   |some u=>
    obtain⟨_,h2⟩:=cI us 0 t u hlk
    rw[Nat.sub_zero] at h2
    have ht:t < vs.length:=by rw[hl];exact(List.getElem?_eq_some_iff.1 h2).1
    exact(hr t u vs[t] h2 (List.getElem?_eq_getElem ht)).2
 have hs:SimE (fun b=>b < X.w.heap.size) X ⟨us.length,slotsOf 0 us,[],[]⟩ vs.toArray:=by
  refine⟨⟨by simp[hl],hg,fun b hb=>hb,fun t u hu=> ?_,fun k cs hk=>by simp[aO] at hk,fun x r hx=>by simp[aO] at hx,(fun r sz l ho=>by rw[hnown r] at ho;cases ho),(fun r r' sz l sz' l' a n c a' n' c' _ ho=>by rw[hnown r] at ho;cases ho)⟩,(fun p hp=>by cases hp)⟩
  obtain⟨_,h2⟩:=cI us 0 t u hu
  rw[Nat.sub_zero] at h2
  have ht:t < vs.length:=by rw[hl];exact(List.getElem?_eq_some_iff.1 h2).1
  have:vs.toArray.getD t undef=vs[t] :=by simp[ht]
  rw[this]
  exact(hr t u vs[t] h2 (List.getElem?_eq_getElem ht)).1
 refine(h.2 _ X vs.toArray hs).mono fun e w' ⟨X',out,H',p1,p2,p3,p4⟩=> ?_
 obtain⟨rfl,rfl⟩:=p2
 obtain⟨y,rfl,hy⟩:=p3
 subst p1
 exact⟨X',y,rfl,rfl,by simpa using hy.slot 0 u (by simp[aj]),⟨p4.os,p4.tape,p4.output,p4.size,fun b hb=>(p4.frame b hb).1⟩,hy.gb,fun b hb=>(p4.frame b hb).2⟩
theorem gz{B:Nat}{w w':World}{a:Addr}{v:Value}(hb:Below B w w')(ha:a.block < B)(h:w.cell? a=some v):w'.cell? a=some v:=by
 have:=hb.block a.block ha
 simp only[World.cell?,this] at h ⊢
 exact h
end Go.Proofs.Ytlhjbhgkhpbnfaa
namespace Go.Proofs.Ytlhjbhgkhpbnfaa
open Go.RowKit P
theorem ja{F:Nat→Prop}{X:GW}{σ:AS}{tm:Array Value}(h:SimE F X σ tm){B o:Nat}{cs:List AV}(hb:look σ.h B=some cs)(hm:eA cs=false){v:Value}(hu:cs[o]? =some (.v v)):X.w.cell? ⟨B,o,none⟩=some v∧X.w.frozen? ⟨B,o,none⟩=false:=by
 obtain⟨_,_,arr,e,fr,h1,h2,h3,h4⟩:=(h.box B cs hb).cells hm
 have ho:o < arr.size:=by rw[h2];exact(List.getElem?_eq_some_iff.1 hu).1
 have hx:arr[o]? =some arr[o] :=Array.getElem?_eq_getElem ho
 have:=bY (h4 o _ _ hu hx)
 refine⟨?_,h3 o⟩
 rw[World.cell?,h1]
 show arr[o]? =some v
 rw[hx,this]
def wq(N:Nat)(m:List UInt8):Option (PR aG):=cF ⟨N,bj N N⟩ m 0 0 0 []
def cmH(s:List UInt8)(at_ gr:Int)(n:Nat)(l:List Vstep):List (Nat × TB EE.T):=[(100000,.cs [.d .str s,.d (.int .i64) at_,.d (.int .i64) gr,.vec (.nam 7) 200001 n]),(200001,.vec 200001 (.nam 7) l)]
def cmR(kx:Nat):Rn:=⟨fun i=>if i=100000 then⟨kx,false,[]⟩ else⟨0,true,[]⟩⟩
abbrev q6(W:World)(kx:Nat)(b:Nat):Prop:=b < W.heap.size∧b≠kx
theorem GP(m:List UInt8)(W:World)(kx:Nat)(T:TypeId)(hk:W.heap[kx]? =some (.cells #[.string (mkB m),.int .i64 0,.int .i64 0,.slice none 0 0] T (0,0))):SimE (q6 W kx) ⟨W,fun _=>none⟩ ⟨1,slotsOf 0 [.v (.pointer (some ⟨kx,0,none⟩))],[(kx,[.v (.string (mkB m)),.v (.int .i64 0),.v (.int .i64 0),.v (.slice none 0 0)])],[]⟩ #[.pointer (some ⟨kx,0,none⟩)] :=by
 refine⟨⟨rfl,fun b n h=>(by cases h),fun b h=>h.1,fun t u hu=> ?_,fun k cs hk'=> ?_,fun x r hx=>by simp[aO] at hx,fun r sz l ho=> ?_,fun r r' sz l sz' l' a n c a' n' c' _ ho=> ?_⟩,fun p hp=>by cases hp⟩
 ·simp only[slotsOf,aj,aO] at hu
  split at hu
  ·rename_i e;subst e;cases hu;exact .v _
  ·cases hu
 ·simp only[aj,aO] at hk'
  split at hk'
  ·rename_i e
   subst e
   cases hk'
   refine dm.box ⟨rfl,fun h=>h.2 rfl,_,_,_,hk,rfl,fun o=>by simp[World.frozen?,hk],fun o u x hu hx=> ?_⟩
   match o,hu,hx with
   |0,hu,hx=>simp at hu hx;subst hu hx;exact .v _
   |1,hu,hx=>simp at hu hx;subst hu hx;exact .v _
   |2,hu,hx=>simp at hu hx;subst hu hx;exact .v _
   |3,hu,hx=>simp at hu hx;subst hu hx;exact .v _
   |n+4,hu,hx=>simp at hu
  ·cases hk'
 all_goals
  exfalso
  cases r with
  |s t=>
   simp only[AS.own,slotsOf,aj,aO] at ho
   split at ho<;> cases ho
  |c k o=>
   simp only[AS.own,aj,aO] at ho
   split at ho
   ·rename_i cs hcs
    split at hcs
    ·cases hcs
     match o,ho with
     |0,ho=>cases ho
     |1,ho=>cases ho
     |2,ho=>cases ho
     |3,ho=>cases ho
     |n+4,ho=>simp[cp] at ho
    ·cases hcs
   ·cases ho
theorem BT{N:Nat}(m:List UInt8)(W:World)(kx:Nat)(T:TypeId)(hk:W.heap[kx]? =some (.cells #[.string (mkB m),.int .i64 0,.int .i64 0,.slice none 0 0] T (0,0))){r:PR aG}(h:wq N m=some r):
  Calls Try.prog 34 #[.pointer (some ⟨kx,0,none⟩)] W fun e w'=>∃X':GW,X'.w=w'∧Ext (q6 W kx) ⟨W,fun _=>none⟩ X'∧match r with
   |.ok z=>e=.returned (.bool z.1)∧∃ρ:Rn,ρ 100000=kx∧Inj ρ (cmH z.2.1 z.2.2.1 z.2.2.2.1 z.2.2.2.2.1 z.2.2.2.2.2)∧SimE (q6 W kx) X' ⟨1,[(0,.v (.bool z.1))],hTo EE.toEnc ρ (cmH z.2.1 z.2.2.1 z.2.2.2.1 z.2.2.2.2.1 z.2.2.2.2.2),[]⟩ #[.bool z.1]
   |.pan v=>e=.panicked [{ v:=v,recovered:=false }] :=by
 have hinj:Inj (cmR kx) (cmH m 0 0 0 []):=by
  intro p hp q hq
  simp only[cmH,List.mem_cons,List.not_mem_nil,or_false] at hp hq
  rcases hp with rfl|rfl<;> rcases hq with rfl|rfl
  ·exact⟨fun _ _ _=>rfl,fun _=>rfl⟩
  ·exact⟨(fun _ h2 _=>by cases h2),(fun h=>by cases h)⟩
  ·exact⟨(fun h1 _ _=>by cases h1),(fun h=>by cases h)⟩
  ·exact⟨fun _ _ _=>rfl,fun _=>rfl⟩
 have hc:=gj (gT N N) m 0 0 0 [] h (cmR kx) hinj
 refine(hc.2 (q6 W kx) ⟨W,fun _=>none⟩ #[.pointer (some ⟨kx,0,none⟩)] (GP m W kx T hk)).mono ?_
 rintro e w' ⟨X',out,H',rfl,hp,he,hx⟩
 refine⟨X',rfl,hx,?_⟩
 obtain⟨q,ρ,rfl,ha,hq⟩:=hp
 cases r with
 |ok z=>
  obtain⟨rfl,rfl,hi⟩:=hq
  obtain⟨v,rfl,hs⟩:=he
  have hv:v=.bool z.1:=by
   have:=bY (hs.slot 0 (.v (.bool z.1)) (by exact cm))
   simpa using this
  subst hv
  refine⟨rfl,ρ,?_,hi,hs⟩
  have:=ha 100000 rfl
  show(ρ.k 100000).b=kx
  rw[this];rfl
 |pan v=>
  obtain⟨rfl,rfl⟩:=hq
  exact he.1
theorem SimE.args{F:Nat→Prop}{X:GW}{n:Nat}{t:List (Nat × AV)}{H:List (Nat × List AV)}{tm vs:Array Value}{us:List AV}(h:SimE F X ⟨n,t,H,[]⟩ tm)(hl:vs.size=us.length)(hu:∀ (i:Nat) u,us[i]? =some u→Rel X u (vs.getD i undef)∧cp (some u)=none):SimE F X ⟨us.length,slotsOf 0 us,H,[]⟩ vs:=by
 have hnoc:∀ (s sz:Nat) l,AS.own ⟨us.length,slotsOf 0 us,H,[]⟩ (.s s)=some (sz,l)→False:=fun s sz l ho=>by
  simp only[AS.own] at ho
  cases hlk:look (slotsOf 0 us) s with
  |none=>rw[hlk] at ho;cases ho
  |some u=>
   obtain⟨_,h2⟩:=cI us 0 s u hlk
   rw[Nat.sub_zero] at h2
   rw[hlk,(hu s u h2).2] at ho
   cases ho
 refine h.other hl h.fb (fun s u hs=> ?_) (fun k cs hk=>⟨hk,(h.box k cs hk).nF⟩) rfl (fun r=>r) (fun r sz l ho=>.inr ?_) (fun _ _ _ _ _ _ _ _ hne _ _ _ _=>hne)
 ·obtain⟨_,h2⟩:=cI us 0 s u hs
  rw[Nat.sub_zero] at h2
  exact(hu s u h2).1
 ·cases r with
  |s s=>exact(hnoc s sz l ho).elim
  |c k o=>exact⟨ho,rfl,fun q n c hr=>(h.own_nF (r:=.c k o) ho hr).1⟩
theorem LC{F:Nat→Prop}{X:GW}{n:Nat}{t:List (Nat × AV)}{tm:Array Value}{kx:Nat}{ρ:Rn}{s:List UInt8}{at_ gr:Int}{k:Nat}{l:List Vstep}(hs:SimE F X ⟨n,t,hTo EE.toEnc ρ (cmH s at_ gr k l),[]⟩ tm)(hk:ρ 100000=kx)(hi:Inj ρ (cmH s at_ gr k l))(e a:Int):
  Calls Try.prog 35 #[.pointer (some ⟨kx,0,none⟩),.int .i64 e,.int .i64 a] X.w fun x w'=>x=.panicked [{ v:=faultV e a,recovered:=false }] ∧∃X':GW,X'.w=w'∧Ext F X X':=by
 have hc:=gq (N:=0) e a s at_ gr k l (r:=.pan (faultV e a)) rfl ρ hi
 subst hk
 refine(hc.2 F X #[.pointer (some ⟨ρ 100000,0,none⟩),.int .i64 e,.int .i64 a] (hs.args rfl fun i u hu=> ?_)).mono ?_
 ·match i,hu with
  |0,hu=>cases hu;exact⟨.v _,rfl⟩
  |1,hu=>cases hu;exact⟨.v _,rfl⟩
  |2,hu=>cases hu;exact⟨.v _,rfl⟩
  |n+3,hu=>cases hu
 ·rintro x w' ⟨X',out,H',rfl,hp,he,hx⟩
  obtain⟨q,ρ',rfl,ha,hq⟩:=hp
  obtain⟨rfl,rfl⟩:=hq
  exact⟨he.1,X',rfl,hx⟩
def doneS:Vstep:=⟨4,0,0,none⟩
theorem MX{F:Nat→Prop}{X:GW}{n:Nat}{t:List (Nat × AV)}{tm:Array Value}{kx:Nat}{ρ:Rn}{s:List UInt8}{at_ gr:Int}{k:Nat}{l l':List Vstep}(hs:SimE F X ⟨n,t,hTo EE.toEnc ρ (cmH s at_ gr k l),[]⟩ tm)(hk:ρ 100000=kx)(hi:Inj ρ (cmH s at_ gr k l))(hv:kA 32 k l [doneS] =some l'):
  Calls Try.prog 36 #[.pointer (some ⟨kx,0,none⟩),.agg #[.int .i64 4,.int .i64 0,.int .i64 0,.pointer none]] X.w fun x w'=>(∃v,x=.returned v)∧∃X':GW,X'.w=w'∧Ext F X X'∧∃ (ρ':Rn) (t':List (Nat × AV)) (tm':Array Value),ρ' 100000=kx∧Inj ρ' (cmH s at_ gr l'.length l')∧SimE F X' ⟨1,t',hTo EE.toEnc ρ' (cmH s at_ gr l'.length l'),[]⟩ tm':=by
 have hc:=gH (N:=0) doneS s at_ gr k l (r:=.ok (w64 ((l'.length:Int) - 1),s,at_,gr,l'.length,l')) (by unfold aA;rw[hv];rfl) ρ hi
 subst hk
 refine(hc.2 F X #[.pointer (some ⟨ρ 100000,0,none⟩),.agg #[.int .i64 4,.int .i64 0,.int .i64 0,.pointer none]] (hs.args rfl fun i u hu=> ?_)).mono ?_
 ·match i,hu with
  |0,hu=>cases hu;exact⟨.v _,rfl⟩
  |1,hu=>
   cases hu
   refine⟨.ag _ #[_,_,_,_] rfl (fun i u x hu hx=> ?_),rfl⟩
   match i,hu,hx with
   |0,hu,hx=>cases hu;cases hx;exact .v _
   |1,hu,hx=>cases hu;cases hx;exact .v _
   |2,hu,hx=>cases hu;cases hx;exact .v _
   |3,hu,hx=>cases hu;cases hx;exact .v _
   |n+4,hu,hx=>cases hu
  |n+2,hu=>cases hu
 ·rintro x w' ⟨X',out,H',rfl,hp,he,hx⟩
  obtain⟨q,ρ',rfl,ha,hq⟩:=hp
  obtain⟨rfl,rfl,hi'⟩:=hq
  obtain⟨v,rfl,hs'⟩:=he
  exact⟨⟨v,rfl⟩,X',rfl,hx,ρ',_,_,congrArg Bk.b (ha 100000 rfl),hi',hs'⟩
theorem IU(W:World)(k2 k3:Nat)(hne:k2≠k3)(p:Value)(e a:Int)(T2 T3:TypeId)(h2:W.heap[k2]? =some (.cells #[p] T2 (0,0)))(h3:W.heap[k3]? =some (.cells #[.int .i64 e,.int .i64 a] T3 (0,0))):
  SimE (fun b=>b < W.heap.size∧b≠k2∧b≠k3) ⟨W,fun _=>none⟩ ⟨2,slotsOf 0 [.v (.pointer (some ⟨k2,0,none⟩)),.v (.pointer (some ⟨k3,0,none⟩))],[(k2,[.v p]),(k3,[.v (.int .i64 e),.v (.int .i64 a)])],[]⟩ #[.pointer (some ⟨k2,0,none⟩),.pointer (some ⟨k3,0,none⟩)] :=by
 have hno:∀r sz l,AS.own ⟨2,slotsOf 0 [.v (.pointer (some ⟨k2,0,none⟩)),.v (.pointer (some ⟨k3,0,none⟩))],[(k2,[.v p]),(k3,[.v (.int .i64 e),.v (.int .i64 a)])],[]⟩ r=some (sz,l)→False:=by
  intro r sz l ho
  cases r with
  |s t=>
   simp only[AS.own,slotsOf,aj,aO] at ho
   split at ho
   ·cases ho
   ·split at ho<;> cases ho
  |c k o=>
   simp only[AS.own,aj,aO] at ho
   split at ho
   ·rename_i cs hcs
    split at hcs
    ·cases hcs
     match o,ho with
     |0,ho=>cases ho
     |n+1,ho=>simp[cp] at ho
    ·split at hcs
     ·cases hcs
      match o,ho with
      |0,ho=>cases ho
      |1,ho=>cases ho
      |n+2,ho=>simp[cp] at ho
     ·cases hcs
   ·cases ho
 refine⟨⟨rfl,fun b n h=>(by cases h),fun b h=>h.1,fun t u hu=> ?_,fun k cs hk'=> ?_,fun x r hx=>by simp[aO] at hx,fun r sz l ho=>(hno r sz l ho).elim,fun r r' sz l sz' l' a n c a' n' c' _ ho=>(hno r sz l ho).elim⟩,fun p hp=>by cases hp⟩
 ·simp only[slotsOf,aj,aO] at hu
  split at hu
  ·rename_i e;subst e;cases hu;exact .v _
  ·split at hu
   ·rename_i e;subst e;cases hu;exact .v _
   ·cases hu
 ·simp only[aj,aO] at hk'
  split at hk'
  ·rename_i e
   subst e
   cases hk'
   refine dm.box ⟨rfl,fun h=>h.2.1 rfl,_,_,_,h2,rfl,fun o=>by simp[World.frozen?,h2],fun o u x hu hx=> ?_⟩
   match o,hu,hx with
   |0,hu,hx=>simp at hu hx;subst hu hx;exact .v _
   |n+1,hu,hx=>simp at hu
  ·split at hk'
   ·rename_i e
    subst e
    cases hk'
    refine dm.box ⟨rfl,fun h=>h.2.2 rfl,_,_,_,h3,rfl,fun o=>by simp[World.frozen?,h3],fun o u x hu hx=> ?_⟩
    match o,hu,hx with
    |0,hu,hx=>simp at hu hx;subst hu hx;exact .v _
    |1,hu,hx=>simp at hu hx;subst hu hx;exact .v _
    |n+2,hu,hx=>simp at hu
   ·cases hk'
theorem Co(W:World)(k2 k3:Nat)(hne:k2≠k3)(e a:Int)(T2 T3:TypeId)(h2:W.heap[k2]? =some (.cells #[.pointer none] T2 (0,0)))(h3:W.heap[k3]? =some (.cells #[.int .i64 0,.int .i64 0] T3 (0,0))):
  CallsD Try.prog 33 #[.pointer (some ⟨k2,0,none⟩),.pointer (some ⟨k3,0,none⟩)] (.panicking [{ v:=faultV e a,recovered:=false }]) W fun x u' w'=>u'=.panicking [{ v:=faultV e a,recovered:=true }] ∧(∃v,x=.returned v)∧w'.cell? ⟨k2,0,none⟩=some (.pointer none)∧w'.cell? ⟨k3,0,none⟩=some (.int .i64 e)∧w'.cell? ⟨k3,1,none⟩=some (.int .i64 a)∧(∃X':GW,X'.w=w'∧Ext (fun b=>b < W.heap.size∧b≠k2∧b≠k3) ⟨W,fun _=>none⟩ X'):=by
 refine(Jn k2 k3 e a hne _ ⟨W,fun _=>none⟩ _ (IU W k2 k3 hne _ 0 0 T2 T3 h2 h3)).mono ?_
 rintro x u' w' ⟨rfl,X',out,H',rfl,⟨rfl,l2,l3⟩,⟨v,rfl,hs⟩,hx⟩
 exact⟨rfl,⟨v,rfl⟩,(ja hs l2 rfl rfl).1,(ja hs l3 rfl rfl).1,(ja hs l3 rfl rfl).1,X',rfl,hx⟩
theorem KR(W:World)(k2 k3:Nat)(hne:k2≠k3)(p:Value)(e a:Int)(T2 T3:TypeId)(h2:W.heap[k2]? =some (.cells #[p] T2 (0,0)))(h3:W.heap[k3]? =some (.cells #[.int .i64 e,.int .i64 a] T3 (0,0))):
  CallsD Try.prog 33 #[.pointer (some ⟨k2,0,none⟩),.pointer (some ⟨k3,0,none⟩)] .returning W fun x u' w'=>u'=.returning∧(∃v,x=.returned v)∧w'.cell? ⟨k2,0,none⟩=some p∧w'.cell? ⟨k3,0,none⟩=some (.int .i64 e)∧w'.cell? ⟨k3,1,none⟩=some (.int .i64 a)∧(∃X':GW,X'.w=w'∧Ext (fun b=>b < W.heap.size∧b≠k2∧b≠k3) ⟨W,fun _=>none⟩ X'):=by
 refine(Ke k2 k3 (.v p) (.v (.int .i64 e)) (.v (.int .i64 a)) hne _ ⟨W,fun _=>none⟩ _ (IU W k2 k3 hne p e a T2 T3 h2 h3)).mono ?_
 rintro x u' w' ⟨rfl,X',out,H',rfl,⟨rfl,l2,l3⟩,⟨v,rfl,hs⟩,hx⟩
 exact⟨rfl,⟨v,rfl⟩,(ja hs l2 rfl rfl).1,(ja hs l3 rfl rfl).1,(ja hs l3 rfl rfl).1,X',rfl,hx⟩
theorem eK(w:World)(o:Obj):(w.alloc o).heap.size=w.heap.size+1:=by unfold World.alloc;exact Array.size_push ..
abbrev cpW(m:List UInt8)(w:World):World:=((w.alloc (.cells #[.pointer none] 54)).alloc (.cells #[.int .i64 0,.int .i64 0] 28)).alloc (.cells #[.string (mkB m),.int .i64 0,.int .i64 0,.slice none 0 0] 97)
theorem dR(m:List UInt8)(w:World):(cpW m w).heap.size=w.heap.size+1+1+1:=by rw[eK,eK,eK]
theorem IS(m:List UInt8)(w:World):(cpW m w).heap[w.heap.size+1+1]? =some (.cells #[.string (mkB m),.int .i64 0,.int .i64 0,.slice none 0 0] 97 (0,0)):=by
 have:=heap_alloc_new ((w.alloc (.cells #[.pointer none] 54)).alloc (.cells #[.int .i64 0,.int .i64 0] 28)) (.cells #[.string (mkB m),.int .i64 0,.int .i64 0,.slice none 0 0] 97)
 rwa [eK,eK] at this
theorem IH(m:List UInt8)(w:World):(cpW m w).heap[w.heap.size+1]? =some (.cells #[.int .i64 0,.int .i64 0] 28 (0,0)):=by
 rw[Below.heap_alloc _ _ _ (by rw[eK,eK];omega)]
 have:=heap_alloc_new (w.alloc (.cells #[.pointer none] 54)) (.cells #[.int .i64 0,.int .i64 0] 28)
 rwa [eK] at this
theorem G7(m:List UInt8)(w:World):(cpW m w).heap[w.heap.size]? =some (.cells #[.pointer none] 54 (0,0)):=by
 rw[Below.heap_alloc _ _ _ (by rw[eK,eK];omega),Below.heap_alloc _ _ _ (by rw[eK];omega)]
 exact heap_alloc_new w (.cells #[.pointer none] 54)
theorem rk(m:List UInt8)(w:World):Below w.heap.size w (cpW m w):=(((Below.refl _ w).alloc (Nat.le_refl _) _).alloc (by rw[eK];omega) _).alloc (by rw[eK,eK];omega) _
theorem fY{B:Nat}{F:Nat→Prop}{X X':GW}(h:Ext F X X')(hF:∀b,b < B→F b):Below B X.w X'.w:=⟨h.os,h.tape,h.output,h.size,fun b hb=>(h.frame b (hF b hb)).1⟩
set_option maxRecDepth 100000 in
set_option maxHeartbeats 4000000 in
theorem yF{N:Nat}(m:List UInt8)(hm:m.length≤60)(e a:Int)(h:wq N m=some (.pan (faultV e a)))(w:World):
  Calls Try.prog 21 #[.string (mkB m)] w fun x w'=>x=.returned (.tuple #[.pointer none,.agg #[.int .i64 e,.int .i64 a]])∧Below w.heap.size w w':=by
 have hsize:= @jJ
 have hmf:∀ (fn:Fn) (first cap:Array Value) (w:World),(Instr.makeFunc fn first cap).run Try.prog w=.ok (.func fn first cap) w:=fun _ _ _ _=>rfl
 have hmw:=BT m (cpW m w) (w.heap.size+1+1) _ (IS m w) h
 go_enter_defers Try.func21,Try.ntmps21
 go_wp2_with (go_at_call 34;refine hmw.mono ?_)
 intro x w' X1 hw hx1 hpan
 subst hw hpan
 have hne:w.heap.size≠w.heap.size+1:=by omega
 have f2:=(hx1.frame w.heap.size ⟨by rw[dR];omega,by omega⟩).1
 have f3:=(hx1.frame (w.heap.size+1) ⟨by rw[dR];omega,by omega⟩).1
 have hb1:Below w.heap.size w X1.w:=(rk m w).trans (fY hx1 fun b hb=>⟨by rw[dR];omega,by omega⟩)
 have hclo:=Co X1.w w.heap.size (w.heap.size+1) hne e a _ _ (f2.trans (G7 m w)) (f3.trans (IH m w))
 show bodyPostD _ _ _ _ _ _
 refine leaves_cons (f:=33) (args:= #[.pointer (some ⟨w.heap.size,0,none⟩),.pointer (some ⟨w.heap.size+1,0,none⟩)]) (by simp) (by simp[go_sem]) ?_
 refine hclo.mono ?_
 rintro y u' w2 ⟨rfl,⟨v,rfl⟩,c2,c3,c4,X2,rfl,hx2⟩
 simp[Leaves,settle,results,Try.results21,go_sem,c2,c3,c4]
 have hz:=fY (B:=w.heap.size) hx2 fun b hb=>⟨Nat.lt_of_lt_of_le hb hb1.size,by omega,by omega⟩
 exact hb1.trans hz
theorem vd{F:Nat→Prop}{X:GW}{n:Nat}{t:List (Nat × AV)}{tm:Array Value}{kx:Nat}{ρ:Rn}{s:List UInt8}{at_ gr:Int}{k:Nat}{l:List Vstep}(hs:SimE F X ⟨n,t,hTo EE.toEnc ρ (cmH s at_ gr k l),[]⟩ tm)(hk:ρ 100000=kx):X.w.cell? ⟨kx,1,none⟩=some (.int .i64 at_)∧X.w.cell? ⟨kx,2,none⟩=some (.int .i64 gr)∧X.w.cell? ⟨kx,3,none⟩=some (vecV (ρ.k 200001) 4 k):=by
 subst hk
 have hb:look (hTo EE.toEnc ρ (cmH s at_ gr k l)) (ρ 100000)=some [.v (.string (mkB s)),.v (.int .i64 at_),.v (.int .i64 gr),.v (vecV (ρ.k 200001) 4 k)] :=cm
 exact⟨(ja hs hb rfl rfl).1,(ja hs hb rfl rfl).1,(ja hs hb rfl rfl).1⟩
set_option maxRecDepth 100000 in
set_option maxHeartbeats 4000000 in
theorem xq{N:Nat}(m:List UInt8)(hm:m.length≤60){emp:Bool}{s:List UInt8}{at_ gr:Int}{k:Nat}{l:List Vstep}(h:wq N m=some (.ok (emp,s,at_,gr,k,l)))(hat:at_ < (m.length:Int))(w:World):
  Calls Try.prog 21 #[.string (mkB m)] w fun x w'=>x=.returned (.tuple #[.pointer none,.agg #[.int .i64 1,.int .i64 at_]])∧Below w.heap.size w w':=by
 have hsize:= @jJ
 have hmf:∀ (fn:Fn) (first cap:Array Value) (w:World),(Instr.makeFunc fn first cap).run Try.prog w=.ok (.func fn first cap) w:=fun _ _ _ _=>rfl
 have hmw:=BT m (cpW m w) (w.heap.size+1+1) _ (IS m w) h
 go_enter_defers Try.func21,Try.ntmps21
 go_wp2_with (go_at_call 34;refine hmw.mono ?_)
 intro x w' X1 hw hx1 hx ρ hρ hi hs
 subst hw hx
 obtain⟨c1,c2,c3⟩:=vd hs hρ
 have hne:w.heap.size≠w.heap.size+1:=by omega
 have f2:=(hx1.frame w.heap.size ⟨by rw[dR];omega,by omega⟩).1
 have f3:=(hx1.frame (w.heap.size+1) ⟨by rw[dR];omega,by omega⟩).1
 have hb1:Below w.heap.size w X1.w:=(rk m w).trans (fY hx1 fun b hb=>⟨by rw[dR];omega,by omega⟩)
 have hfw:=LC hs hρ hi 1 at_
 go_wp2_with (go_at_call 35;refine hfw.mono ?_)
 rintro x w' ⟨hx,X2,hw,hx2⟩
 subst hw hx
 have g2:=(hx2.frame w.heap.size ⟨by rw[dR];omega,by omega⟩).1
 have g3:=(hx2.frame (w.heap.size+1) ⟨by rw[dR];omega,by omega⟩).1
 have hb2:Below w.heap.size w X2.w:=hb1.trans (fY hx2 fun b hb=>⟨by rw[dR];omega,by omega⟩)
 have hclo:=Co X2.w w.heap.size (w.heap.size+1) hne 1 at_ _ _ (g2.trans (f2.trans (G7 m w))) (g3.trans (f3.trans (IH m w)))
 show bodyPostD _ _ _ _ _ _
 refine leaves_cons (f:=33) (args:= #[.pointer (some ⟨w.heap.size,0,none⟩),.pointer (some ⟨w.heap.size+1,0,none⟩)]) (by simp) (by simp[go_sem]) ?_
 refine hclo.mono ?_
 rintro y u' w2 ⟨rfl,⟨v,rfl⟩,c2,c3,c4,X3,rfl,hx3⟩
 simp[Leaves,settle,results,Try.results21,go_sem,c2,c3,c4]
 have hz:=fY (B:=w.heap.size) hx3 fun b hb=>⟨Nat.lt_of_lt_of_le hb hb2.size,by omega,by omega⟩
 exact hb2.trans hz
set_option maxRecDepth 100000 in
theorem xI(m:List UInt8)(hm:60 < m.length)(w:World):
  Calls Try.prog 21 #[.string (mkB m)] w fun x w'=>x=.returned (.tuple #[.pointer none,.agg #[.int .i64 2,.int .i64 0]])∧Below w.heap.size w w':=by
 have hsize:= @jJ
 go_enter_defers Try.func21,Try.ntmps21
 go_wp2
 simp[bodyPostD,Leaves,settle,results,Try.results21,go_sem]
 exact((Below.refl _ w).alloc (Nat.le_refl _) _).alloc (by rw[eK];omega) _
theorem MG(b:Bk)(sz n:Nat)(hn:n≠0):vecV b sz n=.slice (some ⟨b.b,0,none⟩) n (n+b.sp.length / sz):=by
 unfold vecV
 rw[if_neg]
 simp only[Bool.and_eq_true,not_and]
 intro _ h
 exact hn (Nat.eq_of_beq_eq_true h)
theorem tH{w:World}{b:Nat}{cs:Array Value}{T:TypeId}(h:w.heap[b]? =some (.cells cs T (0,0)))(o:Nat):w.frozen? ⟨b,o,none⟩=false:=by simp[World.frozen?,h]
theorem rl{U:World}{b:Nat}{cs:Array Value}{T:TypeId}{fr:Nat × Nat}(h:U.heap[b]? =some (.cells cs T fr))(o:Nat)(v:Value):(U.setCell ⟨b,o,none⟩ v).heap[b]? =some (.cells (cs.setIfInBounds o v) T fr):=by
 simp[World.setCell,Array.getElem?_modify,h]
abbrev enW(U:World)(k2 k3:Nat)(p:Value):World:=(((U.setCell ⟨k2,0,none⟩ p).setCell ⟨k3,0,none⟩ (.int .i64 0)).setCell ⟨k3,1,none⟩ (.int .i64 0)).drew
theorem NL{U:World}{k2 k3:Nat}{p q:Value}{T:TypeId}(hne:k2≠k3)(h:U.heap[k2]? =some (.cells #[q] T (0,0))):(enW U k2 k3 p).heap[k2]? =some (.cells #[p] T (0,0)):=by
 show(((U.setCell ⟨k2,0,none⟩ p).setCell ⟨k3,0,none⟩ (.int .i64 0)).setCell ⟨k3,1,none⟩ (.int .i64 0)).heap[k2]? =_
 rw[Below.heap_setCell _ _ _ _ hne,Below.heap_setCell _ _ _ _ hne]
 exact rl h 0 p
theorem MW{U:World}{k2 k3:Nat}{p a b:Value}{T:TypeId}(hne:k2≠k3)(h:U.heap[k3]? =some (.cells #[a,b] T (0,0))):(enW U k2 k3 p).heap[k3]? =some (.cells #[.int .i64 0,.int .i64 0] T (0,0)):=by
 have h1:(U.setCell ⟨k2,0,none⟩ p).heap[k3]? =some (.cells #[a,b] T (0,0)):=by rw[Below.heap_setCell _ _ _ _ (Ne.symm hne)];exact h
 exact rl (rl h1 0 (.int .i64 0)) 1 (.int .i64 0)
theorem La{U:World}{k2 k3 b:Nat}{p:Value}(h2:b≠k2)(h3:b≠k3):(enW U k2 k3 p).heap[b]? =U.heap[b]? :=by
 show(((U.setCell ⟨k2,0,none⟩ p).setCell ⟨k3,0,none⟩ (.int .i64 0)).setCell ⟨k3,1,none⟩ (.int .i64 0)).heap[b]? =_
 rw[Below.heap_setCell _ _ _ _ h3,Below.heap_setCell _ _ _ _ h3,Below.heap_setCell _ _ _ _ h2]
theorem Hl(U:World)(k2 k3:Nat)(p:Value):(enW U k2 k3 p).heap.size=U.heap.size:=by
 show(((U.setCell ⟨k2,0,none⟩ p).setCell ⟨k3,0,none⟩ (.int .i64 0)).setCell ⟨k3,1,none⟩ (.int .i64 0)).heap.size=_
 simp[World.setCell]
theorem A8{F:Nat→Prop}{X2 X4:GW}{w:World}{n k2 k3:Nat}{t2:List (Nat × AV)}{tm2:Array Value}{ρ2:Rn}{s:List UInt8}{at_ gr:Int}{l':List Vstep}{p:Value}{T:TypeId}(hs2:SimE F X2 ⟨n,t2,hTo EE.toEnc ρ2 (cmH s at_ gr l'.length l'),[]⟩ tm2)(hi2:Inj ρ2 (cmH s at_ gr l'.length l'))(hl0:l'.length≠0)
  (hF2:F k2) (hF3:F k3) (g2:X2.g k2=none) (g3:X2.g k3=none) (hg:∀b,b < w.heap.size→F b∧X2.g b=none) (hk2:w.heap.size≤k2) (hk3:w.heap.size≤k3) (hkm2:k2 < X2.w.heap.size) (hkm3:k3 < X2.w.heap.size)
  (hx4:Ext (fun b=>b < (enW (X2.w.alloc (.cells #[.int .i64 gr,.slice (some ⟨(ρ2.k 200001).b,0,none⟩) l'.length (l'.length+ (ρ2.k 200001).sp.length / 4)] T)) k2 k3 p).heap.size∧b≠k2∧b≠k3) ⟨enW (X2.w.alloc (.cells #[.int .i64 gr,.slice (some ⟨(ρ2.k 200001).b,0,none⟩) l'.length (l'.length+ (ρ2.k 200001).sp.length / 4)] T)) k2 k3 p,fun _=>none⟩ X4) (hb:Below w.heap.size w X2.w):
  ∃X':GW,X'.w=X4.w∧Ext (fun b=>b < w.heap.size) ⟨w,fun _=>none⟩ X'∧SimE (fun b=>b < w.heap.size) X' ⟨1,[],[(X2.w.heap.size,[.v (.int .i64 gr),.sl false 4 (l'.map (cells EE.toEnc (.nam 7)))])],[]⟩ #[undef] :=by
 have hlive:bb ρ2 (.vec 200001 (.nam 7) l':TB EE.T)=true:=by
  cases l' with
  |nil=>exact absurd rfl hl0
  |cons x xs=>
   show(!((ρ2.k 200001).nil && false))=true
   rw[Bool.and_false];rfl
 have hto:hTo EE.toEnc ρ2 (cmH s at_ gr l'.length l')=[(ρ2 100000,[.v (.string (mkB s)),.v (.int .i64 at_),.v (.int .i64 gr),.v (vecV (ρ2.k 200001) 4 l'.length)]),(ρ2 200001,(l'.map (cells EE.toEnc (.nam 7))).flatten++ (ρ2.k 200001).sp.map AV.v)] :=by
  show List.map _ (List.filter _ [_,_])=_
  rw[List.filter_cons_of_pos (by rfl),List.filter_cons_of_pos (by exact hlive)]
  rfl
 have hnk:ρ2 200001≠ρ2 100000:=fun e=>by
  have:=(hi2 _ (List.mem_cons_self) _ (List.mem_cons_of_mem _ List.mem_cons_self)).1 rfl hlive e.symm
  cases this
 have hbv:look (hTo EE.toEnc ρ2 (cmH s at_ gr l'.length l')) (ρ2 200001)=some ((l'.map (cells EE.toEnc (.nam 7))).flatten++ (ρ2.k 200001).sp.map AV.v):=by
  rw[hto];exact ek hnk cm
 obtain⟨X3,hw3,hs3,hfz,hx3⟩:=hs2.freeze hbv (by
  cases l' with
  |nil=>exact absurd rfl hl0
  |cons x xs=>rfl)
 have hlen:(l'.map (cells EE.toEnc (.nam 7))).length=l'.length:=List.length_map _
 have hrel:Rel X3 (.sl false 4 (l'.map (cells EE.toEnc (.nam 7)))) (.slice (some ⟨(ρ2.k 200001).b,0,none⟩) l'.length (l'.length+ (ρ2.k 200001).sp.length / 4)):=by
  have:=hfz.sl (sz:=4) (L:=l'.map (cells EE.toEnc (.nam 7))) (sp:=(ρ2.k 200001).sp.map AV.v) (c:=l'.length+ (ρ2.k 200001).sp.length / 4) rfl (fun r hr=>by
   obtain⟨z,_,rfl⟩:=List.mem_map.1 hr
   rfl) (by rw[hlen];exact Nat.le_add_right _ _)
  rwa [hlen] at this
 have n2:X3.g k2=none:=(hx3.frame k2 hF2).2.trans g2
 have n3:X3.g k3=none:=(hx3.frame k3 hF3).2.trans g3
 have hgb:∀b m,X3.g b=some m→b < X2.w.heap.size:=fun b m h=>by rw[← hw3];exact hs3.gb b m h
 have hus:∀o:Obj,(enW (X2.w.alloc o) k2 k3 p).heap.size=X2.w.heap.size+1:=fun o=>by rw[Hl,eK]
 have hheap:∀b,b < X2.w.heap.size→b≠k2→b≠k3→X4.w.heap[b]? =X2.w.heap[b]? :=fun b hlt e2 e3=>by
  rw[(hx4.frame b ⟨by rw[hus];omega,e2,e3⟩).1]
  show(enW _ k2 k3 p).heap[b]? =_
  rw[La e2 e3]
  exact Below.heap_alloc _ _ _ hlt
 have hkm:X4.w.heap[X2.w.heap.size]? =some (.cells #[.int .i64 gr,.slice (some ⟨(ρ2.k 200001).b,0,none⟩) l'.length (l'.length+ (ρ2.k 200001).sp.length / 4)] T (0,0)):=by
  rw[(hx4.frame X2.w.heap.size ⟨by rw[hus];omega,by omega,by omega⟩).1]
  show(enW _ k2 k3 p).heap[X2.w.heap.size]? =_
  rw[La (by omega) (by omega)]
  exact heap_alloc_new X2.w _
 have hsize:X2.w.heap.size+1≤X4.w.heap.size:=by
  have:=hx4.size
  rw[hus] at this
  exact this
 have hpres:kd X3 ⟨X4.w,X3.g⟩:=fun b m h=>⟨m,Nat.le_refl _,h,fun j hj=>by
  have hlt:=hgb b m h
  have e2:b≠k2:=fun e=>by rw[e,n2] at h;cases h
  have e3:b≠k3:=fun e=>by rw[e,n3] at h;cases h
  have:=hheap b hlt e2 e3
  rw[← hw3] at this
  simp only[World.cell?,this]⟩
 have hbel:Below w.heap.size w X4.w:=by
  refine⟨hx4.os.trans hb.os,hx4.tape.trans hb.tape,hx4.output.trans hb.output,by have:=hb.size;omega,fun b hlt=> ?_⟩
  rw[hheap b (by have:=hb.size;omega) (by omega) (by omega)]
  exact hb.block b hlt
 refine⟨⟨X4.w,X3.g⟩,rfl,⟨hbel.os,hbel.tape,hbel.output,hbel.size,fun b hlt=>⟨hbel.block b hlt,(hx3.frame b (hg b hlt).1).2.trans (hg b hlt).2⟩,fun b m h=>by cases h⟩,?_⟩
 have hno:∀r sz l,AS.own ⟨1,[],[(X2.w.heap.size,[.v (.int .i64 gr),.sl false 4 (l'.map (cells EE.toEnc (.nam 7)))])],[]⟩ r=some (sz,l)→False:=by
  intro r sz l ho
  cases r with
  |s t=>simp[AS.own,aO,cp] at ho
  |c k o=>
   simp only[AS.own,aj,aO] at ho
   split at ho
   ·rename_i cs hcs
    split at hcs
    ·cases hcs
     match o,ho with
     |0,ho=>cases ho
     |1,ho=>cases ho
     |n+2,ho=>simp[cp] at ho
    ·cases hcs
   ·cases ho
 refine⟨⟨rfl,fun b m h=>by have:=hgb b m h;show b < X4.w.heap.size;omega,fun b hlt=>by have:=hbel.size;show b < X4.w.heap.size;omega,fun t u hu=>by simp[aO] at hu,fun k cs hk'=> ?_,fun x r hx=>by simp[aO] at hx,fun r sz l ho=>(hno r sz l ho).elim,fun r r' sz l sz' l' a n c a' n' c' _ ho=>(hno r sz l ho).elim⟩,fun p hp=>by cases hp⟩
 simp only[aj,aO] at hk'
 split at hk'
 ·rename_i e
  subst e
  cases hk'
  refine dm.box ⟨?_,fun h=> ?_,_,_,_,hkm,rfl,fun o=>by simp[World.frozen?,hkm],fun o u x hu hx=> ?_⟩
  ·show X3.g X2.w.heap.size=none
   cases hq:X3.g X2.w.heap.size with
   |none=>rfl
   |some m=>exact absurd (hgb _ m hq) (Nat.lt_irrefl _)
  ·have:=hb.size
   have h2:X2.w.heap.size < w.heap.size:=h
   omega
  ·match o,hu,hx with
   |0,hu,hx=>simp at hu hx;subst hu hx;exact .v _
   |1,hu,hx=>simp at hu hx;subst hu hx;exact hrel.mono hpres
   |n+2,hu,hx=>simp at hu
 ·cases hk'
set_option maxRecDepth 100000 in
set_option maxHeartbeats 4000000 in
theorem Cb{N:Nat}(m:List UInt8)(hm:m.length≤60){emp:Bool}{s:List UInt8}{at_ gr:Int}{k:Nat}{l l':List Vstep}(h:wq N m=some (.ok (emp,s,at_,gr,k,l)))(hat:¬at_ < (m.length:Int))(hv:kA 32 k l [doneS] =some l')(hl0:l'.length≠0)(w:World):
  Calls Try.prog 21 #[.string (mkB m)] w fun x w'=>∃ (X':GW) (km:Nat),x=.returned (.tuple #[.pointer (some ⟨km,0,none⟩),.agg #[.int .i64 0,.int .i64 0]])∧X'.w=w'∧Ext (fun b=>b < w.heap.size) ⟨w,fun _=>none⟩ X'∧SimE (fun b=>b < w.heap.size) X' ⟨1,[],[(km,[.v (.int .i64 gr),.sl false 4 (l'.map (cells EE.toEnc (.nam 7)))])],[]⟩ #[undef] :=by
 have hsize:= @jJ
 have hmf:∀ (fn:Fn) (first cap:Array Value) (w:World),(Instr.makeFunc fn first cap).run Try.prog w=.ok (.func fn first cap) w:=fun _ _ _ _=>rfl
 have hmw:=BT m (cpW m w) (w.heap.size+1+1) _ (IS m w) h
 go_enter_defers Try.func21,Try.ntmps21
 go_wp2_with (go_at_call 34;refine hmw.mono ?_)
 intro x w' X1 hw hx1 hx ρ hρ hi hs
 subst hw hx
 obtain⟨c1,c2,c3⟩:=vd hs hρ
 have hne:w.heap.size≠w.heap.size+1:=by omega
 have f2:=(hx1.frame w.heap.size ⟨by rw[dR];omega,by omega⟩).1
 have f3:=(hx1.frame (w.heap.size+1) ⟨by rw[dR];omega,by omega⟩).1
 have hb1:Below w.heap.size w X1.w:=(rk m w).trans (fY hx1 fun b hb=>⟨by rw[dR];omega,by omega⟩)
 have hpw:=MX hs hρ hi hv
 go_wp2_with (go_at_call 36;refine hpw.mono ?_)
 rintro x w' ⟨⟨v,hx⟩,X2,hw,hx2,ρ2,t2,tm2,hρ2,hi2,hs2⟩
 subst hw hx
 have g2:X2.w.heap[w.heap.size]? =_:=(hx2.frame w.heap.size ⟨by rw[dR];omega,by omega⟩).1.trans (f2.trans (G7 m w))
 have g3:X2.w.heap[w.heap.size+1]? =_:=(hx2.frame (w.heap.size+1) ⟨by rw[dR];omega,by omega⟩).1.trans (f3.trans (IH m w))
 have hb2:Below w.heap.size w X2.w:=hb1.trans (fY hx2 fun b hb=>⟨by rw[dR];omega,by omega⟩)
 obtain⟨e1,e2,e3⟩:=vd hs2 hρ2
 rw[MG _ _ _ hl0] at e3
 have d2:X2.w.drew.cell? ⟨w.heap.size+1+1,2,none⟩=some (.int .i64 gr):=e2
 have d3:X2.w.drew.cell? ⟨w.heap.size+1+1,3,none⟩=some (.slice (some ⟨(ρ2.k 200001).b,0,none⟩) l'.length (l'.length+ (ρ2.k 200001).sp.length / 4)):=e3
 have hsz:w.heap.size+1+1+1≤X2.w.heap.size:=by
  have a1:=hx1.size
  have a2:=hx2.size
  rw[show(⟨cpW m w,fun _=>none⟩:GW).w.heap.size=w.heap.size+1+1+1 from dR m w] at a1
  omega
 have q2:∀o:Obj,(X2.w.alloc o).heap[w.heap.size]? =_:=fun o=>(Below.heap_alloc X2.w o _ (by omega)).trans g2
 have q3:∀o:Obj,(X2.w.alloc o).heap[w.heap.size+1]? =_:=fun o=>(Below.heap_alloc X2.w o _ (by omega)).trans g3
 have d4:∀o:Obj,(X2.w.alloc o).cell? ⟨w.heap.size,0,none⟩=some (.pointer none):=fun o=>by simp[World.cell?,q2 o]
 have d5:∀o:Obj,(X2.w.alloc o).cell? ⟨w.heap.size+1,0,none⟩=some (.int .i64 0):=fun o=>by simp[World.cell?,q3 o]
 have d6:∀o:Obj,(X2.w.alloc o).cell? ⟨w.heap.size+1,1,none⟩=some (.int .i64 0):=fun o=>by simp[World.cell?,q3 o]
 have r4:∀o:Obj,(X2.w.alloc o).frozen? ⟨w.heap.size,0,none⟩=false:=fun o=>tH (q2 o) 0
 have r5:∀o:Obj,(X2.w.alloc o).frozen? ⟨w.heap.size+1,0,none⟩=false:=fun o=>tH (q3 o) 0
 have r6:∀o:Obj,(X2.w.alloc o).frozen? ⟨w.heap.size+1,1,none⟩=false:=fun o=>tH (q3 o) 1
 go_wp2
 go_region
 go_wp2
 have hclo:=KR (enW (X2.w.alloc (.cells #[.int .i64 gr,.slice (some ⟨(ρ2.k 200001).b,0,none⟩) l'.length (l'.length+ (ρ2.k 200001).sp.length / 4)] 93)) w.heap.size (w.heap.size+1) (.pointer (some ⟨X2.w.heap.size,0,none⟩))) w.heap.size (w.heap.size+1) hne (.pointer (some ⟨X2.w.heap.size,0,none⟩)) 0 0 _ _ (NL hne (q2 _)) (MW hne (q3 _))
 refine leaves_cons (f:=33) (args:= #[.pointer (some ⟨w.heap.size,0,none⟩),.pointer (some ⟨w.heap.size+1,0,none⟩)]) (by simp) (by simp[go_sem]) ?_
 refine hclo.mono ?_
 rintro y u' w2 ⟨rfl,⟨v,rfl⟩,c2,c3,c4,X4,rfl,hx4⟩
 simp[Leaves,settle,results,Try.results21,go_sem,c2,c3,c4]
 have hF:∀b,b < w.heap.size+1+1→q6 (cpW m w) (w.heap.size+1+1) b∧X2.g b=none:=fun b hlt=>by
  have hb:q6 (cpW m w) (w.heap.size+1+1) b:=⟨by rw[dR];omega,by omega⟩
  exact⟨hb,(hx2.frame b hb).2.trans (hx1.frame b hb).2⟩
 exact A8 hs2 hi2 hl0 (hF _ (by omega)).1 (hF _ (by omega)).1 (hF _ (by omega)).2 (hF _ (by omega)).2 (fun b hb=>hF b (by omega)) (Nat.le_refl _) (by omega) (by omega) (by omega) hx4 hb2
theorem yI{xs:Array Value}(h:xs.size=2):∃a b,xs= #[a,b] :=by
 obtain⟨l⟩:=xs
 match l,h with
 | [a,b],_=>exact⟨a,b,rfl⟩
def exS(whole:List UInt8)(groups:List (List UInt8))(p:Vpiece):List UInt8:=
 if p.group=0 then whole else if 0 < p.group∧p.group≤(groups.length:Int) then groups.getD (p.group - 1).toNat [] else p.text
def Ac(whole:List UInt8)(groups:List (List UInt8)):List Vpiece→List UInt8→List UInt8 × Int
 | [],acc=>(acc,0)
 |p::ps,acc=>if 20000 < acc.length+ (exS whole groups p).length then([],2) else Ac whole groups ps (acc++exS whole groups p)
def zI(p:Vpiece):List AV:=[.v (.string (mkB p.text)),.v (.int .i64 p.group)]
def uB(s:List UInt8):List AV:=[.v (.string (mkB s))]
def GQ(w:World)(ps:List Vpiece)(v:Value):Prop:=∃ao cap,v=.slice ao ps.length cap∧∀i p,ps[i]? =some p→∃b off,ao=some ⟨b,off,none⟩∧w.cell? ⟨b,off+i * 2,none⟩=some (.string (mkB p.text))∧w.cell? ⟨b,off+i * 2+1,none⟩=some (.int .i64 p.group)
def HH(w:World)(l:List (List UInt8))(v:Value):Prop:=∃ao cap,v=.slice ao l.length cap∧∀i s,l[i]? =some s→∃b off,ao=some ⟨b,off,none⟩∧w.cell? ⟨b,off+i,none⟩=some (.string (mkB s))
theorem Lv{X:GW}{o:Bool}{v:Value}{ps:List Vpiece}(h:Rel X (.sl o 2 (ps.map zI)) v):GQ X.w ps v:=by
 generalize hL:ps.map zI=L at h
 cases h with
 |nl _ _ a0 c0=>
  have:ps=[] :=List.map_eq_nil_iff.1 hL
  subst this
  exact⟨a0,c0,rfl,fun i x hx=>by simp at hx⟩
 |sl _ _ _ b off cap n c hg hn hc hs hm hr=>
  subst hL
  refine⟨some ⟨b,off,none⟩,cap,by simp,fun i p hp=>⟨b,off,rfl,?_,?_⟩⟩
  ·have hi:(ps.map zI)[i]? =some [.v (.string (mkB p.text)),.v (.int .i64 p.group)] :=by simp[hp,zI]
   have h0:=bY (hr i 0 _ _ hi rfl)
   have h1:=hm i 0 _ _ hi rfl
   rw[h0] at h1;exact h1
  ·have hi:(ps.map zI)[i]? =some [.v (.string (mkB p.text)),.v (.int .i64 p.group)] :=by simp[hp,zI]
   have h0:=bY (hr i 1 _ _ hi rfl)
   have h1:=hm i 1 _ _ hi rfl
   rw[h0] at h1;exact h1
theorem Mv{X:GW}{o:Bool}{v:Value}{l:List (List UInt8)}(h:Rel X (.sl o 1 (l.map uB)) v):HH X.w l v:=by
 generalize hL:l.map uB=L at h
 cases h with
 |nl _ _ a0 c0=>
  have:l=[] :=List.map_eq_nil_iff.1 hL
  subst this
  exact⟨a0,c0,rfl,fun i x hx=>by simp at hx⟩
 |sl _ _ _ b off cap n c hg hn hc hs hm hr=>
  subst hL
  refine⟨some ⟨b,off,none⟩,cap,by simp,fun i p hp=>⟨b,off,rfl,?_⟩⟩
  have hi:(l.map uB)[i]? =some [.v (.string (mkB p))] :=by simp[hp,uB]
  have h0:=bY (hr i 0 _ _ hi rfl)
  have h1:=hm i 0 _ _ hi rfl
  rw[h0,Nat.mul_one] at h1;exact h1
theorem GQ.below{w w':World}{ps:List Vpiece}{v:Value}{B:Nat}(h:GQ w ps v)(hb:Below B w w')(hB:w.heap.size≤B):GQ w' ps v:=by
 obtain⟨ao,cap,e,hp⟩:=h
 refine⟨ao,cap,e,fun i p hi=> ?_⟩
 obtain⟨b,off,e1,h1,h2⟩:=hp i p hi
 have hlt:b < B:=Nat.lt_of_lt_of_le (jh h1) hB
 exact⟨b,off,e1,gz hb hlt h1,gz hb hlt h2⟩
theorem HH.below{w w':World}{l:List (List UInt8)}{v:Value}{B:Nat}(h:HH w l v)(hb:Below B w w')(hB:w.heap.size≤B):HH w' l v:=by
 obtain⟨ao,cap,e,hp⟩:=h
 refine⟨ao,cap,e,fun i p hi=> ?_⟩
 obtain⟨b,off,e1,h1⟩:=hp i p hi
 exact⟨b,off,e1,gz hb (Nat.lt_of_lt_of_le (jh h1) hB) h1⟩
def Mt(whole:List UInt8)(groups:List (List UInt8))(ps:List Vpiece):Bool:=decide (whole.length≤10000000000000) && groups.all (fun g=>decide (g.length≤10000000000000)) && ps.all (fun p=>decide (p.text.length≤10000000000000)) && decide (ps.length≤10000000000000) && decide (groups.length≤10000000000000)
set_option maxRecDepth 100000 in
set_option maxHeartbeats 4000000 in
theorem GZ{N:Nat}(t whole:List UInt8)(groups:List (List UInt8))(ps:List Vpiece)(hp:iM N t=some (ps,true))(hsm:Mt whole groups ps=true)(X:GW)(gv:Value)(hX:∀b n,X.g b=some n→b < X.w.heap.size)(hgv:HH X.w groups gv):
  Calls Try.prog 14 #[.string (mkB t),.string (mkB whole),gv] X.w fun e w'=>e=.returned (.tuple #[.string (mkB (Ac whole groups ps []).1),.int .i64 (Ac whole groups ps []).2])∧Below X.w.heap.size X.w w':=by
 have hpc:Calls Try.prog 28 #[.string (mkB t)] X.w fun e w'=>∃v,e=.returned (.tuple #[v,.bool true])∧GQ w' ps v∧Below X.w.heap.size X.w w':=by
  refine(kM (X:=X) (vs:=[.string (mkB t)]) (mq t hp Rn.zero) rfl hX ?_).mono ?_
  ·intro i u x hu hx
   match i,hu,hx with
   |0,hu,hx=>simp at hu hx;subst hu hx;exact⟨.v _,rfl⟩
  ·rintro e w' ⟨X',y,rfl,rfl,hr,hb,_⟩
   have hr':Rel X' (.tu [.sl false 2 (ps.map zI),.v (.bool true)]) y:=hr
   cases hr' with
   |tu _ xs hl hi=>
    obtain⟨v0,v1,rfl⟩:=yI (by simpa using hl.symm:xs.size=2)
    have h1:=bY (hi 1 _ _ rfl rfl)
    subst h1
    exact⟨v0,rfl,Lv (hi 0 _ _ rfl rfl),hb⟩
 have hsize:= @jJ
 obtain⟨⟨⟨⟨hw1,hw2⟩,hw3⟩,hw4⟩,hw5⟩:(((whole.length≤10000000000000∧(∀g∈groups,g.length≤10000000000000))∧∀p∈ps,p.text.length≤10000000000000)∧ps.length≤10000000000000)∧groups.length≤10000000000000:=by simpa[Mt] using hsm
 generalize hR:Ac whole groups ps [] =R
 have HR:=Lib.hid hR
 clear hR hsm
 go_enter Try.func14,Try.ntmps14
 go_wp2_with (go_at_call 28;refine hpc.mono ?_)
 rintro e W1 ⟨v,rfl,hps,b1⟩
 obtain⟨ao,cap,rfl,hcell⟩:=id hps
 obtain⟨ao2,cap2,rfl,hgc⟩:=id (hgv.below b1 (Nat.le_refl _))
 go_wp2
 have h0:D3 W1.heap.size W1.heap.size [] (W1.alloc (.cells #[.pointer none,.slice none 0 0] 81)):=Lib.fresh_isBuilder 81 5 W1
 have b0:Below W1.heap.size W1 (W1.alloc (.cells #[.pointer none,.slice none 0 0] 81)):=(Below.refl _ W1).alloc (Nat.le_refl _) _
 go_loopw [23] (fun i wr=>∃ (k:Nat) (acc:List UInt8),i=.int .i64 k∧k≤ps.length∧acc.length≤20000∧Hid (Ac whole groups (ps.drop k) acc=R)∧D3 W1.heap.size W1.heap.size acc wr∧Below W1.heap.size W1 wr) (fun i _=>ps.length - (intOf i).toNat)
 case atStart=>exact⟨0,[],rfl,Nat.zero_le _,by simp,HR,h0,b0⟩
 case round=>
  obtain⟨k,acc,rfl,hk,hacc,HJ,hI,hb⟩:=hrel
  by_cases hlt:k < ps.length
  ·obtain⟨b,off,rfl,c0,c1⟩:=hcell k ps[k] (List.getElem?_eq_getElem hlt)
   have d0:=gz hb (jh c0) c0
   have d1:=gz hb (jh c1) c1
   have hmem:ps[k] ∈ps:=List.getElem_mem hlt
   have hJ:=HJ.out
   rw[List.drop_eq_getElem_cons hlt] at hJ
   have hpt:=hw3 _ hmem
   generalize ps[k] =p at c0 c1 d0 d1 hmem hJ hpt
   have hcase:((p.group==0)=true∧p.group=0∧exS whole groups p=whole)∨(∃j:Nat,j < groups.length∧p.group=(j:Int)+1∧(p.group==0)=false∧exS whole groups p=groups.getD j [])∨((p.group==0)=false∧p.group < 0∧exS whole groups p=p.text)∨((p.group==0)=false∧(groups.length:Int) < p.group∧exS whole groups p=p.text):=by
    by_cases h0:p.group=0
    ·exact .inl ⟨by simp[h0],h0,by simp[exS,h0]⟩
    ·have hb0:(p.group==0)=false:=by simpa using h0
     by_cases h1:0 < p.group∧p.group≤(groups.length:Int)
     ·refine .inr (.inl ⟨(p.group - 1).toNat,by omega,by omega,hb0,by simp[exS,h0,h1]⟩)
     ·by_cases h2:p.group < 0
      ·exact .inr (.inr (.inl ⟨hb0,h2,by simp[exS,h0,h1]⟩))
      ·exact .inr (.inr (.inr ⟨hb0,by omega,by simp[exS,h0,h1]⟩))
   simp only[Ac] at hJ
   have HJ2:=Lib.hid hJ
   clear hJ HJ
   rcases hcase with ⟨hz,hg,hs⟩| ⟨j,hj,hg,hz,hs⟩| ⟨hz,hg,hs⟩| ⟨hz,hg,hs⟩
   ·have HJ3:=HJ2.out
    rw[hs] at HJ3
    have hsl:(whole).length≤10000000000000:=hw1
    rw[hg] at d1
    have al:=(Below.refl W1.heap.size wr).alloc hb.size (.cells #[.string (mkB p.text),.int .i64 0] 83)
    have hI2:=nI hI ((Below.refl _ wr).alloc (Nat.le_refl _) (.cells #[.string (mkB p.text),.int .i64 0] 83))
    by_cases hm:20000 < acc.length+ (whole).length
    ·rw[if_pos hm] at HJ3
     subst HJ3
     go_wp2_with (go_at_call 29;refine(rT W1.heap.size W1.heap.size acc _ hI2).mono ?_;rintro e VL ⟨rfl,rfl⟩)
     go_ret2
     exact⟨rfl,b1.trans (mn (hb.trans al) b1.size)⟩
    ·rw[if_neg hm] at HJ3
     have HJ4:=Lib.hid HJ3
     clear HJ3 HJ2
     go_wp2_with (go_at_call 29;refine(rT W1.heap.size W1.heap.size acc _ hI2).mono ?_;rintro e VL ⟨rfl,rfl⟩)
     refine(tc W1.heap.size W1.heap.size acc (whole) _ hI2 (by omega) (hb.trans al).size).mono ?_
     rintro e V3 ⟨rfl,hI3,c3⟩
     go_wp2
     refine⟨⟨k+1,acc++whole,by simp,by omega,by simp;omega,HJ4,hI3,(hb.trans al).trans c3⟩,by simp[intOf];omega⟩
   ·have HJ3:=HJ2.out
    rw[hs] at HJ3
    have hsl:(groups.getD j []).length≤10000000000000:=by rw[List.getD_eq_getElem?_getD,List.getElem?_eq_getElem hj];exact hw2 _ (List.getElem_mem hj)
    obtain⟨b2,off2,rfl,e0⟩:=hgc j (groups.getD j []) (by rw[List.getD_eq_getElem?_getD,List.getElem?_eq_getElem hj];rfl)
    generalize groups.getD j [] =S at hsl e0 hs HJ3
    rw[hg] at d1
    have al:=(Below.refl W1.heap.size wr).alloc hb.size (.cells #[.string (mkB p.text),.int .i64 ((j:Int)+1)] 83)
    have e1:=gz (hb.trans al) (jh e0) e0
    have hI2:=nI hI ((Below.refl _ wr).alloc (Nat.le_refl _) (.cells #[.string (mkB p.text),.int .i64 ((j:Int)+1)] 83))
    by_cases hm:20000 < acc.length+ (S).length
    ·rw[if_pos hm] at HJ3
     subst HJ3
     go_wp2_with (go_at_call 29;refine(rT W1.heap.size W1.heap.size acc _ hI2).mono ?_;rintro e VL ⟨rfl,rfl⟩)
     go_ret2
     exact⟨rfl,b1.trans (mn (hb.trans al) b1.size)⟩
    ·rw[if_neg hm] at HJ3
     have HJ4:=Lib.hid HJ3
     clear HJ3 HJ2
     go_wp2_with (go_at_call 29;refine(rT W1.heap.size W1.heap.size acc _ hI2).mono ?_;rintro e VL ⟨rfl,rfl⟩)
     refine(tc W1.heap.size W1.heap.size acc (S) _ hI2 (by omega) (hb.trans al).size).mono ?_
     rintro e V3 ⟨rfl,hI3,c3⟩
     go_wp2
     refine⟨⟨k+1,acc++S,by simp,by omega,by simp;omega,HJ4,hI3,(hb.trans al).trans c3⟩,by simp[intOf];omega⟩
   ·have HJ3:=HJ2.out
    rw[hs] at HJ3
    have hsl:(p.text).length≤10000000000000:=hpt
    have al:=(Below.refl W1.heap.size wr).alloc hb.size (.cells #[.string (mkB p.text),.int .i64 p.group] 83)
    have hI2:=nI hI ((Below.refl _ wr).alloc (Nat.le_refl _) (.cells #[.string (mkB p.text),.int .i64 p.group] 83))
    by_cases hm:20000 < acc.length+ (p.text).length
    ·rw[if_pos hm] at HJ3
     subst HJ3
     go_wp2_with (go_at_call 29;refine(rT W1.heap.size W1.heap.size acc _ hI2).mono ?_;rintro e VL ⟨rfl,rfl⟩)
     go_ret2
     exact⟨rfl,b1.trans (mn (hb.trans al) b1.size)⟩
    ·rw[if_neg hm] at HJ3
     have HJ4:=Lib.hid HJ3
     clear HJ3 HJ2
     go_wp2_with (go_at_call 29;refine(rT W1.heap.size W1.heap.size acc _ hI2).mono ?_;rintro e VL ⟨rfl,rfl⟩)
     refine(tc W1.heap.size W1.heap.size acc (p.text) _ hI2 (by omega) (hb.trans al).size).mono ?_
     rintro e V3 ⟨rfl,hI3,c3⟩
     go_wp2
     refine⟨⟨k+1,acc++p.text,by simp,by omega,by simp;omega,HJ4,hI3,(hb.trans al).trans c3⟩,by simp[intOf];omega⟩
   ·have HJ3:=HJ2.out
    rw[hs] at HJ3
    have hsl:(p.text).length≤10000000000000:=hpt
    have al:=(Below.refl W1.heap.size wr).alloc hb.size (.cells #[.string (mkB p.text),.int .i64 p.group] 83)
    have hI2:=nI hI ((Below.refl _ wr).alloc (Nat.le_refl _) (.cells #[.string (mkB p.text),.int .i64 p.group] 83))
    by_cases hm:20000 < acc.length+ (p.text).length
    ·rw[if_pos hm] at HJ3
     subst HJ3
     go_wp2_with (go_at_call 29;refine(rT W1.heap.size W1.heap.size acc _ hI2).mono ?_;rintro e VL ⟨rfl,rfl⟩)
     go_ret2
     exact⟨rfl,b1.trans (mn (hb.trans al) b1.size)⟩
    ·rw[if_neg hm] at HJ3
     have HJ4:=Lib.hid HJ3
     clear HJ3 HJ2
     go_wp2_with (go_at_call 29;refine(rT W1.heap.size W1.heap.size acc _ hI2).mono ?_;rintro e VL ⟨rfl,rfl⟩)
     refine(tc W1.heap.size W1.heap.size acc (p.text) _ hI2 (by omega) (hb.trans al).size).mono ?_
     rintro e V3 ⟨rfl,hI3,c3⟩
     go_wp2
     refine⟨⟨k+1,acc++p.text,by simp,by omega,by simp;omega,HJ4,hI3,(hb.trans al).trans c3⟩,by simp[intOf];omega⟩
  ·have hke:k=ps.length:=by omega
   subst hke
   have hJ:=HJ.out
   rw[List.drop_length] at hJ
   simp only[Ac] at hJ
   subst hJ
   go_wp2_with (go_at_call 31;refine(ND W1.heap.size W1.heap.size acc _ hI hb.size).mono ?_)
   rintro e V2 ⟨rfl,c2⟩
   go_wp2
   go_ret2
   exact⟨rfl,b1.trans (mn (hb.trans c2) b1.size)⟩
set_option maxRecDepth 100000 in
theorem Bw{N:Nat}(t whole:List UInt8)(ps:List Vpiece)(hp:iM N t=some (ps,false))(X:GW)(gv:Value)(hX:∀b n,X.g b=some n→b < X.w.heap.size):
  Calls Try.prog 14 #[.string (mkB t),.string (mkB whole),gv] X.w fun e w'=>e=.returned (.tuple #[.string (mkB []),.int .i64 1])∧Below X.w.heap.size X.w w':=by
 have hpc:Calls Try.prog 28 #[.string (mkB t)] X.w fun e w'=>∃v,e=.returned (.tuple #[v,.bool false])∧Below X.w.heap.size X.w w':=by
  refine(kM (X:=X) (vs:=[.string (mkB t)]) (mq t hp Rn.zero) rfl hX ?_).mono ?_
  ·intro i u x hu hx
   match i,hu,hx with
   |0,hu,hx=>simp at hu hx;subst hu hx;exact⟨.v _,rfl⟩
  ·rintro e w' ⟨X',y,rfl,rfl,hr,hb,_⟩
   have hr':Rel X' (.tu [.sl false 2 (ps.map zI),.v (.bool false)]) y:=hr
   cases hr' with
   |tu _ xs hl hi=>
    obtain⟨v0,v1,rfl⟩:=yI (by simpa using hl.symm:xs.size=2)
    have h1:=bY (hi 1 _ _ rfl rfl)
    subst h1
    exact⟨v0,rfl,hb⟩
 go_enter Try.func14,Try.ntmps14
 go_wp2_with (go_at_call 28;refine hpc.mono ?_)
 rintro e W1 ⟨v,rfl,b1⟩
 go_wp2
 go_ret2
 exact⟨rfl,b1⟩
theorem BU{f:FuncId}{us:List AV}{r:Value}{ur:AV}{P:Program}(hf:H8 P f)(hr:∀X,Rel X ur r)(hp:cp (some ur)=none)
  (h:∀ (X:GW) (vs:Array Value),(∀b n,X.g b=some n→b < X.w.heap.size)→vs.size=us.length→(∀ (i:Nat) u,us[i]? =some u→Rel X u (vs.getD i undef))→Calls P f vs X.w fun e w'=>e=.returned r∧Below X.w.heap.size X.w w'):aW P f us [] (fun out H=>out=.ret ur∧H=[]):=by
 refine⟨hf,fun F X xs hs=> ?_⟩
 refine(h X xs hs.gb (by simpa using hs.size) (fun i u hi=>hs.slot i u ?_)).mono fun e w' ⟨he,hb⟩=> ?_
 ·have:∀ (us:List AV) (k i:Nat) u,us[i]? =some u→look (slotsOf k us) (k+i)=some u:=by
   intro us
   induction us with
   |nil=>intro k i u h;simp at h
   |cons u0 us ih=>
    intro k i u h
    simp only[slotsOf,aj]
    cases i with
    |zero=>simp at h;subst h;simp
    |succ i=>rw[if_neg (by omega),show k+ (i+1)=(k+1)+i by omega];exact ih (k+1) i u (by simpa using h)
  have:=this us 0 i u hi
  simpa using this
 have hn:New X ⟨w',X.g⟩:=⟨hb.os,hb.tape,hb.output,hb.size,fun b hlt=>⟨hb.block b hlt,rfl⟩⟩
 have hgb:∀b n,X.g b=some n→b < w'.heap.size:=fun b n hg=>Nat.lt_of_lt_of_le (hs.gb b n hg) hb.size
 refine⟨⟨w',X.g⟩,.ret ur,[],rfl,⟨rfl,rfl⟩,⟨r,he,?_⟩,hn.ext hs.gb hs.fb⟩
 refine⟨⟨rfl,hgb,fun b hF=>Nat.lt_of_lt_of_le (hs.fb b hF) hb.size,fun t u hu=> ?_,fun k cs hk=>by simp[aO] at hk,fun x r hx=>by simp[aO] at hx,fun r sz l ho=> ?_,fun r r' sz l sz' l' a n c a' n' c' _ ho=> ?_⟩,fun p hp=>by cases hp⟩
 ·simp only[aj,aO] at hu
  split at hu
  ·rename_i e1;subst e1;cases hu;exact hr _
  ·cases hu
 ·cases r with
  |s t=>obtain⟨_,h2⟩:=gX ho;rw[hp] at h2;cases h2
  |c k o=>simp[AS.own,aO] at ho
 ·cases r with
  |s t=>obtain⟨_,h2⟩:=gX ho;rw[hp] at h2;cases h2
  |c k o=>simp[AS.own,aO] at ho
theorem D8{xs:Array Value}(h:xs.size=3):xs= #[xs.getD 0 undef,xs.getD 1 undef,xs.getD 2 undef] :=by
 obtain⟨l⟩:=xs
 match l,h with
 | [a,b,c],_=>rfl
def iU(N:Nat)(t whole:List UInt8)(groups:List (List UInt8)):Option (List UInt8 × Int):=
 match iM N t with
 |none=>none
 |some (ps,true)=>if Mt whole groups ps=true then some (Ac whole groups ps []) else none
 |some (_,false)=>some ([],1)
def vS(r:List UInt8 × Int):TV EE.T:=.tu [.a (.d .str r.1),.a (.d (.int .i64) r.2)]
theorem Kt(X:GW)(a b:Value):Rel X (.tu [.v a,.v b]) (.tuple #[a,b]):=by
 refine .tu _ _ rfl ?_
 intro i u x hu hx
 match i,hu,hx with
 |0,hu,hx=>simp at hu hx;subst hu hx;exact .v _
 |1,hu,hx=>simp at hu hx;subst hu hx;exact .v _
theorem qIO{N:Nat}(t whole:List UInt8)(groups:List (List UInt8)){r:List UInt8 × Int}(h:iU N t whole groups=some r):aW Try.prog 14 [.v (.string (mkB t)),.v (.string (mkB whole)),.sl false 1 (groups.map uB)] [] (fun out H=>out=.ret (.tu [.v (.string (mkB r.1)),.v (.int .i64 r.2)])∧H=[]):=by
 refine BU ⟨_,Try.func14,by kernel_rfl,rfl⟩ (fun X=>Kt X _ _) rfl fun X vs hX hv hr=> ?_
 have e0:=bY (hr 0 _ rfl)
 have e1:=bY (hr 1 _ rfl)
 have e2:=Mv (hr 2 _ rfl)
 rw[D8 hv,e0,e1]
 unfold iU at h
 split at h
 ·cases h
 ·rename_i ps hp
  split at h
  ·rename_i hsm
   cases h
   exact GZ t whole groups ps hp hsm X _ hX e2
  ·cases h
 ·rename_i ps hp
  cases h
  exact Bw t whole ps hp X _ hX
def kG(N:Nat):List (TV EE.T)→PV EE.T
 | [u0,u1,u2] =>match mj .str u0,mj .str u1,mj (.sl .str) u2 with
   |some x0,some x1,some x2=>.opt (iU N x0 x1 x2) vS
   |_,_,_=>.bad
 |_=>.bad
theorem su(N:Nat)(us:List (TV EE.T)):(kG N us).ok fun u=>∀ρ,aW Try.prog 14 (us.map (TV.to EE.toEnc ρ)) [] (fun out H=>out=.ret (u.to EE.toEnc ρ)∧H=[]):=by
 unfold kG
 split
 ·split
  ·rename_i u0 u1 u2 x0 x1 x2 h0 h1 h2
   intro z hz ρ
   refine gM (us':=([.a (.d .str x0),.a (.d .str x1),.a (.d (.sl .str) x2)] :List (TV EE.T))) ⟨eL h0 ρ,eL h1 ρ,eL h2 ρ,trivial⟩ ?_
   exact qIO x0 x1 x2 hz
  ·trivial
 ·trivial
end Go.Proofs.Ytlhjbhgkhpbnfaa
namespace Go.Proofs.Ytlhjbhgkhpbnfaa
open Go.Shelf Go.RowKit P
def Try.laysR_212:Go.Shelf.Ren:=⟨fun|212=>54|263=>64|264=>65|n=>n,fun|46=>119|51=>129|53=>132|146=>130|148=>133|n=>n,fun|n=>n⟩
set_option maxRecDepth 100000 in
theorem Try.laysn212:Go.Proofs.Lays.n212 Try.prog Try.laysR_212:={ mixed:=by kernel_rfl,f212:=Try.func54.trans (congrArg some (by kernel_rfl)),f263:=Try.func64.trans (congrArg some (by kernel_rfl)),f264:=Try.func65.trans (congrArg some (by kernel_rfl)),t46:=Try.underlying119,a46:=Try.isAgg119,z46:=Try.sizeOf119,v46:=Try.zeroValue119,t51:=Try.underlying129,a51:=Try.isAgg129,z51:=Try.sizeOf129,v51:=Try.zeroValue129,t53:=Try.underlying132,a53:=Try.isAgg132,z53:=Try.sizeOf132,v53:=Try.zeroValue132,t146:=Try.underlying130,a146:=Try.isAgg130,z146:=Try.sizeOf130,v146:=Try.zeroValue130,t148:=Try.underlying133,a148:=Try.isAgg133,z148:=Try.sizeOf133,v148:=Try.zeroValue133 }
theorem FB(x y:Nat)(hx:x < 18446744073709551616)(hy:y < 18446744073709551616)(w:World):Calls Try.prog 54 #[.int .u64 x,.int .u64 y] w fun e w'=>e=.returned (.tuple #[.int .u64 ((x * y / 18446744073709551616:Nat):Int),.int .u64 ((x * y % 18446744073709551616:Nat):Int)])∧w'=w:=Any.bits_Mul Try.laysn212 x y hx hy w
theorem JK(c:Nat)(hc:c≤1000000)(w:World):Calls Try.prog 54 #[.int .u64 1,.int .u64 c] w fun e w'=>e=.returned (.tuple #[.int .u64 0,.int .u64 c])∧w'=w:=
 (FB 1 c (by omega) (by omega) w).mono fun e w' h=>by
  rw[Nat.one_mul,Nat.div_eq_of_lt (by omega),Nat.mod_eq_of_lt (by omega)] at h
  exact h
theorem Nx:(Try.prog.info? 3).map (fun i=>(i.zero,i.size,i.bytes))=some (some (.int .i64 0),1,8):=by kernel_rfl
def jN(c k:Nat)(x:Int):List Value:=List.replicate k (.int .i64 x)++List.replicate (c - k) (.int .i64 0)
theorem Gl(c:Nat)(x:Int):madeCells #[Value.int .i64 0] c=(jN c 0 x).toArray:=by
 apply Array.ext
 ·simp[madeCells,jN]
 ·intro i h1 h2
  simp[madeCells,jN,Nat.mod_one]
theorem HY{c k:Nat}(h:k≤c)(x:Int):(jN c k x).length=c:=by unfold jN;simp;omega
theorem Fr{c k m:Nat}(x:Int)(h:k+m≤c):(jN c k x).take k++List.replicate m (.int .i64 x)++ (jN c k x).drop (k+m)=jN c (k+m) x:=by
 unfold jN
 rw[List.take_left' (by simp),List.drop_append]
 rw[← List.append_assoc,List.drop_of_length_le (by simp),List.append_nil,List.drop_replicate,List.length_replicate,List.replicate_append_replicate,Nat.add_sub_cancel_left,Nat.sub_sub]
theorem MH:(Try.prog.info? 3).map (·.size)=some 1:=by kernel_rfl
theorem An{w:World}{g c k m:Nat}{x:Int}{sLen:Nat}{a:Addr}{sCap dCap:Nat}(hk:k≤c)(hg:w.heap[g]? =some (.cells (jN c k x).toArray 3 (0,0)))(hm:m=Nat.min sLen (c - k))(hsrc:∀j,j < m→w.cell? (a.add j)=some (.int .i64 x)):
  (Builtin.copy_ #[38,38] 3 #[.slice (some ⟨g,k,none⟩) (c - k) dCap,.slice (some a) sLen sCap]).run Try.prog w=.ok (goInt m) (w.setRow g (jN c (k+m) x).toArray):=by
 have hm2:m≤c - k:=by rw[hm];exact Nat.min_le_right _ _
 have h:=run_copy_row (P:=Try.prog) w 38 38 3 3 g k (c - k) dCap a sLen sCap (jN c k x).toArray 3 (List.replicate m (.int .i64 x)) Try.underlying38 MH hg (by simpa using hm) (fun j v hj=>by
  rw[List.getElem?_replicate] at hj
  split at hj
  ·rename_i h1
   cases hj
   exact hsrc j h1
  ·cases hj) (by simp[HY hk];omega) (fun v hv=>by rw[(List.mem_replicate.1 hv).2];rfl)
 rw[List.length_replicate,List.toList_toArray,Fr x (by omega)] at h
 exact h
theorem E9{w:World}{g c k j:Nat}{x:Int}(hk:k≤c)(hg:w.heap[g]? =some (.cells (jN c k x).toArray 3 (0,0)))(hj:j < k):w.cell? ((⟨g,0,none⟩:Addr).add j)=some (.int .i64 x):=by
 have hadd:(⟨g,0,none⟩:Addr).add j=⟨g,0+j,none⟩:=by unfold Addr.add;split<;> simp_all
 rw[hadd]
 simp[World.cell?,hg,jN,List.getElem?_append,hj]
theorem Below.setRow_new{B:Nat}{w w':World}(h:Below B w w')(hB:B≤w.heap.size)(cs:Array Value):Below B w (w'.setRow B cs):=by
 refine⟨h.os,h.tape,h.output,by simpa[World.setRow] using h.size,fun b hb=> ?_⟩
 rw[← h.block b hb]
 simp[World.setRow,Array.getElem?_modify,Nat.ne_of_gt hb]
set_option maxRecDepth 100000 in
set_option maxHeartbeats 4000000 in
theorem GO(c:Nat)(hc:0 < c)(hc2:c≤1000000)(x:Int)(w:World)(b off cap:Nat)(hx:w.cell? ⟨b,off,none⟩=some (.int .i64 x)):
  Calls Try.prog 37 #[.slice (some ⟨b,off,none⟩) 1 cap,.int .i64 c] w fun e w'=>∃g,w.heap.size≤g∧e=.returned (.slice (some ⟨g,0,none⟩) c c)∧w'.heap[g]? =some (.cells (List.replicate c (.int .i64 x)).toArray 3 (0,0))∧Below w.heap.size w w':=by
 have hmk:=run_make_row' (P:=Try.prog) 38 3 (.int .i64 0) 8 Try.underlying38 Nx rfl .i64 .i64 c (by omega) (by omega)
 rw[Gl c x] at hmk
 have hg0:(w.alloc (.cells (jN c 0 x).toArray 3)).heap[w.heap.size]? =some (.cells (jN c 0 x).toArray 3 (0,0)):=heap_alloc_new w _
 have b0:Below w.heap.size w (w.alloc (.cells (jN c 0 x).toArray 3)):=(Below.refl _ w).alloc (Nat.le_refl _) _
 have hcp:=An (c:=c) (k:=0) (m:=1) (x:=x) (sLen:=1) (a:=⟨b,off,none⟩) (sCap:=cap) (dCap:=c) (Nat.zero_le _) hg0 (Nat.min_eq_left (by omega)).symm (fun j hj=>by
  have:j=0:=by omega
  subst this
  exact gz b0 (jh hx) hx)
 rw[Nat.sub_zero,Nat.zero_add] at hcp
 have hg1:=setRow_heap _ w.heap.size _ (jN c 1 x).toArray 3 (0,0) hg0
 go_enter Try.func37,Try.ntmps37
 go_wp2_with (go_at_call 54;refine(JK c hc2 _).mono ?_;rintro e V ⟨rfl,rfl⟩)
 have bS:=Below.setRow_new b0 (Nat.le_refl _) (jN c 1 x).toArray
 go_loopw [8] (fun n wr=>∃k:Nat,n=.int .i64 k∧0 < k∧k≤c∧wr.heap[V.heap.size]? =some (.cells (jN c k x).toArray 3 (0,0))∧Below V.heap.size V wr) (fun n _=>c - (intOf n).toNat)
 case atStart=>exact⟨1,rfl,by omega,by omega,hg1,bS⟩
 case round=>
  obtain⟨k,rfl,hk0,hk,hg,hb⟩:=hrel
  by_cases hlt:k < c
  ·have hgd:wr.drew.heap[V.heap.size]? =some (.cells (jN c k x).toArray 3 (0,0)):=hg
   have hck:¬c=k:=by omega
   have hcp2:=An (w:=wr.drew) (c:=c) (k:=k) (m:=Nat.min k (c - k)) (x:=x) (sLen:=k) (a:=⟨V.heap.size,0,none⟩) (sCap:=c) (dCap:=c - k) hk hgd rfl (fun j hj=>E9 hk hgd (Nat.lt_of_lt_of_le hj (Nat.min_le_left _ _)))
   have hg2:=setRow_heap _ V.heap.size _ (jN c (k+Nat.min k (c - k)) x).toArray 3 (0,0) hgd
   go_wp2
   go_region
   have hwr:wrap64 ((k:Int)+ ((k.min (c - k):Nat):Int))=((k+k.min (c - k):Nat):Int):=by
    have:=Nat.min_le_right k (c - k)
    have h2:k.min (c - k)≤c - k:=this
    unfold wrap64;omega
   have hm0:0 < k.min (c - k):=Nat.lt_min.2 ⟨hk0,by omega⟩
   have hmk:k.min (c - k)≤c - k:=Nat.min_le_right k (c - k)
   rw[hwr]
   go_wp2
   refine⟨⟨k+k.min (c - k),rfl,by omega,by omega,hg2,Below.setRow_new hb.drew (Nat.le_refl _) _⟩,?_⟩
   simp[intOf]
   omega
  ·have hke:k=c:=by omega
   subst hke
   go_wp2
   go_ret
   refine⟨V.heap.size,Nat.le_refl _,rfl,?_,hb⟩
   rw[hg];simp[jN]
theorem ug{f:FuncId}{us:List AV}{ur:AV}{P:Program}(hf:H8 P f)(hp:cp (some ur)=none)
  (h:∀ (X:GW) (vs:Array Value),(∀b n,X.g b=some n→b < X.w.heap.size)→vs.size=us.length→(∀ (i:Nat) u,us[i]? =some u→Rel X u (vs.getD i undef))→Calls P f vs X.w fun e w'=>∃X' r,X'.w=w'∧e=.returned r∧Rel X' ur r∧Below X.w.heap.size X.w w'∧(∀b n,X'.g b=some n→b < w'.heap.size)∧∀b,b < X.w.heap.size→X'.g b=X.g b):aW P f us [] (fun out H=>out=.ret ur∧H=[]):=by
 refine⟨hf,fun F X xs hs=> ?_⟩
 refine(h X xs hs.gb (by simpa using hs.size) (fun i u hi=>hs.slot i u ?_)).mono fun e w' ⟨X',r,hw,he,hr,hb,hgb,hgo⟩=> ?_
 ·have:∀ (us:List AV) (k i:Nat) u,us[i]? =some u→look (slotsOf k us) (k+i)=some u:=by
   intro us
   induction us with
   |nil=>intro k i u h;simp at h
   |cons u0 us ih=>
    intro k i u h
    simp only[slotsOf,aj]
    cases i with
    |zero=>simp at h;subst h;simp
    |succ i=>rw[if_neg (by omega),show k+ (i+1)=(k+1)+i by omega];exact ih (k+1) i u (by simpa using h)
  have:=this us 0 i u hi
  simpa using this
 subst hw
 have hn:New X X':=⟨hb.os,hb.tape,hb.output,hb.size,fun b hlt=>⟨hb.block b hlt,hgo b hlt⟩⟩
 refine⟨X',.ret ur,[],rfl,⟨rfl,rfl⟩,⟨r,he,?_⟩,hn.ext hs.gb hs.fb⟩
 refine⟨⟨rfl,hgb,fun b hF=>Nat.lt_of_lt_of_le (hs.fb b hF) hb.size,fun t u hu=> ?_,fun k cs hk=>by simp[aO] at hk,fun x r hx=>by simp[aO] at hx,fun r sz l ho=> ?_,fun r r' sz l sz' l' a n c a' n' c' _ ho=> ?_⟩,fun p hp=>by cases hp⟩
 ·simp only[aj,aO] at hu
  split at hu
  ·rename_i e1;subst e1;cases hu;exact hr
  ·cases hu
 ·cases r with
  |s t=>obtain⟨_,h2⟩:=gX ho;rw[hp] at h2;cases h2
  |c k o=>simp[AS.own,aO] at ho
 ·cases r with
  |s t=>obtain⟨_,h2⟩:=gX ho;rw[hp] at h2;cases h2
  |c k o=>simp[AS.own,aO] at ho
theorem zP{xs:Array Value}(h:xs.size=2):xs= #[xs.getD 0 undef,xs.getD 1 undef] :=by
 obtain⟨l⟩:=xs
 match l,h with
 | [a,b],_=>rfl
theorem G8(c:Nat)(hc:0 < c)(hc2:c≤1000000)(x:Int):aW Try.prog 37 [.sl false 1 [[.v (.int .i64 x)]],.v (.int .i64 c)] [] (fun out H=>out=.ret (.sl false 1 ((List.replicate c x).map fun z=>[.v (.int .i64 z)]))∧H=[]):=by
 refine ug ⟨_,Try.func37,by kernel_rfl,rfl⟩ rfl fun X vs hX hv hr=> ?_
 have e1:=bY (hr 1 _ rfl)
 have e0:=hr 0 _ rfl
 rw[zP hv,e1]
 generalize vs.getD 0 undef=v0 at e0
 cases e0 with
 |sl _ _ _ b off cap n cc hg hn hcap hs hm hri=>
  have h0:=bY (hri 0 0 _ _ rfl rfl)
  have h1:=hm 0 0 _ _ rfl rfl
  rw[h0] at h1
  refine(GO c hc hc2 x X.w b off cap (by simpa using h1)).mono ?_
  rintro e w' ⟨g,hle,rfl,hgc,hb⟩
  have hlt:g < w'.heap.size:=(Array.getElem?_eq_some_iff.1 hgc).1
  refine⟨⟨w',fun q=>if q=g then some c else X.g q⟩,_,rfl,rfl,?_,hb,fun q n hq=> ?_,fun q hq=>if_neg (by omega)⟩
  ·have hl:((List.replicate c x).map fun z=>[AV.v (.int .i64 z)]).length=c:=by simp
   have:=Rel.sl (X:=⟨w',fun q=>if q=g then some c else X.g q⟩) false 1 ((List.replicate c x).map fun z=>[AV.v (.int .i64 z)]) g 0 c c (fun _ _=>.int .i64 x) (if_pos rfl) (by rw[hl];omega) (by rw[hl];exact Nat.le_refl _) (fun i r hi=>by
    simp only[List.getElem?_map,Option.map_eq_some_iff] at hi
    obtain⟨z,_,rfl⟩:=hi;rfl) (fun i j r u hi hj=>by
    simp only[List.getElem?_map,Option.map_eq_some_iff,List.getElem?_replicate] at hi
    obtain⟨z,hz,rfl⟩:=hi
    split at hz
    ·rename_i hic
     match j,hj with
     |0,_=>simp[World.cell?,hgc,List.getElem?_replicate,hic]
    ·cases hz) (fun i j r u hi hj=>by
    simp only[List.getElem?_map,Option.map_eq_some_iff,List.getElem?_replicate] at hi
    obtain⟨z,hz,rfl⟩:=hi
    split at hz
    ·cases hz
     match j,hj with
     |0,hj=>simp at hj;subst hj;exact .v _
    ·cases hz)
   rw[hl] at this
   exact this
  ·dsimp only at hq
   split at hq
   ·rename_i e;subst e;exact hlt
   ·exact Nat.lt_of_lt_of_le (hX q n hq) hb.size
def gK(N:Nat)(l:List Int)(c:Int):Option (List Int):=match l with
 | [x] =>if 0 < c∧c≤1000000 then some (List.replicate c.toNat x) else none
 |_=>none
theorem tL{N:Nat}{l:List Int}{c:Int}{r:List Int}(h:gK N l c=some r):∃x,l=[x] ∧0 < c∧c≤1000000∧r=List.replicate c.toNat x:=by
 match l,h with
 | [x],h=>
   simp only[gK] at h
   split at h
   ·rename_i hc
    exact⟨x,rfl,hc.1,hc.2,(Option.some.inj h).symm⟩
   ·cases h
def zb(r:List Int):TV EE.T:=.a (.d (.sl (.int .i64)) r)
def mI(N:Nat):List (TV EE.T)→PV EE.T
 | [u0,u1] =>match mj (.sl (.int .i64)) u0,mj (.int .i64) u1 with
   |some x0,some x1=>.opt (gK N x0 x1) zb
   |_,_=>.bad
 |_=>.bad
theorem vz(N:Nat)(us:List (TV EE.T)):(mI N us).ok fun u=>∀ρ,aW Try.prog 37 (us.map (TV.to EE.toEnc ρ)) [] (fun out H=>out=.ret (u.to EE.toEnc ρ)∧H=[]):=by
 unfold mI
 split
 ·split
  ·rename_i u0 u1 x0 x1 h0 h1
   intro z hz ρ
   obtain⟨x,rfl,hc1,hc2,rfl⟩:=tL hz
   refine gM (us':=([.a (.d (.sl (.int .i64)) [x]),.a (.d (.int .i64) x1)] :List (TV EE.T))) ⟨eL h0 ρ,eL h1 ρ,trivial⟩ ?_
   have h:=G8 x1.toNat (by omega) (by omega) x
   rw[show((x1.toNat:Nat):Int)=x1 by omega] at h
   exact h
  ·trivial
 ·trivial
end Go.Proofs.Ytlhjbhgkhpbnfaa
namespace Go.Proofs.Ytlhjbhgkhpbnfaa
open Go.RowKit P
set_option maxRecDepth 100000
abbrev bw:=Nat × VMask × (List (Int × Bool)) × (List Vthread)
def ah(N:Nat)(n:Nat)(x1_n:Nat)(x4:Int)(b8:Vthread)(b11:Vstep)(NX:VMask)(N6:List (Int × Bool))(N7:List Vthread):Option (PR bw):=
 bif b11.kind==2 then
  (bz N x1_n ({ at_:=b11.a,slots:=b8.slots }:Vthread) x4 NX N7 N6).bind fun z121=>
  match z121 with
  |.pan vz121=>
   some (.pan vz121)
  |.ok z122=>
   some (.ok (z122.1,z122.2.1,z122.2.2.2,z122.2.2.1))
 else
  bif b11.kind==1 then
   (bz N x1_n ({ at_:=b11.a,slots:=b8.slots }:Vthread) x4 NX N7 N6).bind fun z123=>
   match z123 with
   |.pan vz123=>
    some (.pan vz123)
   |.ok z124=>
    (bz N z124.1 ({ at_:=b11.b,slots:=b8.slots }:Vthread) x4 z124.2.1 z124.2.2.1 z124.2.2.2).bind fun z125=>
    match z125 with
    |.pan vz125=>
     some (.pan vz125)
    |.ok z126=>
     some (.ok (z126.1,z126.2.1,z126.2.2.2,z126.2.2.1))
  else
   bif b11.kind==3 then
    (f0 N b8.slots).bind fun z127=>
    match z127 with
    |.pan vz127=>
     some (.pan vz127)
    |.ok z128=>
     (dP z128.1 b11.a).bind fun z129=>
     (z128.2[z129]?).bind fun z130=>
     (j8 z128.1 (List.set z128.2 z129 x4)).bind fun z131=>
     (bz N x1_n ({ at_:=w64 (b8.at_+1),slots:=z131 }:Vthread) x4 NX N7 N6).bind fun z132=>
     match z132 with
     |.pan vz132=>
      some (.pan vz132)
     |.ok z133=>
      some (.ok (z133.1,z133.2.1,z133.2.2.2,z133.2.2.1))
   else
    (kA 32 x1_n N7 ([b8] :List Vthread)).bind fun z134=>
    some (.ok (z134.length,NX,N6,z134))
def dE(N:Nat)(x3:Vthread)(x4:Int)(y0:VMask)(y1:List (Int × Bool)):Option (PR bw):=
 bif (kH y1 x3.at_).getD false then
  some (.ok (0,y0,y1,([] :List Vthread)))
 else
  (ap y0.steps x3.at_).bind fun z120=>
  ah N N 0 x4 x3 z120 y0 (aF y1 x3.at_ true) ([] :List Vthread)
abbrev az:=Bool × (List (List UInt8)) × VMask
def bQ(N:Nat)(k9:(List UInt8)→Int→Nat→Int→Int→Nat→Int→Int→(List (Int × Bool))→VMask→(List Vthread)→(List Vthread)→Option (PR az))(k4:(List UInt8)→Nat→Int→Int→VMask→(List Vthread)→Option (PR az))(n:Nat)(x1:List UInt8)(x8:Int)(x9_n:Nat)(x30:Int)(x31:Int)(x35_n:Nat)(x36:Int)(x37:Int)(b34:List (Int × Bool))(NX:VMask)(N3:List Vthread)(N4:List Vthread):Option (PR az):=
 k9 x1 x8 x9_n x30 x31 x35_n x36 (w64 (x37+1)) b34 NX N3 N4
def aa(N:Nat)(k9:(List UInt8)→Int→Nat→Int→Int→Nat→Int→Int→(List (Int × Bool))→VMask→(List Vthread)→(List Vthread)→Option (PR az))(k4:(List UInt8)→Nat→Int→Int→VMask→(List Vthread)→Option (PR az))(n:Nat)(x1:List UInt8)(x8:Int)(x9_n:Nat)(x30:Int)(x31:Int)(x35_n:Nat)(x36:Int)(x37:Int)(b12:Vthread)(b13:Vstep)(b34:List (Int × Bool))(NX:VMask)(N3:List Vthread)(N4:List Vthread):Option (PR az):=
 bif b13.kind==0 then
  (ap x1 x8).bind fun z130=>
  (b13.set_).bind fun z131=>
  (rH 256 (some z131) (b2i z130)).bind fun z132=>
  bif z132 then
   (bz N x9_n ({ at_:=w64 (b12.at_+1),slots:=b12.slots }:Vthread) (w64 (x8+1)) NX N4 b34).bind fun z133=>
   match z133 with
   |.pan vz133=>
    some (.pan vz133)
   |.ok z134=>
    bQ N k9 k4 n x1 x8 z134.1 x30 x31 x35_n x36 x37 z134.2.2.2 z134.2.1 N3 z134.2.2.1
  else
   bQ N k9 k4 n x1 x8 x9_n x30 x31 x35_n x36 x37 b34 NX N3 N4
 else
  bQ N k9 k4 n x1 x8 x9_n x30 x31 x35_n x36 x37 b34 NX N3 N4
def ab(N:Nat)(k4:(List UInt8)→Nat→Int→Int→VMask→(List Vthread)→Option (PR az)):Nat→(List UInt8)→Int→Nat→Int→Int→Nat→Int→Int→(List (Int × Bool))→VMask→(List Vthread)→(List Vthread)→Option (PR az)
 |0,_,_,_,_,_,_,_,_,_,_,_,_=>none
 |n+1,x1,x8,x9_n,x30,x31,x35_n,x36,x37,b34,NX,N3,N4=>
  bif decide (x37 < x36) then
   (dP x35_n x37).bind fun z4=>
   (N3[z4]?).bind fun z5=>
   (ap NX.steps z5.at_).bind fun z125=>
   aa N (ab N k4 n) k4 n x1 x8 x9_n x30 x31 x35_n x36 x37 z5 z125 b34 NX N3 N4
  else
   k4 x1 x9_n x30 (w64 (x31+1)) NX N4
def cr(N:Nat):Nat→(List UInt8)→Nat→Int→Int→VMask→(List Vthread)→Option (PR az)
 |0,_,_,_,_,_,_=>none
 |n+1,x1,x77_n,x78,x79,NX,N3=>
  bif decide (x79 < x78) then
   (dP x77_n x79).bind fun z126=>
   (N3[z126]?).bind fun z127=>
   (ap NX.steps z127.at_).bind fun z128=>
   bif z128.kind==4 then
    (dy N x1 z127.slots NX).bind fun z129=>
    some (.ok (true,z129.1,z129.2))
   else
    cr N n x1 x77_n x78 (w64 (x79+1)) NX N3
  else
   some (.ok (false,([] :List (List UInt8)),NX))
def cj(N:Nat):Nat→(List UInt8)→Nat→Int→Int→VMask→(List Vthread)→Option (PR az)
 |0,_,_,_,_,_,_=>none
 |n+1,x1,x7_n,x30,x31,NX,N3=>
  bif decide (x31 < x30) then
   ab N (cj N n) n x1 x31 0 x30 x31 x7_n (x7_n:Int) 0 ([] :List (Int × Bool)) NX N3 ([] :List Vthread)
  else
   cr N n x1 x7_n (x7_n:Int) 0 NX N3
def dG(N:Nat)(x1:List UInt8)(y0:VMask):Option (PR az):=
 (gK N ([(-1)] :List Int) (w64 ((w64 (2 * y0.Groups))+2))).bind fun z1=>
 (dE N ({ at_:=0,slots:=z1 }:Vthread) 0 y0 ([] :List (Int × Bool))).bind fun z2=>
 match z2 with
 |.pan vz2=>
  some (.pan vz2)
 |.ok z3=>
  cj N N x1 z3.1 (x1.length:Int) 0 z3.2.1 z3.2.2.2
set_option maxRecDepth 100000
def fc(i0:Nat)(i1:Nat)(r:bw):TV EE.T:=.a (.vec (.nam 10) 300000 r.1)
def s0(i0:Nat)(i1:Nat)(r:bw):List (Nat × TB EE.T):=[(i0,.cs (eD EE (.nam 8) r.2.1)),(i1,.imap .bool r.2.2.1),(300000,.vec 300000 (.nam 10) r.2.2.2)]
def eO(r:PR bw):RL EE.T:=nr (fc 100000 100001) (s0 100000 100001) r
def KY:Lvs:=⟨[(4,⟨[(0,false),(1,false),(2,false),(4,false),(8,false)],[],[(8,(some 10,[])),(100000,(some 8,[])),(100001,(none,[])),(700001,(none,[]))],[]⟩),(5,⟨[(0,false),(1,false),(2,false),(4,false),(8,false),(11,false)],[],[(8,(some 10,[])),(11,(some 7,[])),(100000,(some 8,[])),(100001,(none,[])),(700001,(none,[]))],[]⟩)],[],[5],[],false,[(100000,(some 8,[]))],[100000,100001,300000],[(0,[.nl (.s 1) 700001 (.nam 10)]),(14,[.cl 401104 (.v (.int .i64)) (.s 12)])],[(88,300000),(700001,300000)]⟩
def Kr:List ResultVar:=[.tmp 10]
def GX(N:Nat):Gam EE:=⟨[],EQT,[⟨55,nc N⟩,⟨38,hD N⟩],[]⟩
theorem HC(N:Nat):GOk Try.prog TT EE (GX N):=GOk.consx (oJ N) (GOk.consx (i8 N) (GOk.nil dQ))
def Aw(c:Code):List It2:=atR 5 c
def Bj(x1_n:Nat)(x4:Int)(b8:Vthread)(b11:Vstep)(NX:VMask)(N6:List (Int × Bool))(N7:List Vthread):TS EE.T:=⟨89,[(0,.a (.box 100000 0)),(1,.a (.vec (.nam 10) 700001 x1_n)),(2,.a (.mpr 100001)),(4,.a (.d (.int .i64) x4)),(8,.a (.box 8 0)),(11,.a (.box 11 0))],[(8,.cs (eD EE (.nam 10) b8)),(11,.cs (eD EE (.nam 7) b11)),(100000,.cs (eD EE (.nam 8) NX)),(100001,.imap .bool N6),(700001,.vec 700001 (.nam 10) N7)],[]⟩
def Gv(c:Code):List It2:=[.c c]
def FP(x3:Vthread)(x4:Int)(y0:VMask)(y1:List (Int × Bool)):TS EE.T:=⟨89,[(0,.a (.box 100000 0)),(1,.a (.raw (.slice none 0 0))),(2,.a (.mpr 100001)),(3,.ag (eD EE (.nam 10) x3)),(4,.a (.d (.int .i64) x4))],[(100000,.cs (eD EE (.nam 8) y0)),(100001,.imap .bool y1)],[]⟩
def ar(c:Code)(f:Nat→Int→Vthread→Vstep→VMask→(List (Int × Bool))→(List Vthread)→Option (PR bw))(x1_n:Nat)(x4:Int)(b8:Vthread)(b11:Vstep)(NX:VMask)(N6:List (Int × Bool))(N7:List Vthread):Tree (Lf EE.T × Option (PR bw)):=.leaf (.go (Aw c) (Bj x1_n x4 b8 b11 NX N6 N7),f x1_n x4 b8 b11 NX N6 N7)
abbrev Cx(N:Nat)(r:PR bw)(k:List It2)(s:TS EE.T):Prop:=gB (Y:=TT) EE (GX N) KY Kr (fun u=>u=eO r) k s
def iH(x:PR bw):Tree (Lf EE.T × Option (PR bw)):=.leaf (.done (eO x),some x)
theorem av{N:Nat}{r:PR bw}(n:Nat)(x1_n:Nat)(x4:Int)(b8:Vthread)(b11:Vstep)(NX:VMask)(N6:List (Int × Bool))(N7:List Vthread)(h:ah N n x1_n x4 b8 b11 NX N6 N7=some r):Cx N r (Aw (ai 0 Try.f38)) (Bj x1_n x4 b8 b11 NX N6 N7):=
 aX (m:=4000) (t:=
 .cond (b11.kind==2)
 (
  .bnd (bz N x1_n ({ at_:=b11.a,slots:=b8.slots }:Vthread) x4 NX N7 N6) fun z121=>
  .sm z121 (fun z122=>
   iH (.ok (z122.1,z122.2.1,z122.2.2.2,z122.2.2.1))) (fun vz121=>
   iH (.pan vz121)))
 (
  .cond (b11.kind==1)
  (
   .bnd (bz N x1_n ({ at_:=b11.a,slots:=b8.slots }:Vthread) x4 NX N7 N6) fun z123=>
   .sm z123 (fun z124=>
    .bnd (bz N z124.1 ({ at_:=b11.b,slots:=b8.slots }:Vthread) x4 z124.2.1 z124.2.2.1 z124.2.2.2) fun z125=>
    .sm z125 (fun z126=>
     iH (.ok (z126.1,z126.2.1,z126.2.2.2,z126.2.2.1))) (fun vz125=>
     iH (.pan vz125))) (fun vz123=>
    iH (.pan vz123)))
  (
   .cond (b11.kind==3)
   (
    .bnd (f0 N b8.slots) fun z127=>
    .sm z127 (fun z128=>
     .bnd (dP z128.1 b11.a) fun z129=>
     .bnd (z128.2[z129]?) fun z130=>
     .bnd (j8 z128.1 (List.set z128.2 z129 x4)) fun z131=>
     .bnd (bz N x1_n ({ at_:=w64 (b8.at_+1),slots:=z131 }:Vthread) x4 NX N7 N6) fun z132=>
     .sm z132 (fun z133=>
      iH (.ok (z133.1,z133.2.1,z133.2.2.2,z133.2.2.1))) (fun vz132=>
      iH (.pan vz132))) (fun vz127=>
     iH (.pan vz127)))
   (
    .bnd (kA 32 x1_n N7 ([b8] :List Vthread)) fun z134=>
    iH (.ok (z134.length,NX,N6,z134)))))) (by kernel_rfl) (by kernel_rfl) h (⟨fun _=>⟨fun _=>bm (enc:=eO) rfl,fun _=>bm (enc:=eO) rfl⟩,⟨fun _=>⟨fun _=>fun _=>⟨fun _=>bm (enc:=eO) rfl,fun _=>bm (enc:=eO) rfl⟩,fun _=>bm (enc:=eO) rfl⟩,⟨fun _=>⟨fun _=>fun _=>fun _=>fun _=>fun _=>⟨fun _=>bm (enc:=eO) rfl,fun _=>bm (enc:=eO) rfl⟩,fun _=>bm (enc:=eO) rfl⟩,fun _=>bm (enc:=eO) rfl⟩⟩⟩)
theorem Gn{N:Nat}{r:PR bw}(x3:Vthread)(x4:Int)(y0:VMask)(y1:List (Int × Bool))(h:dE N x3 x4 y0 y1=some r):Cx N r (Gv (ai 0 Try.f38)) (FP x3 x4 y0 y1):=
 aX (m:=4000) (t:=
 .cond ((kH y1 x3.at_).getD false)
 (
  iH (.ok (0,y0,y1,([] :List Vthread))))
 (
  .nl (([] :List Nat))
  (
   .nl (([] :List Nat))
   (
    .nl (([] :List Nat))
    (
     .nl (([] :List Nat))
     (
      .nl (([] :List Nat))
      (
       .nl (([] :List Nat))
       (
        .nl (([] :List Nat))
        (
         .bnd (ap y0.steps x3.at_) fun z1=>
         .nl (([] :List Nat))
         (
          ar (ai 0 Try.f38) (ah N N) 0 x4 x3 z1 y0 (aF y1 x3.at_ true) ([] :List Vthread))
         (
          ar (ai 0 Try.f38) (ah N N) 0 x4 x3 z1 y0 (aF y1 x3.at_ true) ([] :List Vthread)))
        (
         .bnd (ap y0.steps x3.at_) fun z2=>
         ar (ai 0 Try.f38) (ah N N) 0 x4 x3 z2 y0 (aF y1 x3.at_ true) ([] :List Vthread)))
       (
        .bnd (ap y0.steps x3.at_) fun z3=>
        ar (ai 0 Try.f38) (ah N N) 0 x4 x3 z3 y0 (aF y1 x3.at_ true) ([] :List Vthread)))
      (
       .bnd (ap y0.steps x3.at_) fun z4=>
       ar (ai 0 Try.f38) (ah N N) 0 x4 x3 z4 y0 (aF y1 x3.at_ true) ([] :List Vthread)))
     (
      .nl (([] :List Nat))
      (
       .nl (([] :List Nat))
       (
        .nl (([] :List Nat))
        (
         .nl (([] :List Nat))
         (
          .bnd (ap y0.steps x3.at_) fun z5=>
          .nl (([] :List Nat))
          (
           ar (ai 0 Try.f38) (ah N N) 0 x4 x3 z5 y0 (aF y1 x3.at_ true) ([] :List Vthread))
          (
           ar (ai 0 Try.f38) (ah N N) 0 x4 x3 z5 y0 (aF y1 x3.at_ true) ([] :List Vthread)))
         (
          .bnd (ap y0.steps x3.at_) fun z6=>
          ar (ai 0 Try.f38) (ah N N) 0 x4 x3 z6 y0 (aF y1 x3.at_ true) ([] :List Vthread)))
        (
         .bnd (ap y0.steps x3.at_) fun z7=>
         ar (ai 0 Try.f38) (ah N N) 0 x4 x3 z7 y0 (aF y1 x3.at_ true) ([] :List Vthread)))
       (
        .nl (([] :List Nat))
        (
         .nl (([] :List Nat))
         (
          .nl (([] :List Nat))
          (
           .bnd (ap y0.steps x3.at_) fun z8=>
           .nl (([] :List Nat))
           (
            ar (ai 0 Try.f38) (ah N N) 0 x4 x3 z8 y0 (aF y1 x3.at_ true) ([] :List Vthread))
           (
            ar (ai 0 Try.f38) (ah N N) 0 x4 x3 z8 y0 (aF y1 x3.at_ true) ([] :List Vthread)))
          (
           .bnd (ap y0.steps x3.at_) fun z9=>
           ar (ai 0 Try.f38) (ah N N) 0 x4 x3 z9 y0 (aF y1 x3.at_ true) ([] :List Vthread)))
         (
          .bnd (ap y0.steps x3.at_) fun z10=>
          ar (ai 0 Try.f38) (ah N N) 0 x4 x3 z10 y0 (aF y1 x3.at_ true) ([] :List Vthread)))
        (
         .nl (([] :List Nat))
         (
          .bnd (ap y0.steps x3.at_) fun z11=>
          ar (ai 0 Try.f38) (ah N N) 0 x4 x3 z11 y0 (aF y1 x3.at_ true) ([] :List Vthread))
         (
          .bnd (ap y0.steps x3.at_) fun z12=>
          ar (ai 0 Try.f38) (ah N N) 0 x4 x3 z12 y0 (aF y1 x3.at_ true) ([] :List Vthread)))))
      (
       .nl (([] :List Nat))
       (
        .bnd (ap y0.steps x3.at_) fun z13=>
        ar (ai 0 Try.f38) (ah N N) 0 x4 x3 z13 y0 (aF y1 x3.at_ true) ([] :List Vthread))
       (
        .nl (([] :List Nat))
        (
         .bnd (ap y0.steps x3.at_) fun z14=>
         ar (ai 0 Try.f38) (ah N N) 0 x4 x3 z14 y0 (aF y1 x3.at_ true) ([] :List Vthread))
        (
         .bnd (ap y0.steps x3.at_) fun z15=>
         ar (ai 0 Try.f38) (ah N N) 0 x4 x3 z15 y0 (aF y1 x3.at_ true) ([] :List Vthread))))))
    (
     .nl (([] :List Nat))
     (
      .nl (([] :List Nat))
      (
       .nl (([] :List Nat))
       (
        .nl (([] :List Nat))
        (
         .nl (([] :List Nat))
         (
          .bnd (ap y0.steps x3.at_) fun z16=>
          .nl (([] :List Nat))
          (
           ar (ai 0 Try.f38) (ah N N) 0 x4 x3 z16 y0 (aF y1 x3.at_ true) ([] :List Vthread))
          (
           ar (ai 0 Try.f38) (ah N N) 0 x4 x3 z16 y0 (aF y1 x3.at_ true) ([] :List Vthread)))
         (
          .bnd (ap y0.steps x3.at_) fun z17=>
          ar (ai 0 Try.f38) (ah N N) 0 x4 x3 z17 y0 (aF y1 x3.at_ true) ([] :List Vthread)))
        (
         .bnd (ap y0.steps x3.at_) fun z18=>
         ar (ai 0 Try.f38) (ah N N) 0 x4 x3 z18 y0 (aF y1 x3.at_ true) ([] :List Vthread)))
       (
        .nl (([] :List Nat))
        (
         .nl (([] :List Nat))
         (
          .nl (([] :List Nat))
          (
           .bnd (ap y0.steps x3.at_) fun z19=>
           .nl (([] :List Nat))
           (
            ar (ai 0 Try.f38) (ah N N) 0 x4 x3 z19 y0 (aF y1 x3.at_ true) ([] :List Vthread))
           (
            ar (ai 0 Try.f38) (ah N N) 0 x4 x3 z19 y0 (aF y1 x3.at_ true) ([] :List Vthread)))
          (
           .bnd (ap y0.steps x3.at_) fun z20=>
           ar (ai 0 Try.f38) (ah N N) 0 x4 x3 z20 y0 (aF y1 x3.at_ true) ([] :List Vthread)))
         (
          .bnd (ap y0.steps x3.at_) fun z21=>
          ar (ai 0 Try.f38) (ah N N) 0 x4 x3 z21 y0 (aF y1 x3.at_ true) ([] :List Vthread)))
        (
         .nl (([] :List Nat))
         (
          .bnd (ap y0.steps x3.at_) fun z22=>
          ar (ai 0 Try.f38) (ah N N) 0 x4 x3 z22 y0 (aF y1 x3.at_ true) ([] :List Vthread))
         (
          .bnd (ap y0.steps x3.at_) fun z23=>
          ar (ai 0 Try.f38) (ah N N) 0 x4 x3 z23 y0 (aF y1 x3.at_ true) ([] :List Vthread)))))
      (
       .nl (([] :List Nat))
       (
        .nl (([] :List Nat))
        (
         .nl (([] :List Nat))
         (
          .nl (([] :List Nat))
          (
           .bnd (ap y0.steps x3.at_) fun z24=>
           .nl (([] :List Nat))
           (
            ar (ai 0 Try.f38) (ah N N) 0 x4 x3 z24 y0 (aF y1 x3.at_ true) ([] :List Vthread))
           (
            ar (ai 0 Try.f38) (ah N N) 0 x4 x3 z24 y0 (aF y1 x3.at_ true) ([] :List Vthread)))
          (
           .bnd (ap y0.steps x3.at_) fun z25=>
           ar (ai 0 Try.f38) (ah N N) 0 x4 x3 z25 y0 (aF y1 x3.at_ true) ([] :List Vthread)))
         (
          .bnd (ap y0.steps x3.at_) fun z26=>
          ar (ai 0 Try.f38) (ah N N) 0 x4 x3 z26 y0 (aF y1 x3.at_ true) ([] :List Vthread)))
        (
         .bnd (ap y0.steps x3.at_) fun z27=>
         ar (ai 0 Try.f38) (ah N N) 0 x4 x3 z27 y0 (aF y1 x3.at_ true) ([] :List Vthread)))
       (
        .nl (([] :List Nat))
        (
         .nl (([] :List Nat))
         (
          .bnd (ap y0.steps x3.at_) fun z28=>
          ar (ai 0 Try.f38) (ah N N) 0 x4 x3 z28 y0 (aF y1 x3.at_ true) ([] :List Vthread))
         (
          .bnd (ap y0.steps x3.at_) fun z29=>
          ar (ai 0 Try.f38) (ah N N) 0 x4 x3 z29 y0 (aF y1 x3.at_ true) ([] :List Vthread)))
        (
         .bnd (ap y0.steps x3.at_) fun z30=>
         ar (ai 0 Try.f38) (ah N N) 0 x4 x3 z30 y0 (aF y1 x3.at_ true) ([] :List Vthread)))))
     (
      .nl (([] :List Nat))
      (
       .nl (([] :List Nat))
       (
        .bnd (ap y0.steps x3.at_) fun z31=>
        ar (ai 0 Try.f38) (ah N N) 0 x4 x3 z31 y0 (aF y1 x3.at_ true) ([] :List Vthread))
       (
        .nl (([] :List Nat))
        (
         .bnd (ap y0.steps x3.at_) fun z32=>
         ar (ai 0 Try.f38) (ah N N) 0 x4 x3 z32 y0 (aF y1 x3.at_ true) ([] :List Vthread))
        (
         .bnd (ap y0.steps x3.at_) fun z33=>
         ar (ai 0 Try.f38) (ah N N) 0 x4 x3 z33 y0 (aF y1 x3.at_ true) ([] :List Vthread))))
      (
       .nl (([] :List Nat))
       (
        .nl (([] :List Nat))
        (
         .bnd (ap y0.steps x3.at_) fun z34=>
         ar (ai 0 Try.f38) (ah N N) 0 x4 x3 z34 y0 (aF y1 x3.at_ true) ([] :List Vthread))
        (
         .bnd (ap y0.steps x3.at_) fun z35=>
         ar (ai 0 Try.f38) (ah N N) 0 x4 x3 z35 y0 (aF y1 x3.at_ true) ([] :List Vthread)))
       (
        .bnd (ap y0.steps x3.at_) fun z36=>
        ar (ai 0 Try.f38) (ah N N) 0 x4 x3 z36 y0 (aF y1 x3.at_ true) ([] :List Vthread))))))
   (
    .nl (([] :List Nat))
    (
     .nl (([] :List Nat))
     (
      .nl (([] :List Nat))
      (
       .nl (([] :List Nat))
       (
        .nl (([] :List Nat))
        (
         .nl (([] :List Nat))
         (
          .bnd (ap y0.steps x3.at_) fun z37=>
          .nl (([] :List Nat))
          (
           ar (ai 0 Try.f38) (ah N N) 0 x4 x3 z37 y0 (aF y1 x3.at_ true) ([] :List Vthread))
          (
           ar (ai 0 Try.f38) (ah N N) 0 x4 x3 z37 y0 (aF y1 x3.at_ true) ([] :List Vthread)))
         (
          .bnd (ap y0.steps x3.at_) fun z38=>
          ar (ai 0 Try.f38) (ah N N) 0 x4 x3 z38 y0 (aF y1 x3.at_ true) ([] :List Vthread)))
        (
         .bnd (ap y0.steps x3.at_) fun z39=>
         ar (ai 0 Try.f38) (ah N N) 0 x4 x3 z39 y0 (aF y1 x3.at_ true) ([] :List Vthread)))
       (
        .nl (([] :List Nat))
        (
         .nl (([] :List Nat))
         (
          .nl (([] :List Nat))
          (
           .bnd (ap y0.steps x3.at_) fun z40=>
           .nl (([] :List Nat))
           (
            ar (ai 0 Try.f38) (ah N N) 0 x4 x3 z40 y0 (aF y1 x3.at_ true) ([] :List Vthread))
           (
            ar (ai 0 Try.f38) (ah N N) 0 x4 x3 z40 y0 (aF y1 x3.at_ true) ([] :List Vthread)))
          (
           .bnd (ap y0.steps x3.at_) fun z41=>
           ar (ai 0 Try.f38) (ah N N) 0 x4 x3 z41 y0 (aF y1 x3.at_ true) ([] :List Vthread)))
         (
          .bnd (ap y0.steps x3.at_) fun z42=>
          ar (ai 0 Try.f38) (ah N N) 0 x4 x3 z42 y0 (aF y1 x3.at_ true) ([] :List Vthread)))
        (
         .nl (([] :List Nat))
         (
          .bnd (ap y0.steps x3.at_) fun z43=>
          ar (ai 0 Try.f38) (ah N N) 0 x4 x3 z43 y0 (aF y1 x3.at_ true) ([] :List Vthread))
         (
          .bnd (ap y0.steps x3.at_) fun z44=>
          ar (ai 0 Try.f38) (ah N N) 0 x4 x3 z44 y0 (aF y1 x3.at_ true) ([] :List Vthread)))))
      (
       .nl (([] :List Nat))
       (
        .nl (([] :List Nat))
        (
         .nl (([] :List Nat))
         (
          .nl (([] :List Nat))
          (
           .bnd (ap y0.steps x3.at_) fun z45=>
           .nl (([] :List Nat))
           (
            ar (ai 0 Try.f38) (ah N N) 0 x4 x3 z45 y0 (aF y1 x3.at_ true) ([] :List Vthread))
           (
            ar (ai 0 Try.f38) (ah N N) 0 x4 x3 z45 y0 (aF y1 x3.at_ true) ([] :List Vthread)))
          (
           .bnd (ap y0.steps x3.at_) fun z46=>
           ar (ai 0 Try.f38) (ah N N) 0 x4 x3 z46 y0 (aF y1 x3.at_ true) ([] :List Vthread)))
         (
          .bnd (ap y0.steps x3.at_) fun z47=>
          ar (ai 0 Try.f38) (ah N N) 0 x4 x3 z47 y0 (aF y1 x3.at_ true) ([] :List Vthread)))
        (
         .bnd (ap y0.steps x3.at_) fun z48=>
         ar (ai 0 Try.f38) (ah N N) 0 x4 x3 z48 y0 (aF y1 x3.at_ true) ([] :List Vthread)))
       (
        .nl (([] :List Nat))
        (
         .nl (([] :List Nat))
         (
          .bnd (ap y0.steps x3.at_) fun z49=>
          ar (ai 0 Try.f38) (ah N N) 0 x4 x3 z49 y0 (aF y1 x3.at_ true) ([] :List Vthread))
         (
          .bnd (ap y0.steps x3.at_) fun z50=>
          ar (ai 0 Try.f38) (ah N N) 0 x4 x3 z50 y0 (aF y1 x3.at_ true) ([] :List Vthread)))
        (
         .bnd (ap y0.steps x3.at_) fun z51=>
         ar (ai 0 Try.f38) (ah N N) 0 x4 x3 z51 y0 (aF y1 x3.at_ true) ([] :List Vthread)))))
     (
      .nl (([] :List Nat))
      (
       .nl (([] :List Nat))
       (
        .nl (([] :List Nat))
        (
         .nl (([] :List Nat))
         (
          .nl (([] :List Nat))
          (
           .bnd (ap y0.steps x3.at_) fun z52=>
           .nl (([] :List Nat))
           (
            ar (ai 0 Try.f38) (ah N N) 0 x4 x3 z52 y0 (aF y1 x3.at_ true) ([] :List Vthread))
           (
            ar (ai 0 Try.f38) (ah N N) 0 x4 x3 z52 y0 (aF y1 x3.at_ true) ([] :List Vthread)))
          (
           .bnd (ap y0.steps x3.at_) fun z53=>
           ar (ai 0 Try.f38) (ah N N) 0 x4 x3 z53 y0 (aF y1 x3.at_ true) ([] :List Vthread)))
         (
          .bnd (ap y0.steps x3.at_) fun z54=>
          ar (ai 0 Try.f38) (ah N N) 0 x4 x3 z54 y0 (aF y1 x3.at_ true) ([] :List Vthread)))
        (
         .bnd (ap y0.steps x3.at_) fun z55=>
         ar (ai 0 Try.f38) (ah N N) 0 x4 x3 z55 y0 (aF y1 x3.at_ true) ([] :List Vthread)))
       (
        .bnd (ap y0.steps x3.at_) fun z56=>
        ar (ai 0 Try.f38) (ah N N) 0 x4 x3 z56 y0 (aF y1 x3.at_ true) ([] :List Vthread)))
      (
       .nl (([] :List Nat))
       (
        .nl (([] :List Nat))
        (
         .nl (([] :List Nat))
         (
          .bnd (ap y0.steps x3.at_) fun z57=>
          ar (ai 0 Try.f38) (ah N N) 0 x4 x3 z57 y0 (aF y1 x3.at_ true) ([] :List Vthread))
         (
          .bnd (ap y0.steps x3.at_) fun z58=>
          ar (ai 0 Try.f38) (ah N N) 0 x4 x3 z58 y0 (aF y1 x3.at_ true) ([] :List Vthread)))
        (
         .bnd (ap y0.steps x3.at_) fun z59=>
         ar (ai 0 Try.f38) (ah N N) 0 x4 x3 z59 y0 (aF y1 x3.at_ true) ([] :List Vthread)))
       (
        .bnd (ap y0.steps x3.at_) fun z60=>
        ar (ai 0 Try.f38) (ah N N) 0 x4 x3 z60 y0 (aF y1 x3.at_ true) ([] :List Vthread)))))
    (
     .nl (([] :List Nat))
     (
      .nl (([] :List Nat))
      (
       .nl (([] :List Nat))
       (
        .bnd (ap y0.steps x3.at_) fun z61=>
        ar (ai 0 Try.f38) (ah N N) 0 x4 x3 z61 y0 (aF y1 x3.at_ true) ([] :List Vthread))
       (
        .nl (([] :List Nat))
        (
         .bnd (ap y0.steps x3.at_) fun z62=>
         ar (ai 0 Try.f38) (ah N N) 0 x4 x3 z62 y0 (aF y1 x3.at_ true) ([] :List Vthread))
        (
         .bnd (ap y0.steps x3.at_) fun z63=>
         ar (ai 0 Try.f38) (ah N N) 0 x4 x3 z63 y0 (aF y1 x3.at_ true) ([] :List Vthread))))
      (
       .nl (([] :List Nat))
       (
        .nl (([] :List Nat))
        (
         .bnd (ap y0.steps x3.at_) fun z64=>
         ar (ai 0 Try.f38) (ah N N) 0 x4 x3 z64 y0 (aF y1 x3.at_ true) ([] :List Vthread))
        (
         .bnd (ap y0.steps x3.at_) fun z65=>
         ar (ai 0 Try.f38) (ah N N) 0 x4 x3 z65 y0 (aF y1 x3.at_ true) ([] :List Vthread)))
       (
        .bnd (ap y0.steps x3.at_) fun z66=>
        ar (ai 0 Try.f38) (ah N N) 0 x4 x3 z66 y0 (aF y1 x3.at_ true) ([] :List Vthread))))
     (
      .nl (([] :List Nat))
      (
       .nl (([] :List Nat))
       (
        .nl (([] :List Nat))
        (
         .bnd (ap y0.steps x3.at_) fun z67=>
         ar (ai 0 Try.f38) (ah N N) 0 x4 x3 z67 y0 (aF y1 x3.at_ true) ([] :List Vthread))
        (
         .bnd (ap y0.steps x3.at_) fun z68=>
         ar (ai 0 Try.f38) (ah N N) 0 x4 x3 z68 y0 (aF y1 x3.at_ true) ([] :List Vthread)))
       (
        .bnd (ap y0.steps x3.at_) fun z69=>
        ar (ai 0 Try.f38) (ah N N) 0 x4 x3 z69 y0 (aF y1 x3.at_ true) ([] :List Vthread)))
      (
       .bnd (ap y0.steps x3.at_) fun z70=>
       ar (ai 0 Try.f38) (ah N N) 0 x4 x3 z70 y0 (aF y1 x3.at_ true) ([] :List Vthread))))))
  (
   .nl (([] :List Nat))
   (
    .nl (([] :List Nat))
    (
     .nl (([] :List Nat))
     (
      .nl (([] :List Nat))
      (
       .nl (([] :List Nat))
       (
        .nl (([] :List Nat))
        (
         .nl (([] :List Nat))
         (
          .bnd (ap y0.steps x3.at_) fun z71=>
          .nl (([] :List Nat))
          (
           ar (ai 0 Try.f38) (ah N N) 0 x4 x3 z71 y0 (aF y1 x3.at_ true) ([] :List Vthread))
          (
           ar (ai 0 Try.f38) (ah N N) 0 x4 x3 z71 y0 (aF y1 x3.at_ true) ([] :List Vthread)))
         (
          .bnd (ap y0.steps x3.at_) fun z72=>
          ar (ai 0 Try.f38) (ah N N) 0 x4 x3 z72 y0 (aF y1 x3.at_ true) ([] :List Vthread)))
        (
         .bnd (ap y0.steps x3.at_) fun z73=>
         ar (ai 0 Try.f38) (ah N N) 0 x4 x3 z73 y0 (aF y1 x3.at_ true) ([] :List Vthread)))
       (
        .nl (([] :List Nat))
        (
         .nl (([] :List Nat))
         (
          .nl (([] :List Nat))
          (
           .bnd (ap y0.steps x3.at_) fun z74=>
           .nl (([] :List Nat))
           (
            ar (ai 0 Try.f38) (ah N N) 0 x4 x3 z74 y0 (aF y1 x3.at_ true) ([] :List Vthread))
           (
            ar (ai 0 Try.f38) (ah N N) 0 x4 x3 z74 y0 (aF y1 x3.at_ true) ([] :List Vthread)))
          (
           .bnd (ap y0.steps x3.at_) fun z75=>
           ar (ai 0 Try.f38) (ah N N) 0 x4 x3 z75 y0 (aF y1 x3.at_ true) ([] :List Vthread)))
         (
          .bnd (ap y0.steps x3.at_) fun z76=>
          ar (ai 0 Try.f38) (ah N N) 0 x4 x3 z76 y0 (aF y1 x3.at_ true) ([] :List Vthread)))
        (
         .nl (([] :List Nat))
         (
          .bnd (ap y0.steps x3.at_) fun z77=>
          ar (ai 0 Try.f38) (ah N N) 0 x4 x3 z77 y0 (aF y1 x3.at_ true) ([] :List Vthread))
         (
          .bnd (ap y0.steps x3.at_) fun z78=>
          ar (ai 0 Try.f38) (ah N N) 0 x4 x3 z78 y0 (aF y1 x3.at_ true) ([] :List Vthread)))))
      (
       .nl (([] :List Nat))
       (
        .nl (([] :List Nat))
        (
         .nl (([] :List Nat))
         (
          .nl (([] :List Nat))
          (
           .bnd (ap y0.steps x3.at_) fun z79=>
           .nl (([] :List Nat))
           (
            ar (ai 0 Try.f38) (ah N N) 0 x4 x3 z79 y0 (aF y1 x3.at_ true) ([] :List Vthread))
           (
            ar (ai 0 Try.f38) (ah N N) 0 x4 x3 z79 y0 (aF y1 x3.at_ true) ([] :List Vthread)))
          (
           .bnd (ap y0.steps x3.at_) fun z80=>
           ar (ai 0 Try.f38) (ah N N) 0 x4 x3 z80 y0 (aF y1 x3.at_ true) ([] :List Vthread)))
         (
          .bnd (ap y0.steps x3.at_) fun z81=>
          ar (ai 0 Try.f38) (ah N N) 0 x4 x3 z81 y0 (aF y1 x3.at_ true) ([] :List Vthread)))
        (
         .bnd (ap y0.steps x3.at_) fun z82=>
         ar (ai 0 Try.f38) (ah N N) 0 x4 x3 z82 y0 (aF y1 x3.at_ true) ([] :List Vthread)))
       (
        .nl (([] :List Nat))
        (
         .nl (([] :List Nat))
         (
          .bnd (ap y0.steps x3.at_) fun z83=>
          ar (ai 0 Try.f38) (ah N N) 0 x4 x3 z83 y0 (aF y1 x3.at_ true) ([] :List Vthread))
         (
          .bnd (ap y0.steps x3.at_) fun z84=>
          ar (ai 0 Try.f38) (ah N N) 0 x4 x3 z84 y0 (aF y1 x3.at_ true) ([] :List Vthread)))
        (
         .bnd (ap y0.steps x3.at_) fun z85=>
         ar (ai 0 Try.f38) (ah N N) 0 x4 x3 z85 y0 (aF y1 x3.at_ true) ([] :List Vthread)))))
     (
      .nl (([] :List Nat))
      (
       .nl (([] :List Nat))
       (
        .nl (([] :List Nat))
        (
         .nl (([] :List Nat))
         (
          .nl (([] :List Nat))
          (
           .bnd (ap y0.steps x3.at_) fun z86=>
           .nl (([] :List Nat))
           (
            ar (ai 0 Try.f38) (ah N N) 0 x4 x3 z86 y0 (aF y1 x3.at_ true) ([] :List Vthread))
           (
            ar (ai 0 Try.f38) (ah N N) 0 x4 x3 z86 y0 (aF y1 x3.at_ true) ([] :List Vthread)))
          (
           .bnd (ap y0.steps x3.at_) fun z87=>
           ar (ai 0 Try.f38) (ah N N) 0 x4 x3 z87 y0 (aF y1 x3.at_ true) ([] :List Vthread)))
         (
          .bnd (ap y0.steps x3.at_) fun z88=>
          ar (ai 0 Try.f38) (ah N N) 0 x4 x3 z88 y0 (aF y1 x3.at_ true) ([] :List Vthread)))
        (
         .bnd (ap y0.steps x3.at_) fun z89=>
         ar (ai 0 Try.f38) (ah N N) 0 x4 x3 z89 y0 (aF y1 x3.at_ true) ([] :List Vthread)))
       (
        .bnd (ap y0.steps x3.at_) fun z90=>
        ar (ai 0 Try.f38) (ah N N) 0 x4 x3 z90 y0 (aF y1 x3.at_ true) ([] :List Vthread)))
      (
       .nl (([] :List Nat))
       (
        .nl (([] :List Nat))
        (
         .nl (([] :List Nat))
         (
          .bnd (ap y0.steps x3.at_) fun z91=>
          ar (ai 0 Try.f38) (ah N N) 0 x4 x3 z91 y0 (aF y1 x3.at_ true) ([] :List Vthread))
         (
          .bnd (ap y0.steps x3.at_) fun z92=>
          ar (ai 0 Try.f38) (ah N N) 0 x4 x3 z92 y0 (aF y1 x3.at_ true) ([] :List Vthread)))
        (
         .bnd (ap y0.steps x3.at_) fun z93=>
         ar (ai 0 Try.f38) (ah N N) 0 x4 x3 z93 y0 (aF y1 x3.at_ true) ([] :List Vthread)))
       (
        .bnd (ap y0.steps x3.at_) fun z94=>
        ar (ai 0 Try.f38) (ah N N) 0 x4 x3 z94 y0 (aF y1 x3.at_ true) ([] :List Vthread)))))
    (
     .nl (([] :List Nat))
     (
      .nl (([] :List Nat))
      (
       .nl (([] :List Nat))
       (
        .nl (([] :List Nat))
        (
         .nl (([] :List Nat))
         (
          .nl (([] :List Nat))
          (
           .bnd (ap y0.steps x3.at_) fun z95=>
           .nl (([] :List Nat))
           (
            ar (ai 0 Try.f38) (ah N N) 0 x4 x3 z95 y0 (aF y1 x3.at_ true) ([] :List Vthread))
           (
            ar (ai 0 Try.f38) (ah N N) 0 x4 x3 z95 y0 (aF y1 x3.at_ true) ([] :List Vthread)))
          (
           .bnd (ap y0.steps x3.at_) fun z96=>
           ar (ai 0 Try.f38) (ah N N) 0 x4 x3 z96 y0 (aF y1 x3.at_ true) ([] :List Vthread)))
         (
          .bnd (ap y0.steps x3.at_) fun z97=>
          ar (ai 0 Try.f38) (ah N N) 0 x4 x3 z97 y0 (aF y1 x3.at_ true) ([] :List Vthread)))
        (
         .bnd (ap y0.steps x3.at_) fun z98=>
         ar (ai 0 Try.f38) (ah N N) 0 x4 x3 z98 y0 (aF y1 x3.at_ true) ([] :List Vthread)))
       (
        .bnd (ap y0.steps x3.at_) fun z99=>
        ar (ai 0 Try.f38) (ah N N) 0 x4 x3 z99 y0 (aF y1 x3.at_ true) ([] :List Vthread)))
      (
       .bnd (ap y0.steps x3.at_) fun z100=>
       ar (ai 0 Try.f38) (ah N N) 0 x4 x3 z100 y0 (aF y1 x3.at_ true) ([] :List Vthread)))
     (
      .nl (([] :List Nat))
      (
       .nl (([] :List Nat))
       (
        .nl (([] :List Nat))
        (
         .nl (([] :List Nat))
         (
          .bnd (ap y0.steps x3.at_) fun z101=>
          ar (ai 0 Try.f38) (ah N N) 0 x4 x3 z101 y0 (aF y1 x3.at_ true) ([] :List Vthread))
         (
          .bnd (ap y0.steps x3.at_) fun z102=>
          ar (ai 0 Try.f38) (ah N N) 0 x4 x3 z102 y0 (aF y1 x3.at_ true) ([] :List Vthread)))
        (
         .bnd (ap y0.steps x3.at_) fun z103=>
         ar (ai 0 Try.f38) (ah N N) 0 x4 x3 z103 y0 (aF y1 x3.at_ true) ([] :List Vthread)))
       (
        .bnd (ap y0.steps x3.at_) fun z104=>
        ar (ai 0 Try.f38) (ah N N) 0 x4 x3 z104 y0 (aF y1 x3.at_ true) ([] :List Vthread)))
      (
       .bnd (ap y0.steps x3.at_) fun z105=>
       ar (ai 0 Try.f38) (ah N N) 0 x4 x3 z105 y0 (aF y1 x3.at_ true) ([] :List Vthread)))))
   (
    .nl (([] :List Nat))
    (
     .nl (([] :List Nat))
     (
      .nl (([] :List Nat))
      (
       .nl (([] :List Nat))
       (
        .bnd (ap y0.steps x3.at_) fun z106=>
        ar (ai 0 Try.f38) (ah N N) 0 x4 x3 z106 y0 (aF y1 x3.at_ true) ([] :List Vthread))
       (
        .nl (([] :List Nat))
        (
         .bnd (ap y0.steps x3.at_) fun z107=>
         ar (ai 0 Try.f38) (ah N N) 0 x4 x3 z107 y0 (aF y1 x3.at_ true) ([] :List Vthread))
        (
         .bnd (ap y0.steps x3.at_) fun z108=>
         ar (ai 0 Try.f38) (ah N N) 0 x4 x3 z108 y0 (aF y1 x3.at_ true) ([] :List Vthread))))
      (
       .nl (([] :List Nat))
       (
        .nl (([] :List Nat))
        (
         .bnd (ap y0.steps x3.at_) fun z109=>
         ar (ai 0 Try.f38) (ah N N) 0 x4 x3 z109 y0 (aF y1 x3.at_ true) ([] :List Vthread))
        (
         .bnd (ap y0.steps x3.at_) fun z110=>
         ar (ai 0 Try.f38) (ah N N) 0 x4 x3 z110 y0 (aF y1 x3.at_ true) ([] :List Vthread)))
       (
        .bnd (ap y0.steps x3.at_) fun z111=>
        ar (ai 0 Try.f38) (ah N N) 0 x4 x3 z111 y0 (aF y1 x3.at_ true) ([] :List Vthread))))
     (
      .nl (([] :List Nat))
      (
       .nl (([] :List Nat))
       (
        .nl (([] :List Nat))
        (
         .bnd (ap y0.steps x3.at_) fun z112=>
         ar (ai 0 Try.f38) (ah N N) 0 x4 x3 z112 y0 (aF y1 x3.at_ true) ([] :List Vthread))
        (
         .bnd (ap y0.steps x3.at_) fun z113=>
         ar (ai 0 Try.f38) (ah N N) 0 x4 x3 z113 y0 (aF y1 x3.at_ true) ([] :List Vthread)))
       (
        .bnd (ap y0.steps x3.at_) fun z114=>
        ar (ai 0 Try.f38) (ah N N) 0 x4 x3 z114 y0 (aF y1 x3.at_ true) ([] :List Vthread)))
      (
       .bnd (ap y0.steps x3.at_) fun z115=>
       ar (ai 0 Try.f38) (ah N N) 0 x4 x3 z115 y0 (aF y1 x3.at_ true) ([] :List Vthread))))
    (
     .nl (([] :List Nat))
     (
      .nl (([] :List Nat))
      (
       .nl (([] :List Nat))
       (
        .nl (([] :List Nat))
        (
         .bnd (ap y0.steps x3.at_) fun z116=>
         ar (ai 0 Try.f38) (ah N N) 0 x4 x3 z116 y0 (aF y1 x3.at_ true) ([] :List Vthread))
        (
         .bnd (ap y0.steps x3.at_) fun z117=>
         ar (ai 0 Try.f38) (ah N N) 0 x4 x3 z117 y0 (aF y1 x3.at_ true) ([] :List Vthread)))
       (
        .bnd (ap y0.steps x3.at_) fun z118=>
        ar (ai 0 Try.f38) (ah N N) 0 x4 x3 z118 y0 (aF y1 x3.at_ true) ([] :List Vthread)))
      (
       .bnd (ap y0.steps x3.at_) fun z119=>
       ar (ai 0 Try.f38) (ah N N) 0 x4 x3 z119 y0 (aF y1 x3.at_ true) ([] :List Vthread)))
     (
      .bnd (ap y0.steps x3.at_) fun z120=>
      ar (ai 0 Try.f38) (ah N N) 0 x4 x3 z120 y0 (aF y1 x3.at_ true) ([] :List Vthread))))))) (by kernel_rfl) (by kernel_rfl) h (⟨bm (enc:=eO) rfl,⟨fun _ _ h=>Eq.trans (by kernel_rfl) h,⟨fun _ _ h=>Eq.trans (by kernel_rfl) h,⟨fun _ _ h=>Eq.trans (by kernel_rfl) h,⟨fun _ _ h=>Eq.trans (by kernel_rfl) h,⟨fun _ _ h=>Eq.trans (by kernel_rfl) h,⟨fun _ _ h=>Eq.trans (by kernel_rfl) h,⟨fun _ _ h=>Eq.trans (by kernel_rfl) h,fun _=>⟨fun _ _ h=>Eq.trans (by kernel_rfl) h,fun h=>av N _ _ _ _ _ _ _ h,fun h=>av N _ _ _ _ _ _ _ h⟩,fun _=>fun h=>av N _ _ _ _ _ _ _ h⟩,fun _=>fun h=>av N _ _ _ _ _ _ _ h⟩,fun _=>fun h=>av N _ _ _ _ _ _ _ h⟩,⟨fun _ _ h=>Eq.trans (by kernel_rfl) h,⟨fun _ _ h=>Eq.trans (by kernel_rfl) h,⟨fun _ _ h=>Eq.trans (by kernel_rfl) h,⟨fun _ _ h=>Eq.trans (by kernel_rfl) h,fun _=>⟨fun _ _ h=>Eq.trans (by kernel_rfl) h,fun h=>av N _ _ _ _ _ _ _ h,fun h=>av N _ _ _ _ _ _ _ h⟩,fun _=>fun h=>av N _ _ _ _ _ _ _ h⟩,fun _=>fun h=>av N _ _ _ _ _ _ _ h⟩,⟨fun _ _ h=>Eq.trans (by kernel_rfl) h,⟨fun _ _ h=>Eq.trans (by kernel_rfl) h,⟨fun _ _ h=>Eq.trans (by kernel_rfl) h,fun _=>⟨fun _ _ h=>Eq.trans (by kernel_rfl) h,fun h=>av N _ _ _ _ _ _ _ h,fun h=>av N _ _ _ _ _ _ _ h⟩,fun _=>fun h=>av N _ _ _ _ _ _ _ h⟩,fun _=>fun h=>av N _ _ _ _ _ _ _ h⟩,⟨fun _ _ h=>Eq.trans (by kernel_rfl) h,fun _=>fun h=>av N _ _ _ _ _ _ _ h,fun _=>fun h=>av N _ _ _ _ _ _ _ h⟩⟩⟩,⟨fun _ _ h=>Eq.trans (by kernel_rfl) h,fun _=>fun h=>av N _ _ _ _ _ _ _ h,⟨fun _ _ h=>Eq.trans (by kernel_rfl) h,fun _=>fun h=>av N _ _ _ _ _ _ _ h,fun _=>fun h=>av N _ _ _ _ _ _ _ h⟩⟩⟩⟩,⟨fun _ _ h=>Eq.trans (by kernel_rfl) h,⟨fun _ _ h=>Eq.trans (by kernel_rfl) h,⟨fun _ _ h=>Eq.trans (by kernel_rfl) h,⟨fun _ _ h=>Eq.trans (by kernel_rfl) h,⟨fun _ _ h=>Eq.trans (by kernel_rfl) h,fun _=>⟨fun _ _ h=>Eq.trans (by kernel_rfl) h,fun h=>av N _ _ _ _ _ _ _ h,fun h=>av N _ _ _ _ _ _ _ h⟩,fun _=>fun h=>av N _ _ _ _ _ _ _ h⟩,fun _=>fun h=>av N _ _ _ _ _ _ _ h⟩,⟨fun _ _ h=>Eq.trans (by kernel_rfl) h,⟨fun _ _ h=>Eq.trans (by kernel_rfl) h,⟨fun _ _ h=>Eq.trans (by kernel_rfl) h,fun _=>⟨fun _ _ h=>Eq.trans (by kernel_rfl) h,fun h=>av N _ _ _ _ _ _ _ h,fun h=>av N _ _ _ _ _ _ _ h⟩,fun _=>fun h=>av N _ _ _ _ _ _ _ h⟩,fun _=>fun h=>av N _ _ _ _ _ _ _ h⟩,⟨fun _ _ h=>Eq.trans (by kernel_rfl) h,fun _=>fun h=>av N _ _ _ _ _ _ _ h,fun _=>fun h=>av N _ _ _ _ _ _ _ h⟩⟩⟩,⟨fun _ _ h=>Eq.trans (by kernel_rfl) h,⟨fun _ _ h=>Eq.trans (by kernel_rfl) h,⟨fun _ _ h=>Eq.trans (by kernel_rfl) h,⟨fun _ _ h=>Eq.trans (by kernel_rfl) h,fun _=>⟨fun _ _ h=>Eq.trans (by kernel_rfl) h,fun h=>av N _ _ _ _ _ _ _ h,fun h=>av N _ _ _ _ _ _ _ h⟩,fun _=>fun h=>av N _ _ _ _ _ _ _ h⟩,fun _=>fun h=>av N _ _ _ _ _ _ _ h⟩,fun _=>fun h=>av N _ _ _ _ _ _ _ h⟩,⟨fun _ _ h=>Eq.trans (by kernel_rfl) h,⟨fun _ _ h=>Eq.trans (by kernel_rfl) h,fun _=>fun h=>av N _ _ _ _ _ _ _ h,fun _=>fun h=>av N _ _ _ _ _ _ _ h⟩,fun _=>fun h=>av N _ _ _ _ _ _ _ h⟩⟩⟩,⟨fun _ _ h=>Eq.trans (by kernel_rfl) h,⟨fun _ _ h=>Eq.trans (by kernel_rfl) h,fun _=>fun h=>av N _ _ _ _ _ _ _ h,⟨fun _ _ h=>Eq.trans (by kernel_rfl) h,fun _=>fun h=>av N _ _ _ _ _ _ _ h,fun _=>fun h=>av N _ _ _ _ _ _ _ h⟩⟩,⟨fun _ _ h=>Eq.trans (by kernel_rfl) h,⟨fun _ _ h=>Eq.trans (by kernel_rfl) h,fun _=>fun h=>av N _ _ _ _ _ _ _ h,fun _=>fun h=>av N _ _ _ _ _ _ _ h⟩,fun _=>fun h=>av N _ _ _ _ _ _ _ h⟩⟩⟩⟩,⟨fun _ _ h=>Eq.trans (by kernel_rfl) h,⟨fun _ _ h=>Eq.trans (by kernel_rfl) h,⟨fun _ _ h=>Eq.trans (by kernel_rfl) h,⟨fun _ _ h=>Eq.trans (by kernel_rfl) h,⟨fun _ _ h=>Eq.trans (by kernel_rfl) h,⟨fun _ _ h=>Eq.trans (by kernel_rfl) h,fun _=>⟨fun _ _ h=>Eq.trans (by kernel_rfl) h,fun h=>av N _ _ _ _ _ _ _ h,fun h=>av N _ _ _ _ _ _ _ h⟩,fun _=>fun h=>av N _ _ _ _ _ _ _ h⟩,fun _=>fun h=>av N _ _ _ _ _ _ _ h⟩,⟨fun _ _ h=>Eq.trans (by kernel_rfl) h,⟨fun _ _ h=>Eq.trans (by kernel_rfl) h,⟨fun _ _ h=>Eq.trans (by kernel_rfl) h,fun _=>⟨fun _ _ h=>Eq.trans (by kernel_rfl) h,fun h=>av N _ _ _ _ _ _ _ h,fun h=>av N _ _ _ _ _ _ _ h⟩,fun _=>fun h=>av N _ _ _ _ _ _ _ h⟩,fun _=>fun h=>av N _ _ _ _ _ _ _ h⟩,⟨fun _ _ h=>Eq.trans (by kernel_rfl) h,fun _=>fun h=>av N _ _ _ _ _ _ _ h,fun _=>fun h=>av N _ _ _ _ _ _ _ h⟩⟩⟩,⟨fun _ _ h=>Eq.trans (by kernel_rfl) h,⟨fun _ _ h=>Eq.trans (by kernel_rfl) h,⟨fun _ _ h=>Eq.trans (by kernel_rfl) h,⟨fun _ _ h=>Eq.trans (by kernel_rfl) h,fun _=>⟨fun _ _ h=>Eq.trans (by kernel_rfl) h,fun h=>av N _ _ _ _ _ _ _ h,fun h=>av N _ _ _ _ _ _ _ h⟩,fun _=>fun h=>av N _ _ _ _ _ _ _ h⟩,fun _=>fun h=>av N _ _ _ _ _ _ _ h⟩,fun _=>fun h=>av N _ _ _ _ _ _ _ h⟩,⟨fun _ _ h=>Eq.trans (by kernel_rfl) h,⟨fun _ _ h=>Eq.trans (by kernel_rfl) h,fun _=>fun h=>av N _ _ _ _ _ _ _ h,fun _=>fun h=>av N _ _ _ _ _ _ _ h⟩,fun _=>fun h=>av N _ _ _ _ _ _ _ h⟩⟩⟩,⟨fun _ _ h=>Eq.trans (by kernel_rfl) h,⟨fun _ _ h=>Eq.trans (by kernel_rfl) h,⟨fun _ _ h=>Eq.trans (by kernel_rfl) h,⟨fun _ _ h=>Eq.trans (by kernel_rfl) h,⟨fun _ _ h=>Eq.trans (by kernel_rfl) h,fun _=>⟨fun _ _ h=>Eq.trans (by kernel_rfl) h,fun h=>av N _ _ _ _ _ _ _ h,fun h=>av N _ _ _ _ _ _ _ h⟩,fun _=>fun h=>av N _ _ _ _ _ _ _ h⟩,fun _=>fun h=>av N _ _ _ _ _ _ _ h⟩,fun _=>fun h=>av N _ _ _ _ _ _ _ h⟩,fun _=>fun h=>av N _ _ _ _ _ _ _ h⟩,⟨fun _ _ h=>Eq.trans (by kernel_rfl) h,⟨fun _ _ h=>Eq.trans (by kernel_rfl) h,⟨fun _ _ h=>Eq.trans (by kernel_rfl) h,fun _=>fun h=>av N _ _ _ _ _ _ _ h,fun _=>fun h=>av N _ _ _ _ _ _ _ h⟩,fun _=>fun h=>av N _ _ _ _ _ _ _ h⟩,fun _=>fun h=>av N _ _ _ _ _ _ _ h⟩⟩⟩,⟨fun _ _ h=>Eq.trans (by kernel_rfl) h,⟨fun _ _ h=>Eq.trans (by kernel_rfl) h,⟨fun _ _ h=>Eq.trans (by kernel_rfl) h,fun _=>fun h=>av N _ _ _ _ _ _ _ h,⟨fun _ _ h=>Eq.trans (by kernel_rfl) h,fun _=>fun h=>av N _ _ _ _ _ _ _ h,fun _=>fun h=>av N _ _ _ _ _ _ _ h⟩⟩,⟨fun _ _ h=>Eq.trans (by kernel_rfl) h,⟨fun _ _ h=>Eq.trans (by kernel_rfl) h,fun _=>fun h=>av N _ _ _ _ _ _ _ h,fun _=>fun h=>av N _ _ _ _ _ _ _ h⟩,fun _=>fun h=>av N _ _ _ _ _ _ _ h⟩⟩,⟨fun _ _ h=>Eq.trans (by kernel_rfl) h,⟨fun _ _ h=>Eq.trans (by kernel_rfl) h,⟨fun _ _ h=>Eq.trans (by kernel_rfl) h,fun _=>fun h=>av N _ _ _ _ _ _ _ h,fun _=>fun h=>av N _ _ _ _ _ _ _ h⟩,fun _=>fun h=>av N _ _ _ _ _ _ _ h⟩,fun _=>fun h=>av N _ _ _ _ _ _ _ h⟩⟩⟩⟩,⟨fun _ _ h=>Eq.trans (by kernel_rfl) h,⟨fun _ _ h=>Eq.trans (by kernel_rfl) h,⟨fun _ _ h=>Eq.trans (by kernel_rfl) h,⟨fun _ _ h=>Eq.trans (by kernel_rfl) h,⟨fun _ _ h=>Eq.trans (by kernel_rfl) h,⟨fun _ _ h=>Eq.trans (by kernel_rfl) h,⟨fun _ _ h=>Eq.trans (by kernel_rfl) h,fun _=>⟨fun _ _ h=>Eq.trans (by kernel_rfl) h,fun h=>av N _ _ _ _ _ _ _ h,fun h=>av N _ _ _ _ _ _ _ h⟩,fun _=>fun h=>av N _ _ _ _ _ _ _ h⟩,fun _=>fun h=>av N _ _ _ _ _ _ _ h⟩,⟨fun _ _ h=>Eq.trans (by kernel_rfl) h,⟨fun _ _ h=>Eq.trans (by kernel_rfl) h,⟨fun _ _ h=>Eq.trans (by kernel_rfl) h,fun _=>⟨fun _ _ h=>Eq.trans (by kernel_rfl) h,fun h=>av N _ _ _ _ _ _ _ h,fun h=>av N _ _ _ _ _ _ _ h⟩,fun _=>fun h=>av N _ _ _ _ _ _ _ h⟩,fun _=>fun h=>av N _ _ _ _ _ _ _ h⟩,⟨fun _ _ h=>Eq.trans (by kernel_rfl) h,fun _=>fun h=>av N _ _ _ _ _ _ _ h,fun _=>fun h=>av N _ _ _ _ _ _ _ h⟩⟩⟩,⟨fun _ _ h=>Eq.trans (by kernel_rfl) h,⟨fun _ _ h=>Eq.trans (by kernel_rfl) h,⟨fun _ _ h=>Eq.trans (by kernel_rfl) h,⟨fun _ _ h=>Eq.trans (by kernel_rfl) h,fun _=>⟨fun _ _ h=>Eq.trans (by kernel_rfl) h,fun h=>av N _ _ _ _ _ _ _ h,fun h=>av N _ _ _ _ _ _ _ h⟩,fun _=>fun h=>av N _ _ _ _ _ _ _ h⟩,fun _=>fun h=>av N _ _ _ _ _ _ _ h⟩,fun _=>fun h=>av N _ _ _ _ _ _ _ h⟩,⟨fun _ _ h=>Eq.trans (by kernel_rfl) h,⟨fun _ _ h=>Eq.trans (by kernel_rfl) h,fun _=>fun h=>av N _ _ _ _ _ _ _ h,fun _=>fun h=>av N _ _ _ _ _ _ _ h⟩,fun _=>fun h=>av N _ _ _ _ _ _ _ h⟩⟩⟩,⟨fun _ _ h=>Eq.trans (by kernel_rfl) h,⟨fun _ _ h=>Eq.trans (by kernel_rfl) h,⟨fun _ _ h=>Eq.trans (by kernel_rfl) h,⟨fun _ _ h=>Eq.trans (by kernel_rfl) h,⟨fun _ _ h=>Eq.trans (by kernel_rfl) h,fun _=>⟨fun _ _ h=>Eq.trans (by kernel_rfl) h,fun h=>av N _ _ _ _ _ _ _ h,fun h=>av N _ _ _ _ _ _ _ h⟩,fun _=>fun h=>av N _ _ _ _ _ _ _ h⟩,fun _=>fun h=>av N _ _ _ _ _ _ _ h⟩,fun _=>fun h=>av N _ _ _ _ _ _ _ h⟩,fun _=>fun h=>av N _ _ _ _ _ _ _ h⟩,⟨fun _ _ h=>Eq.trans (by kernel_rfl) h,⟨fun _ _ h=>Eq.trans (by kernel_rfl) h,⟨fun _ _ h=>Eq.trans (by kernel_rfl) h,fun _=>fun h=>av N _ _ _ _ _ _ _ h,fun _=>fun h=>av N _ _ _ _ _ _ _ h⟩,fun _=>fun h=>av N _ _ _ _ _ _ _ h⟩,fun _=>fun h=>av N _ _ _ _ _ _ _ h⟩⟩⟩,⟨fun _ _ h=>Eq.trans (by kernel_rfl) h,⟨fun _ _ h=>Eq.trans (by kernel_rfl) h,⟨fun _ _ h=>Eq.trans (by kernel_rfl) h,⟨fun _ _ h=>Eq.trans (by kernel_rfl) h,⟨fun _ _ h=>Eq.trans (by kernel_rfl) h,⟨fun _ _ h=>Eq.trans (by kernel_rfl) h,fun _=>⟨fun _ _ h=>Eq.trans (by kernel_rfl) h,fun h=>av N _ _ _ _ _ _ _ h,fun h=>av N _ _ _ _ _ _ _ h⟩,fun _=>fun h=>av N _ _ _ _ _ _ _ h⟩,fun _=>fun h=>av N _ _ _ _ _ _ _ h⟩,fun _=>fun h=>av N _ _ _ _ _ _ _ h⟩,fun _=>fun h=>av N _ _ _ _ _ _ _ h⟩,fun _=>fun h=>av N _ _ _ _ _ _ _ h⟩,⟨fun _ _ h=>Eq.trans (by kernel_rfl) h,⟨fun _ _ h=>Eq.trans (by kernel_rfl) h,⟨fun _ _ h=>Eq.trans (by kernel_rfl) h,⟨fun _ _ h=>Eq.trans (by kernel_rfl) h,fun _=>fun h=>av N _ _ _ _ _ _ _ h,fun _=>fun h=>av N _ _ _ _ _ _ _ h⟩,fun _=>fun h=>av N _ _ _ _ _ _ _ h⟩,fun _=>fun h=>av N _ _ _ _ _ _ _ h⟩,fun _=>fun h=>av N _ _ _ _ _ _ _ h⟩⟩⟩,⟨fun _ _ h=>Eq.trans (by kernel_rfl) h,⟨fun _ _ h=>Eq.trans (by kernel_rfl) h,⟨fun _ _ h=>Eq.trans (by kernel_rfl) h,⟨fun _ _ h=>Eq.trans (by kernel_rfl) h,fun _=>fun h=>av N _ _ _ _ _ _ _ h,⟨fun _ _ h=>Eq.trans (by kernel_rfl) h,fun _=>fun h=>av N _ _ _ _ _ _ _ h,fun _=>fun h=>av N _ _ _ _ _ _ _ h⟩⟩,⟨fun _ _ h=>Eq.trans (by kernel_rfl) h,⟨fun _ _ h=>Eq.trans (by kernel_rfl) h,fun _=>fun h=>av N _ _ _ _ _ _ _ h,fun _=>fun h=>av N _ _ _ _ _ _ _ h⟩,fun _=>fun h=>av N _ _ _ _ _ _ _ h⟩⟩,⟨fun _ _ h=>Eq.trans (by kernel_rfl) h,⟨fun _ _ h=>Eq.trans (by kernel_rfl) h,⟨fun _ _ h=>Eq.trans (by kernel_rfl) h,fun _=>fun h=>av N _ _ _ _ _ _ _ h,fun _=>fun h=>av N _ _ _ _ _ _ _ h⟩,fun _=>fun h=>av N _ _ _ _ _ _ _ h⟩,fun _=>fun h=>av N _ _ _ _ _ _ _ h⟩⟩,⟨fun _ _ h=>Eq.trans (by kernel_rfl) h,⟨fun _ _ h=>Eq.trans (by kernel_rfl) h,⟨fun _ _ h=>Eq.trans (by kernel_rfl) h,⟨fun _ _ h=>Eq.trans (by kernel_rfl) h,fun _=>fun h=>av N _ _ _ _ _ _ _ h,fun _=>fun h=>av N _ _ _ _ _ _ _ h⟩,fun _=>fun h=>av N _ _ _ _ _ _ _ h⟩,fun _=>fun h=>av N _ _ _ _ _ _ _ h⟩,fun _=>fun h=>av N _ _ _ _ _ _ _ h⟩⟩⟩⟩⟩)
def DC(x3:Vthread)(x4:Int)(y0:VMask)(y1:List (Int × Bool)):List (TV EE.T):=[.a (.box 100000 0),.a (.raw (.slice none 0 0)),.a (.mpr 100001),.ag (eD EE (.nam 10) x3),.a (.d (.int .i64) x4)]
def xC(x3:Vthread)(x4:Int)(y0:VMask)(y1:List (Int × Bool)):List (Nat × TB EE.T):=[(100000,.cs (eD EE (.nam 8) y0)),(100001,.imap .bool y1)]
theorem oE{N:Nat}(x3:Vthread)(x4:Int)(y0:VMask)(y1:List (Int × Bool)){r:PR bw}(h:dE N x3 x4 y0 y1=some r)(ρ:Rn)(hi:Inj ρ (xC x3 x4 y0 y1)):aW Try.prog 38 ((DC x3 x4 y0 y1).map (TV.to EE.toEnc ρ)) (hTo EE.toEnc ρ (xC x3 x4 y0 y1)) (dw EE ρ fun u=>u=eO r):=
 fd (ai 0 Try.f38) 89 mixed (HC N) Try.func38 (by kernel_rfl) rfl rfl rfl rfl (Gn x3 x4 y0 y1 h) ρ hi
def jI(N:Nat)(us:List (TV EE.T))(hs:List (Nat × TB EE.T)):XR EE.T:=
 gdX (fG us 5) <|
 bnX (aB us 0) fun i0=>
 gdX (aN us 1) <|
 bnX (aM us 2) fun i1=>
 bnX (aS EE 10 us 3) fun x3=>
 bnX (aD (.int .i64) us 4) fun x4=>
 bnX (bS EE 8 hs i0) fun y0=>
 bnX (bI .bool hs i1) fun y1=>
 gdX (ci hs [i0,i1]) <|
 gdX (il [i0,i1,300000]) <|
 .mv (dE N x3 x4 y0 y1) [i0,i1] (mvL [i0,i1] [100000,100001]) 1 (fc i0 i1) (s0 i0 i1)
theorem mC(N:Nat):XOk Try.prog EE 38 (jI N):=fun us hs=>
 ba fun h1=>aE fun i0 h2=>ba fun h3=>aE fun i1 h4=>aE fun x3 h5=>aE fun x4 h6=>aE fun y0 h7=>aE fun y1 h8=>ba fun h9=>ba fun h10=>fun p hz ρ hi=>gc (ex:=[(300000,300000)]) (ks:=[100000,100001]) (us':=DC x3 x4 y0 y1) (h0:=xC x3 x4 y0 y1) (ρ':=m8 ρ [i0,i1]) (uc:=fc 100000 100001) (u:=fc i0 i1) (hc:=s0 100000 100001) (h:=s0 i0 i1) hi h9 (by kernel_rfl) ⟨i9 h2 (by kernel_rfl),MS h3,Lh h4 (by kernel_rfl),II h5,mP h6,cA h1⟩ ⟨(by kernel_rfl),GS h7,(by kernel_rfl),K6 h8,trivial⟩ ⟨.inr rfl,.inr rfl,trivial⟩ h10 (fun hj=>oE x3 x4 y0 y1 hz _ hj) (fun z=>⟨by kernel_rfl,by kernel_rfl,by kernel_rfl,by kernel_rfl⟩)
def jw(r:az):TV EE.T:=.tu [.a (.d .bool r.1),.a (.d (.sl .str) r.2.1)]
def Dh(i0:Nat)(r:az):List (Nat × TB EE.T):=[(i0,.cs (eD EE (.nam 8) r.2.2))]
def ly(r:PR az):RL EE.T:=match r with
 |.ok z=>.ret (jw z) (Dh 100000 z)
 |.pan v=>.pan v
def J1:Lvs:=⟨[(11,⟨[(0,false),(1,false),(8,false),(9,false),(10,false),(12,false),(30,false),(31,false),(35,false),(36,false),(37,false)],[],[(12,(some 10,[])),(34,(none,[])),(100000,(some 8,[])),(400448,(none,[])),(700009,(none,[]))],[]⟩),(12,⟨[(0,false),(1,false),(8,false),(9,false),(10,false),(12,false),(13,false),(30,false),(31,false),(35,false),(36,false),(37,false)],[],[(12,(some 10,[])),(13,(some 7,[])),(34,(none,[])),(100000,(some 8,[])),(400448,(none,[])),(700009,(none,[]))],[]⟩),(14,⟨[(0,false),(1,false),(8,false),(9,false),(10,false),(30,false),(31,false),(35,false),(36,false),(37,false)],[],[(34,(none,[])),(100000,(some 8,[])),(400448,(none,[])),(700009,(none,[]))],[]⟩),(20,⟨[(0,false),(1,false),(15,false),(77,false),(78,false),(79,false)],[],[(15,(some 10,[])),(100000,(some 8,[])),(400448,(none,[]))],[]⟩)],[(4,⟨[(0,false),(1,false),(7,false),(30,false),(31,false)],[],[(100000,(some 8,[])),(400448,(none,[]))],[(700009,400448)]⟩),(9,⟨[(0,false),(1,false),(8,false),(9,false),(10,false),(30,false),(31,false),(35,false),(36,false),(37,false)],[],[(34,(none,[])),(100000,(some 8,[])),(400448,(none,[])),(700009,(none,[]))],[]⟩),(18,⟨[(0,false),(1,false),(77,false),(78,false),(79,false)],[],[(100000,(some 8,[])),(400448,(none,[]))],[]⟩)],[12,14],[],false,[(100000,(some 8,[]))],[100000],[(7,[.nl (.s 9) 700009 (.nam 10)])],[]⟩
def KS:List ResultVar:=[.tmp 4,.tmp 5]
def HO(N:Nat):Gam EE:=⟨[⟨37,mI N⟩],EQT,[⟨38,hD N⟩,⟨39,im N⟩,⟨38,jI N⟩],[]⟩
theorem IN(N:Nat):GOk Try.prog TT EE (HO N):=GOk.cons (vz N) (GOk.consx (i8 N) (GOk.consx (lB N) (GOk.consx (mC N) (GOk.nil dQ))))
def xa(c:Code):List It2:=atR 14 c
def wZ(x1:List UInt8)(x8:Int)(x9_n:Nat)(x30:Int)(x31:Int)(x35_n:Nat)(x36:Int)(x37:Int)(b34:List (Int × Bool))(NX:VMask)(N3:List Vthread)(N4:List Vthread):TS EE.T:=⟨99,[(0,.a (.box 100000 0)),(1,.a (.d .str x1)),(8,.a (.d (.int .i64) x8)),(9,.a (.vec (.nam 10) 700009 x9_n)),(10,.a (.mpr 34)),(30,.a (.d (.int .i64) x30)),(31,.a (.d (.int .i64) x31)),(35,.a (.vec (.nam 10) 400448 x35_n)),(36,.a (.d (.int .i64) x36)),(37,.a (.d (.int .i64) x37))],[(34,.imap .bool b34),(100000,.cs (eD EE (.nam 8) NX)),(400448,.vec 400448 (.nam 10) N3),(700009,.vec 700009 (.nam 10) N4)],[]⟩
def xd(c:Code):List It2:=atR 12 c
def wh(x1:List UInt8)(x8:Int)(x9_n:Nat)(x30:Int)(x31:Int)(x35_n:Nat)(x36:Int)(x37:Int)(b12:Vthread)(b13:Vstep)(b34:List (Int × Bool))(NX:VMask)(N3:List Vthread)(N4:List Vthread):TS EE.T:=⟨99,[(0,.a (.box 100000 0)),(1,.a (.d .str x1)),(8,.a (.d (.int .i64) x8)),(9,.a (.vec (.nam 10) 700009 x9_n)),(10,.a (.mpr 34)),(12,.a (.box 12 0)),(13,.a (.box 13 0)),(30,.a (.d (.int .i64) x30)),(31,.a (.d (.int .i64) x31)),(35,.a (.vec (.nam 10) 400448 x35_n)),(36,.a (.d (.int .i64) x36)),(37,.a (.d (.int .i64) x37))],[(12,.cs (eD EE (.nam 10) b12)),(13,.cs (eD EE (.nam 7) b13)),(34,.imap .bool b34),(100000,.cs (eD EE (.nam 8) NX)),(400448,.vec 400448 (.nam 10) N3),(700009,.vec 700009 (.nam 10) N4)],[]⟩
def qr(c:Code):List It2:=atL 9 c
def qK(x1:List UInt8)(x8:Int)(x9_n:Nat)(x30:Int)(x31:Int)(x35_n:Nat)(x36:Int)(x37:Int)(b34:List (Int × Bool))(NX:VMask)(N3:List Vthread)(N4:List Vthread):TS EE.T:=⟨99,[(0,.a (.box 100000 0)),(1,.a (.d .str x1)),(8,.a (.d (.int .i64) x8)),(9,.a (.vec (.nam 10) 700009 x9_n)),(10,.a (.mpr 34)),(30,.a (.d (.int .i64) x30)),(31,.a (.d (.int .i64) x31)),(35,.a (.vec (.nam 10) 400448 x35_n)),(36,.a (.d (.int .i64) x36)),(37,.a (.d (.int .i64) x37))],[(34,.imap .bool b34),(100000,.cs (eD EE (.nam 8) NX)),(400448,.vec 400448 (.nam 10) N3),(700009,.vec 700009 (.nam 10) N4)],[]⟩
def w4(c:Code):List It2:=atL 18 c
def xk(x1:List UInt8)(x77_n:Nat)(x78:Int)(x79:Int)(NX:VMask)(N3:List Vthread):TS EE.T:=⟨99,[(0,.a (.box 100000 0)),(1,.a (.d .str x1)),(77,.a (.vec (.nam 10) 400448 x77_n)),(78,.a (.d (.int .i64) x78)),(79,.a (.d (.int .i64) x79))],[(100000,.cs (eD EE (.nam 8) NX)),(400448,.vec 400448 (.nam 10) N3)],[]⟩
def mm(c:Code):List It2:=atL 4 c
def mS(x1:List UInt8)(x7_n:Nat)(x30:Int)(x31:Int)(NX:VMask)(N3:List Vthread):TS EE.T:=⟨99,[(0,.a (.box 100000 0)),(1,.a (.d .str x1)),(7,.a (.vec (.nam 10) 400448 x7_n)),(30,.a (.d (.int .i64) x30)),(31,.a (.d (.int .i64) x31))],[(100000,.cs (eD EE (.nam 8) NX)),(400448,.vec 400448 (.nam 10) N3)],[]⟩
def FR(c:Code):List It2:=[.c c]
def EV(x1:List UInt8)(y0:VMask):TS EE.T:=⟨99,[(0,.a (.box 100000 0)),(1,.a (.d .str x1))],[(100000,.cs (eD EE (.nam 8) y0))],[]⟩
def rP(c:Code)(f:(List UInt8)→Int→Nat→Int→Int→Nat→Int→Int→(List (Int × Bool))→VMask→(List Vthread)→(List Vthread)→Option (PR az))(x1:List UInt8)(x8:Int)(x9_n:Nat)(x30:Int)(x31:Int)(x35_n:Nat)(x36:Int)(x37:Int)(b34:List (Int × Bool))(NX:VMask)(N3:List Vthread)(N4:List Vthread):Tree (Lf EE.T × Option (PR az)):=.leaf (.go (xa c) (wZ x1 x8 x9_n x30 x31 x35_n x36 x37 b34 NX N3 N4),f x1 x8 x9_n x30 x31 x35_n x36 x37 b34 NX N3 N4)
def am(c:Code)(f:(List UInt8)→Int→Nat→Int→Int→Nat→Int→Int→Vthread→Vstep→(List (Int × Bool))→VMask→(List Vthread)→(List Vthread)→Option (PR az))(x1:List UInt8)(x8:Int)(x9_n:Nat)(x30:Int)(x31:Int)(x35_n:Nat)(x36:Int)(x37:Int)(b12:Vthread)(b13:Vstep)(b34:List (Int × Bool))(NX:VMask)(N3:List Vthread)(N4:List Vthread):Tree (Lf EE.T × Option (PR az)):=.leaf (.go (xd c) (wh x1 x8 x9_n x30 x31 x35_n x36 x37 b12 b13 b34 NX N3 N4),f x1 x8 x9_n x30 x31 x35_n x36 x37 b12 b13 b34 NX N3 N4)
def AA(c:Code)(f:(List UInt8)→Int→Nat→Int→Int→Nat→Int→Int→(List (Int × Bool))→VMask→(List Vthread)→(List Vthread)→Option (PR az))(x1:List UInt8)(x8:Int)(x9_n:Nat)(x30:Int)(x31:Int)(x35_n:Nat)(x36:Int)(x37:Int)(b34:List (Int × Bool))(NX:VMask)(N3:List Vthread)(N4:List Vthread):Tree (Lf EE.T × Option (PR az)):=.leaf (.go (qr c) (qK x1 x8 x9_n x30 x31 x35_n x36 x37 b34 NX N3 N4),f x1 x8 x9_n x30 x31 x35_n x36 x37 b34 NX N3 N4)
def xp(c:Code)(f:(List UInt8)→Nat→Int→Int→VMask→(List Vthread)→Option (PR az))(x1:List UInt8)(x77_n:Nat)(x78:Int)(x79:Int)(NX:VMask)(N3:List Vthread):Tree (Lf EE.T × Option (PR az)):=.leaf (.go (w4 c) (xk x1 x77_n x78 x79 NX N3),f x1 x77_n x78 x79 NX N3)
def A7(c:Code)(f:(List UInt8)→Nat→Int→Int→VMask→(List Vthread)→Option (PR az))(x1:List UInt8)(x7_n:Nat)(x30:Int)(x31:Int)(NX:VMask)(N3:List Vthread):Tree (Lf EE.T × Option (PR az)):=.leaf (.go (mm c) (mS x1 x7_n x30 x31 NX N3),f x1 x7_n x30 x31 NX N3)
abbrev gV(N:Nat)(r:PR az)(k:List It2)(s:TS EE.T):Prop:=gB (Y:=TT) EE (HO N) J1 KS (fun u=>u=ly r) k s
def sR(x:PR az):Tree (Lf EE.T × Option (PR az)):=.leaf (.done (ly x),some x)
theorem ry{N:Nat}{r:PR az}{k9:(List UInt8)→Int→Nat→Int→Int→Nat→Int→Int→(List (Int × Bool))→VMask→(List Vthread)→(List Vthread)→Option (PR az)}{k4:(List UInt8)→Nat→Int→Int→VMask→(List Vthread)→Option (PR az)}(hk9:∀x1 x8 x9_n x30 x31 x35_n x36 x37 b34 NX N3 N4,k9 x1 x8 x9_n x30 x31 x35_n x36 x37 b34 NX N3 N4=some r→gV N r (qr (ai 0 Try.f22)) (qK x1 x8 x9_n x30 x31 x35_n x36 x37 b34 NX N3 N4))(hk4:∀x1 x7_n x30 x31 NX N3,k4 x1 x7_n x30 x31 NX N3=some r→gV N r (mm (ai 0 Try.f22)) (mS x1 x7_n x30 x31 NX N3))(n:Nat)(x1:List UInt8)(x8:Int)(x9_n:Nat)(x30:Int)(x31:Int)(x35_n:Nat)(x36:Int)(x37:Int)(b34:List (Int × Bool))(NX:VMask)(N3:List Vthread)(N4:List Vthread)(h:bQ N k9 k4 n x1 x8 x9_n x30 x31 x35_n x36 x37 b34 NX N3 N4=some r):gV N r (xa (ai 0 Try.f22)) (wZ x1 x8 x9_n x30 x31 x35_n x36 x37 b34 NX N3 N4):=
 aX (m:=4000) (t:=
 AA (ai 0 Try.f22) k9 x1 x8 x9_n x30 x31 x35_n x36 (w64 (x37+1)) b34 NX N3 N4) (by kernel_rfl) (by kernel_rfl) h (fun h=>hk9 _ _ _ _ _ _ _ _ _ _ _ _ h)
theorem ak{N:Nat}{r:PR az}{k9:(List UInt8)→Int→Nat→Int→Int→Nat→Int→Int→(List (Int × Bool))→VMask→(List Vthread)→(List Vthread)→Option (PR az)}{k4:(List UInt8)→Nat→Int→Int→VMask→(List Vthread)→Option (PR az)}(hk9:∀x1 x8 x9_n x30 x31 x35_n x36 x37 b34 NX N3 N4,k9 x1 x8 x9_n x30 x31 x35_n x36 x37 b34 NX N3 N4=some r→gV N r (qr (ai 0 Try.f22)) (qK x1 x8 x9_n x30 x31 x35_n x36 x37 b34 NX N3 N4))(hk4:∀x1 x7_n x30 x31 NX N3,k4 x1 x7_n x30 x31 NX N3=some r→gV N r (mm (ai 0 Try.f22)) (mS x1 x7_n x30 x31 NX N3))(n:Nat)(x1:List UInt8)(x8:Int)(x9_n:Nat)(x30:Int)(x31:Int)(x35_n:Nat)(x36:Int)(x37:Int)(b12:Vthread)(b13:Vstep)(b34:List (Int × Bool))(NX:VMask)(N3:List Vthread)(N4:List Vthread)(h:aa N k9 k4 n x1 x8 x9_n x30 x31 x35_n x36 x37 b12 b13 b34 NX N3 N4=some r):gV N r (xd (ai 0 Try.f22)) (wh x1 x8 x9_n x30 x31 x35_n x36 x37 b12 b13 b34 NX N3 N4):=
 aX (m:=4000) (t:=
 .cond (b13.kind==0)
 (
  .bnd (ap x1 x8) fun z130=>
  .bnd (b13.set_) fun z131=>
  .bnd (rH 256 (some z131) (b2i z130)) fun z132=>
  .cond (z132)
  (
   .bnd (bz N x9_n ({ at_:=w64 (b12.at_+1),slots:=b12.slots }:Vthread) (w64 (x8+1)) NX N4 b34) fun z133=>
   .sm z133 (fun z134=>
    rP (ai 0 Try.f22) (bQ N k9 k4 n) x1 x8 z134.1 x30 x31 x35_n x36 x37 z134.2.2.2 z134.2.1 N3 z134.2.2.1) (fun vz133=>
    sR (.pan vz133)))
  (
   rP (ai 0 Try.f22) (bQ N k9 k4 n) x1 x8 x9_n x30 x31 x35_n x36 x37 b34 NX N3 N4))
 (
  rP (ai 0 Try.f22) (bQ N k9 k4 n) x1 x8 x9_n x30 x31 x35_n x36 x37 b34 NX N3 N4)) (by kernel_rfl) (by kernel_rfl) h (⟨fun _=>fun _=>fun _=>⟨fun _=>⟨fun _=>fun h=>ry hk9 hk4 n _ _ _ _ _ _ _ _ _ _ _ _ h,fun _=>bm (enc:=ly) rfl⟩,fun h=>ry hk9 hk4 n _ _ _ _ _ _ _ _ _ _ _ _ h⟩,fun h=>ry hk9 hk4 n _ _ _ _ _ _ _ _ _ _ _ _ h⟩)
theorem aq{N:Nat}{r:PR az}{k4:(List UInt8)→Nat→Int→Int→VMask→(List Vthread)→Option (PR az)}(hk4:∀x1 x7_n x30 x31 NX N3,k4 x1 x7_n x30 x31 NX N3=some r→gV N r (mm (ai 0 Try.f22)) (mS x1 x7_n x30 x31 NX N3)):∀ (n:Nat) (x1:List UInt8) (x8:Int) (x9_n:Nat) (x30:Int) (x31:Int) (x35_n:Nat) (x36:Int) (x37:Int) (b34:List (Int × Bool)) (NX:VMask) (N3:List Vthread) (N4:List Vthread),ab N k4 n x1 x8 x9_n x30 x31 x35_n x36 x37 b34 NX N3 N4=some r→gV N r (qr (ai 0 Try.f22)) (qK x1 x8 x9_n x30 x31 x35_n x36 x37 b34 NX N3 N4)
 |0,_,_,_,_,_,_,_,_,_,_,_,_,h=>by cases h
 |n+1,x1,x8,x9_n,x30,x31,x35_n,x36,x37,b34,NX,N3,N4,h=>aX (m:=4000) (t:=
  .cond (decide (x37 < x36))
  (
   .bnd (dP x35_n x37) fun z4=>
   .bnd (N3[z4]?) fun z5=>
   .nl (([] :List Nat))
   (
    .nl (([] :List Nat))
    (
     .nl (([] :List Nat))
     (
      .nl (([] :List Nat))
      (
       .nl (([] :List Nat))
       (
        .nl (([] :List Nat))
        (
         .nl (([] :List Nat))
         (
          .bnd (ap NX.steps z5.at_) fun z6=>
          .nl (([] :List Nat))
          (
           am (ai 0 Try.f22) (aa N (ab N k4 n) k4 n) x1 x8 x9_n x30 x31 x35_n x36 x37 z5 z6 b34 NX N3 N4)
          (
           am (ai 0 Try.f22) (aa N (ab N k4 n) k4 n) x1 x8 x9_n x30 x31 x35_n x36 x37 z5 z6 b34 NX N3 N4))
         (
          .bnd (ap NX.steps z5.at_) fun z7=>
          am (ai 0 Try.f22) (aa N (ab N k4 n) k4 n) x1 x8 x9_n x30 x31 x35_n x36 x37 z5 z7 b34 NX N3 N4))
        (
         .bnd (ap NX.steps z5.at_) fun z8=>
         am (ai 0 Try.f22) (aa N (ab N k4 n) k4 n) x1 x8 x9_n x30 x31 x35_n x36 x37 z5 z8 b34 NX N3 N4))
       (
        .bnd (ap NX.steps z5.at_) fun z9=>
        am (ai 0 Try.f22) (aa N (ab N k4 n) k4 n) x1 x8 x9_n x30 x31 x35_n x36 x37 z5 z9 b34 NX N3 N4))
      (
       .nl (([] :List Nat))
       (
        .nl (([] :List Nat))
        (
         .nl (([] :List Nat))
         (
          .nl (([] :List Nat))
          (
           .bnd (ap NX.steps z5.at_) fun z10=>
           .nl (([] :List Nat))
           (
            am (ai 0 Try.f22) (aa N (ab N k4 n) k4 n) x1 x8 x9_n x30 x31 x35_n x36 x37 z5 z10 b34 NX N3 N4)
           (
            am (ai 0 Try.f22) (aa N (ab N k4 n) k4 n) x1 x8 x9_n x30 x31 x35_n x36 x37 z5 z10 b34 NX N3 N4))
          (
           .bnd (ap NX.steps z5.at_) fun z11=>
           am (ai 0 Try.f22) (aa N (ab N k4 n) k4 n) x1 x8 x9_n x30 x31 x35_n x36 x37 z5 z11 b34 NX N3 N4))
         (
          .bnd (ap NX.steps z5.at_) fun z12=>
          am (ai 0 Try.f22) (aa N (ab N k4 n) k4 n) x1 x8 x9_n x30 x31 x35_n x36 x37 z5 z12 b34 NX N3 N4))
        (
         .nl (([] :List Nat))
         (
          .nl (([] :List Nat))
          (
           .nl (([] :List Nat))
           (
            .bnd (ap NX.steps z5.at_) fun z13=>
            .nl (([] :List Nat))
            (
             am (ai 0 Try.f22) (aa N (ab N k4 n) k4 n) x1 x8 x9_n x30 x31 x35_n x36 x37 z5 z13 b34 NX N3 N4)
            (
             am (ai 0 Try.f22) (aa N (ab N k4 n) k4 n) x1 x8 x9_n x30 x31 x35_n x36 x37 z5 z13 b34 NX N3 N4))
           (
            .bnd (ap NX.steps z5.at_) fun z14=>
            am (ai 0 Try.f22) (aa N (ab N k4 n) k4 n) x1 x8 x9_n x30 x31 x35_n x36 x37 z5 z14 b34 NX N3 N4))
          (
           .bnd (ap NX.steps z5.at_) fun z15=>
           am (ai 0 Try.f22) (aa N (ab N k4 n) k4 n) x1 x8 x9_n x30 x31 x35_n x36 x37 z5 z15 b34 NX N3 N4))
         (
          .nl (([] :List Nat))
          (
           .bnd (ap NX.steps z5.at_) fun z16=>
           am (ai 0 Try.f22) (aa N (ab N k4 n) k4 n) x1 x8 x9_n x30 x31 x35_n x36 x37 z5 z16 b34 NX N3 N4)
          (
           .bnd (ap NX.steps z5.at_) fun z17=>
           am (ai 0 Try.f22) (aa N (ab N k4 n) k4 n) x1 x8 x9_n x30 x31 x35_n x36 x37 z5 z17 b34 NX N3 N4))))
       (
        .nl (([] :List Nat))
        (
         .bnd (ap NX.steps z5.at_) fun z18=>
         am (ai 0 Try.f22) (aa N (ab N k4 n) k4 n) x1 x8 x9_n x30 x31 x35_n x36 x37 z5 z18 b34 NX N3 N4)
        (
         .nl (([] :List Nat))
         (
          .bnd (ap NX.steps z5.at_) fun z19=>
          am (ai 0 Try.f22) (aa N (ab N k4 n) k4 n) x1 x8 x9_n x30 x31 x35_n x36 x37 z5 z19 b34 NX N3 N4)
         (
          .bnd (ap NX.steps z5.at_) fun z20=>
          am (ai 0 Try.f22) (aa N (ab N k4 n) k4 n) x1 x8 x9_n x30 x31 x35_n x36 x37 z5 z20 b34 NX N3 N4)))))
     (
      .nl (([] :List Nat))
      (
       .nl (([] :List Nat))
       (
        .nl (([] :List Nat))
        (
         .nl (([] :List Nat))
         (
          .nl (([] :List Nat))
          (
           .bnd (ap NX.steps z5.at_) fun z21=>
           .nl (([] :List Nat))
           (
            am (ai 0 Try.f22) (aa N (ab N k4 n) k4 n) x1 x8 x9_n x30 x31 x35_n x36 x37 z5 z21 b34 NX N3 N4)
           (
            am (ai 0 Try.f22) (aa N (ab N k4 n) k4 n) x1 x8 x9_n x30 x31 x35_n x36 x37 z5 z21 b34 NX N3 N4))
          (
           .bnd (ap NX.steps z5.at_) fun z22=>
           am (ai 0 Try.f22) (aa N (ab N k4 n) k4 n) x1 x8 x9_n x30 x31 x35_n x36 x37 z5 z22 b34 NX N3 N4))
         (
          .bnd (ap NX.steps z5.at_) fun z23=>
          am (ai 0 Try.f22) (aa N (ab N k4 n) k4 n) x1 x8 x9_n x30 x31 x35_n x36 x37 z5 z23 b34 NX N3 N4))
        (
         .nl (([] :List Nat))
         (
          .nl (([] :List Nat))
          (
           .nl (([] :List Nat))
           (
            .bnd (ap NX.steps z5.at_) fun z24=>
            .nl (([] :List Nat))
            (
             am (ai 0 Try.f22) (aa N (ab N k4 n) k4 n) x1 x8 x9_n x30 x31 x35_n x36 x37 z5 z24 b34 NX N3 N4)
            (
             am (ai 0 Try.f22) (aa N (ab N k4 n) k4 n) x1 x8 x9_n x30 x31 x35_n x36 x37 z5 z24 b34 NX N3 N4))
           (
            .bnd (ap NX.steps z5.at_) fun z25=>
            am (ai 0 Try.f22) (aa N (ab N k4 n) k4 n) x1 x8 x9_n x30 x31 x35_n x36 x37 z5 z25 b34 NX N3 N4))
          (
           .bnd (ap NX.steps z5.at_) fun z26=>
           am (ai 0 Try.f22) (aa N (ab N k4 n) k4 n) x1 x8 x9_n x30 x31 x35_n x36 x37 z5 z26 b34 NX N3 N4))
         (
          .nl (([] :List Nat))
          (
           .bnd (ap NX.steps z5.at_) fun z27=>
           am (ai 0 Try.f22) (aa N (ab N k4 n) k4 n) x1 x8 x9_n x30 x31 x35_n x36 x37 z5 z27 b34 NX N3 N4)
          (
           .bnd (ap NX.steps z5.at_) fun z28=>
           am (ai 0 Try.f22) (aa N (ab N k4 n) k4 n) x1 x8 x9_n x30 x31 x35_n x36 x37 z5 z28 b34 NX N3 N4))))
       (
        .nl (([] :List Nat))
        (
         .nl (([] :List Nat))
         (
          .nl (([] :List Nat))
          (
           .nl (([] :List Nat))
           (
            .bnd (ap NX.steps z5.at_) fun z29=>
            .nl (([] :List Nat))
            (
             am (ai 0 Try.f22) (aa N (ab N k4 n) k4 n) x1 x8 x9_n x30 x31 x35_n x36 x37 z5 z29 b34 NX N3 N4)
            (
             am (ai 0 Try.f22) (aa N (ab N k4 n) k4 n) x1 x8 x9_n x30 x31 x35_n x36 x37 z5 z29 b34 NX N3 N4))
           (
            .bnd (ap NX.steps z5.at_) fun z30=>
            am (ai 0 Try.f22) (aa N (ab N k4 n) k4 n) x1 x8 x9_n x30 x31 x35_n x36 x37 z5 z30 b34 NX N3 N4))
          (
           .bnd (ap NX.steps z5.at_) fun z31=>
           am (ai 0 Try.f22) (aa N (ab N k4 n) k4 n) x1 x8 x9_n x30 x31 x35_n x36 x37 z5 z31 b34 NX N3 N4))
         (
          .bnd (ap NX.steps z5.at_) fun z32=>
          am (ai 0 Try.f22) (aa N (ab N k4 n) k4 n) x1 x8 x9_n x30 x31 x35_n x36 x37 z5 z32 b34 NX N3 N4))
        (
         .nl (([] :List Nat))
         (
          .nl (([] :List Nat))
          (
           .bnd (ap NX.steps z5.at_) fun z33=>
           am (ai 0 Try.f22) (aa N (ab N k4 n) k4 n) x1 x8 x9_n x30 x31 x35_n x36 x37 z5 z33 b34 NX N3 N4)
          (
           .bnd (ap NX.steps z5.at_) fun z34=>
           am (ai 0 Try.f22) (aa N (ab N k4 n) k4 n) x1 x8 x9_n x30 x31 x35_n x36 x37 z5 z34 b34 NX N3 N4))
         (
          .bnd (ap NX.steps z5.at_) fun z35=>
          am (ai 0 Try.f22) (aa N (ab N k4 n) k4 n) x1 x8 x9_n x30 x31 x35_n x36 x37 z5 z35 b34 NX N3 N4))))
      (
       .nl (([] :List Nat))
       (
        .nl (([] :List Nat))
        (
         .bnd (ap NX.steps z5.at_) fun z36=>
         am (ai 0 Try.f22) (aa N (ab N k4 n) k4 n) x1 x8 x9_n x30 x31 x35_n x36 x37 z5 z36 b34 NX N3 N4)
        (
         .nl (([] :List Nat))
         (
          .bnd (ap NX.steps z5.at_) fun z37=>
          am (ai 0 Try.f22) (aa N (ab N k4 n) k4 n) x1 x8 x9_n x30 x31 x35_n x36 x37 z5 z37 b34 NX N3 N4)
         (
          .bnd (ap NX.steps z5.at_) fun z38=>
          am (ai 0 Try.f22) (aa N (ab N k4 n) k4 n) x1 x8 x9_n x30 x31 x35_n x36 x37 z5 z38 b34 NX N3 N4)))
       (
        .nl (([] :List Nat))
        (
         .nl (([] :List Nat))
         (
          .bnd (ap NX.steps z5.at_) fun z39=>
          am (ai 0 Try.f22) (aa N (ab N k4 n) k4 n) x1 x8 x9_n x30 x31 x35_n x36 x37 z5 z39 b34 NX N3 N4)
         (
          .bnd (ap NX.steps z5.at_) fun z40=>
          am (ai 0 Try.f22) (aa N (ab N k4 n) k4 n) x1 x8 x9_n x30 x31 x35_n x36 x37 z5 z40 b34 NX N3 N4))
        (
         .bnd (ap NX.steps z5.at_) fun z41=>
         am (ai 0 Try.f22) (aa N (ab N k4 n) k4 n) x1 x8 x9_n x30 x31 x35_n x36 x37 z5 z41 b34 NX N3 N4)))))
    (
     .nl (([] :List Nat))
     (
      .nl (([] :List Nat))
      (
       .nl (([] :List Nat))
       (
        .nl (([] :List Nat))
        (
         .nl (([] :List Nat))
         (
          .nl (([] :List Nat))
          (
           .bnd (ap NX.steps z5.at_) fun z42=>
           .nl (([] :List Nat))
           (
            am (ai 0 Try.f22) (aa N (ab N k4 n) k4 n) x1 x8 x9_n x30 x31 x35_n x36 x37 z5 z42 b34 NX N3 N4)
           (
            am (ai 0 Try.f22) (aa N (ab N k4 n) k4 n) x1 x8 x9_n x30 x31 x35_n x36 x37 z5 z42 b34 NX N3 N4))
          (
           .bnd (ap NX.steps z5.at_) fun z43=>
           am (ai 0 Try.f22) (aa N (ab N k4 n) k4 n) x1 x8 x9_n x30 x31 x35_n x36 x37 z5 z43 b34 NX N3 N4))
         (
          .bnd (ap NX.steps z5.at_) fun z44=>
          am (ai 0 Try.f22) (aa N (ab N k4 n) k4 n) x1 x8 x9_n x30 x31 x35_n x36 x37 z5 z44 b34 NX N3 N4))
        (
         .nl (([] :List Nat))
         (
          .nl (([] :List Nat))
          (
           .nl (([] :List Nat))
           (
            .bnd (ap NX.steps z5.at_) fun z45=>
            .nl (([] :List Nat))
            (
             am (ai 0 Try.f22) (aa N (ab N k4 n) k4 n) x1 x8 x9_n x30 x31 x35_n x36 x37 z5 z45 b34 NX N3 N4)
            (
             am (ai 0 Try.f22) (aa N (ab N k4 n) k4 n) x1 x8 x9_n x30 x31 x35_n x36 x37 z5 z45 b34 NX N3 N4))
           (
            .bnd (ap NX.steps z5.at_) fun z46=>
            am (ai 0 Try.f22) (aa N (ab N k4 n) k4 n) x1 x8 x9_n x30 x31 x35_n x36 x37 z5 z46 b34 NX N3 N4))
          (
           .bnd (ap NX.steps z5.at_) fun z47=>
           am (ai 0 Try.f22) (aa N (ab N k4 n) k4 n) x1 x8 x9_n x30 x31 x35_n x36 x37 z5 z47 b34 NX N3 N4))
         (
          .nl (([] :List Nat))
          (
           .bnd (ap NX.steps z5.at_) fun z48=>
           am (ai 0 Try.f22) (aa N (ab N k4 n) k4 n) x1 x8 x9_n x30 x31 x35_n x36 x37 z5 z48 b34 NX N3 N4)
          (
           .bnd (ap NX.steps z5.at_) fun z49=>
           am (ai 0 Try.f22) (aa N (ab N k4 n) k4 n) x1 x8 x9_n x30 x31 x35_n x36 x37 z5 z49 b34 NX N3 N4))))
       (
        .nl (([] :List Nat))
        (
         .nl (([] :List Nat))
         (
          .nl (([] :List Nat))
          (
           .nl (([] :List Nat))
           (
            .bnd (ap NX.steps z5.at_) fun z50=>
            .nl (([] :List Nat))
            (
             am (ai 0 Try.f22) (aa N (ab N k4 n) k4 n) x1 x8 x9_n x30 x31 x35_n x36 x37 z5 z50 b34 NX N3 N4)
            (
             am (ai 0 Try.f22) (aa N (ab N k4 n) k4 n) x1 x8 x9_n x30 x31 x35_n x36 x37 z5 z50 b34 NX N3 N4))
           (
            .bnd (ap NX.steps z5.at_) fun z51=>
            am (ai 0 Try.f22) (aa N (ab N k4 n) k4 n) x1 x8 x9_n x30 x31 x35_n x36 x37 z5 z51 b34 NX N3 N4))
          (
           .bnd (ap NX.steps z5.at_) fun z52=>
           am (ai 0 Try.f22) (aa N (ab N k4 n) k4 n) x1 x8 x9_n x30 x31 x35_n x36 x37 z5 z52 b34 NX N3 N4))
         (
          .bnd (ap NX.steps z5.at_) fun z53=>
          am (ai 0 Try.f22) (aa N (ab N k4 n) k4 n) x1 x8 x9_n x30 x31 x35_n x36 x37 z5 z53 b34 NX N3 N4))
        (
         .nl (([] :List Nat))
         (
          .nl (([] :List Nat))
          (
           .bnd (ap NX.steps z5.at_) fun z54=>
           am (ai 0 Try.f22) (aa N (ab N k4 n) k4 n) x1 x8 x9_n x30 x31 x35_n x36 x37 z5 z54 b34 NX N3 N4)
          (
           .bnd (ap NX.steps z5.at_) fun z55=>
           am (ai 0 Try.f22) (aa N (ab N k4 n) k4 n) x1 x8 x9_n x30 x31 x35_n x36 x37 z5 z55 b34 NX N3 N4))
         (
          .bnd (ap NX.steps z5.at_) fun z56=>
          am (ai 0 Try.f22) (aa N (ab N k4 n) k4 n) x1 x8 x9_n x30 x31 x35_n x36 x37 z5 z56 b34 NX N3 N4))))
      (
       .nl (([] :List Nat))
       (
        .nl (([] :List Nat))
        (
         .nl (([] :List Nat))
         (
          .nl (([] :List Nat))
          (
           .nl (([] :List Nat))
           (
            .bnd (ap NX.steps z5.at_) fun z57=>
            .nl (([] :List Nat))
            (
             am (ai 0 Try.f22) (aa N (ab N k4 n) k4 n) x1 x8 x9_n x30 x31 x35_n x36 x37 z5 z57 b34 NX N3 N4)
            (
             am (ai 0 Try.f22) (aa N (ab N k4 n) k4 n) x1 x8 x9_n x30 x31 x35_n x36 x37 z5 z57 b34 NX N3 N4))
           (
            .bnd (ap NX.steps z5.at_) fun z58=>
            am (ai 0 Try.f22) (aa N (ab N k4 n) k4 n) x1 x8 x9_n x30 x31 x35_n x36 x37 z5 z58 b34 NX N3 N4))
          (
           .bnd (ap NX.steps z5.at_) fun z59=>
           am (ai 0 Try.f22) (aa N (ab N k4 n) k4 n) x1 x8 x9_n x30 x31 x35_n x36 x37 z5 z59 b34 NX N3 N4))
         (
          .bnd (ap NX.steps z5.at_) fun z60=>
          am (ai 0 Try.f22) (aa N (ab N k4 n) k4 n) x1 x8 x9_n x30 x31 x35_n x36 x37 z5 z60 b34 NX N3 N4))
        (
         .bnd (ap NX.steps z5.at_) fun z61=>
         am (ai 0 Try.f22) (aa N (ab N k4 n) k4 n) x1 x8 x9_n x30 x31 x35_n x36 x37 z5 z61 b34 NX N3 N4))
       (
        .nl (([] :List Nat))
        (
         .nl (([] :List Nat))
         (
          .nl (([] :List Nat))
          (
           .bnd (ap NX.steps z5.at_) fun z62=>
           am (ai 0 Try.f22) (aa N (ab N k4 n) k4 n) x1 x8 x9_n x30 x31 x35_n x36 x37 z5 z62 b34 NX N3 N4)
          (
           .bnd (ap NX.steps z5.at_) fun z63=>
           am (ai 0 Try.f22) (aa N (ab N k4 n) k4 n) x1 x8 x9_n x30 x31 x35_n x36 x37 z5 z63 b34 NX N3 N4))
         (
          .bnd (ap NX.steps z5.at_) fun z64=>
          am (ai 0 Try.f22) (aa N (ab N k4 n) k4 n) x1 x8 x9_n x30 x31 x35_n x36 x37 z5 z64 b34 NX N3 N4))
        (
         .bnd (ap NX.steps z5.at_) fun z65=>
         am (ai 0 Try.f22) (aa N (ab N k4 n) k4 n) x1 x8 x9_n x30 x31 x35_n x36 x37 z5 z65 b34 NX N3 N4))))
     (
      .nl (([] :List Nat))
      (
       .nl (([] :List Nat))
       (
        .nl (([] :List Nat))
        (
         .bnd (ap NX.steps z5.at_) fun z66=>
         am (ai 0 Try.f22) (aa N (ab N k4 n) k4 n) x1 x8 x9_n x30 x31 x35_n x36 x37 z5 z66 b34 NX N3 N4)
        (
         .nl (([] :List Nat))
         (
          .bnd (ap NX.steps z5.at_) fun z67=>
          am (ai 0 Try.f22) (aa N (ab N k4 n) k4 n) x1 x8 x9_n x30 x31 x35_n x36 x37 z5 z67 b34 NX N3 N4)
         (
          .bnd (ap NX.steps z5.at_) fun z68=>
          am (ai 0 Try.f22) (aa N (ab N k4 n) k4 n) x1 x8 x9_n x30 x31 x35_n x36 x37 z5 z68 b34 NX N3 N4)))
       (
        .nl (([] :List Nat))
        (
         .nl (([] :List Nat))
         (
          .bnd (ap NX.steps z5.at_) fun z69=>
          am (ai 0 Try.f22) (aa N (ab N k4 n) k4 n) x1 x8 x9_n x30 x31 x35_n x36 x37 z5 z69 b34 NX N3 N4)
         (
          .bnd (ap NX.steps z5.at_) fun z70=>
          am (ai 0 Try.f22) (aa N (ab N k4 n) k4 n) x1 x8 x9_n x30 x31 x35_n x36 x37 z5 z70 b34 NX N3 N4))
        (
         .bnd (ap NX.steps z5.at_) fun z71=>
         am (ai 0 Try.f22) (aa N (ab N k4 n) k4 n) x1 x8 x9_n x30 x31 x35_n x36 x37 z5 z71 b34 NX N3 N4)))
      (
       .nl (([] :List Nat))
       (
        .nl (([] :List Nat))
        (
         .nl (([] :List Nat))
         (
          .bnd (ap NX.steps z5.at_) fun z72=>
          am (ai 0 Try.f22) (aa N (ab N k4 n) k4 n) x1 x8 x9_n x30 x31 x35_n x36 x37 z5 z72 b34 NX N3 N4)
         (
          .bnd (ap NX.steps z5.at_) fun z73=>
          am (ai 0 Try.f22) (aa N (ab N k4 n) k4 n) x1 x8 x9_n x30 x31 x35_n x36 x37 z5 z73 b34 NX N3 N4))
        (
         .bnd (ap NX.steps z5.at_) fun z74=>
         am (ai 0 Try.f22) (aa N (ab N k4 n) k4 n) x1 x8 x9_n x30 x31 x35_n x36 x37 z5 z74 b34 NX N3 N4))
       (
        .bnd (ap NX.steps z5.at_) fun z75=>
        am (ai 0 Try.f22) (aa N (ab N k4 n) k4 n) x1 x8 x9_n x30 x31 x35_n x36 x37 z5 z75 b34 NX N3 N4)))))
   (
    .nl (([] :List Nat))
    (
     .nl (([] :List Nat))
     (
      .nl (([] :List Nat))
      (
       .nl (([] :List Nat))
       (
        .nl (([] :List Nat))
        (
         .nl (([] :List Nat))
         (
          .nl (([] :List Nat))
          (
           .bnd (ap NX.steps z5.at_) fun z76=>
           .nl (([] :List Nat))
           (
            am (ai 0 Try.f22) (aa N (ab N k4 n) k4 n) x1 x8 x9_n x30 x31 x35_n x36 x37 z5 z76 b34 NX N3 N4)
           (
            am (ai 0 Try.f22) (aa N (ab N k4 n) k4 n) x1 x8 x9_n x30 x31 x35_n x36 x37 z5 z76 b34 NX N3 N4))
          (
           .bnd (ap NX.steps z5.at_) fun z77=>
           am (ai 0 Try.f22) (aa N (ab N k4 n) k4 n) x1 x8 x9_n x30 x31 x35_n x36 x37 z5 z77 b34 NX N3 N4))
         (
          .bnd (ap NX.steps z5.at_) fun z78=>
          am (ai 0 Try.f22) (aa N (ab N k4 n) k4 n) x1 x8 x9_n x30 x31 x35_n x36 x37 z5 z78 b34 NX N3 N4))
        (
         .nl (([] :List Nat))
         (
          .nl (([] :List Nat))
          (
           .nl (([] :List Nat))
           (
            .bnd (ap NX.steps z5.at_) fun z79=>
            .nl (([] :List Nat))
            (
             am (ai 0 Try.f22) (aa N (ab N k4 n) k4 n) x1 x8 x9_n x30 x31 x35_n x36 x37 z5 z79 b34 NX N3 N4)
            (
             am (ai 0 Try.f22) (aa N (ab N k4 n) k4 n) x1 x8 x9_n x30 x31 x35_n x36 x37 z5 z79 b34 NX N3 N4))
           (
            .bnd (ap NX.steps z5.at_) fun z80=>
            am (ai 0 Try.f22) (aa N (ab N k4 n) k4 n) x1 x8 x9_n x30 x31 x35_n x36 x37 z5 z80 b34 NX N3 N4))
          (
           .bnd (ap NX.steps z5.at_) fun z81=>
           am (ai 0 Try.f22) (aa N (ab N k4 n) k4 n) x1 x8 x9_n x30 x31 x35_n x36 x37 z5 z81 b34 NX N3 N4))
         (
          .nl (([] :List Nat))
          (
           .bnd (ap NX.steps z5.at_) fun z82=>
           am (ai 0 Try.f22) (aa N (ab N k4 n) k4 n) x1 x8 x9_n x30 x31 x35_n x36 x37 z5 z82 b34 NX N3 N4)
          (
           .bnd (ap NX.steps z5.at_) fun z83=>
           am (ai 0 Try.f22) (aa N (ab N k4 n) k4 n) x1 x8 x9_n x30 x31 x35_n x36 x37 z5 z83 b34 NX N3 N4))))
       (
        .nl (([] :List Nat))
        (
         .nl (([] :List Nat))
         (
          .nl (([] :List Nat))
          (
           .nl (([] :List Nat))
           (
            .bnd (ap NX.steps z5.at_) fun z84=>
            .nl (([] :List Nat))
            (
             am (ai 0 Try.f22) (aa N (ab N k4 n) k4 n) x1 x8 x9_n x30 x31 x35_n x36 x37 z5 z84 b34 NX N3 N4)
            (
             am (ai 0 Try.f22) (aa N (ab N k4 n) k4 n) x1 x8 x9_n x30 x31 x35_n x36 x37 z5 z84 b34 NX N3 N4))
           (
            .bnd (ap NX.steps z5.at_) fun z85=>
            am (ai 0 Try.f22) (aa N (ab N k4 n) k4 n) x1 x8 x9_n x30 x31 x35_n x36 x37 z5 z85 b34 NX N3 N4))
          (
           .bnd (ap NX.steps z5.at_) fun z86=>
           am (ai 0 Try.f22) (aa N (ab N k4 n) k4 n) x1 x8 x9_n x30 x31 x35_n x36 x37 z5 z86 b34 NX N3 N4))
         (
          .bnd (ap NX.steps z5.at_) fun z87=>
          am (ai 0 Try.f22) (aa N (ab N k4 n) k4 n) x1 x8 x9_n x30 x31 x35_n x36 x37 z5 z87 b34 NX N3 N4))
        (
         .nl (([] :List Nat))
         (
          .nl (([] :List Nat))
          (
           .bnd (ap NX.steps z5.at_) fun z88=>
           am (ai 0 Try.f22) (aa N (ab N k4 n) k4 n) x1 x8 x9_n x30 x31 x35_n x36 x37 z5 z88 b34 NX N3 N4)
          (
           .bnd (ap NX.steps z5.at_) fun z89=>
           am (ai 0 Try.f22) (aa N (ab N k4 n) k4 n) x1 x8 x9_n x30 x31 x35_n x36 x37 z5 z89 b34 NX N3 N4))
         (
          .bnd (ap NX.steps z5.at_) fun z90=>
          am (ai 0 Try.f22) (aa N (ab N k4 n) k4 n) x1 x8 x9_n x30 x31 x35_n x36 x37 z5 z90 b34 NX N3 N4))))
      (
       .nl (([] :List Nat))
       (
        .nl (([] :List Nat))
        (
         .nl (([] :List Nat))
         (
          .nl (([] :List Nat))
          (
           .nl (([] :List Nat))
           (
            .bnd (ap NX.steps z5.at_) fun z91=>
            .nl (([] :List Nat))
            (
             am (ai 0 Try.f22) (aa N (ab N k4 n) k4 n) x1 x8 x9_n x30 x31 x35_n x36 x37 z5 z91 b34 NX N3 N4)
            (
             am (ai 0 Try.f22) (aa N (ab N k4 n) k4 n) x1 x8 x9_n x30 x31 x35_n x36 x37 z5 z91 b34 NX N3 N4))
           (
            .bnd (ap NX.steps z5.at_) fun z92=>
            am (ai 0 Try.f22) (aa N (ab N k4 n) k4 n) x1 x8 x9_n x30 x31 x35_n x36 x37 z5 z92 b34 NX N3 N4))
          (
           .bnd (ap NX.steps z5.at_) fun z93=>
           am (ai 0 Try.f22) (aa N (ab N k4 n) k4 n) x1 x8 x9_n x30 x31 x35_n x36 x37 z5 z93 b34 NX N3 N4))
         (
          .bnd (ap NX.steps z5.at_) fun z94=>
          am (ai 0 Try.f22) (aa N (ab N k4 n) k4 n) x1 x8 x9_n x30 x31 x35_n x36 x37 z5 z94 b34 NX N3 N4))
        (
         .bnd (ap NX.steps z5.at_) fun z95=>
         am (ai 0 Try.f22) (aa N (ab N k4 n) k4 n) x1 x8 x9_n x30 x31 x35_n x36 x37 z5 z95 b34 NX N3 N4))
       (
        .nl (([] :List Nat))
        (
         .nl (([] :List Nat))
         (
          .nl (([] :List Nat))
          (
           .bnd (ap NX.steps z5.at_) fun z96=>
           am (ai 0 Try.f22) (aa N (ab N k4 n) k4 n) x1 x8 x9_n x30 x31 x35_n x36 x37 z5 z96 b34 NX N3 N4)
          (
           .bnd (ap NX.steps z5.at_) fun z97=>
           am (ai 0 Try.f22) (aa N (ab N k4 n) k4 n) x1 x8 x9_n x30 x31 x35_n x36 x37 z5 z97 b34 NX N3 N4))
         (
          .bnd (ap NX.steps z5.at_) fun z98=>
          am (ai 0 Try.f22) (aa N (ab N k4 n) k4 n) x1 x8 x9_n x30 x31 x35_n x36 x37 z5 z98 b34 NX N3 N4))
        (
         .bnd (ap NX.steps z5.at_) fun z99=>
         am (ai 0 Try.f22) (aa N (ab N k4 n) k4 n) x1 x8 x9_n x30 x31 x35_n x36 x37 z5 z99 b34 NX N3 N4))))
     (
      .nl (([] :List Nat))
      (
       .nl (([] :List Nat))
       (
        .nl (([] :List Nat))
        (
         .nl (([] :List Nat))
         (
          .nl (([] :List Nat))
          (
           .nl (([] :List Nat))
           (
            .bnd (ap NX.steps z5.at_) fun z100=>
            .nl (([] :List Nat))
            (
             am (ai 0 Try.f22) (aa N (ab N k4 n) k4 n) x1 x8 x9_n x30 x31 x35_n x36 x37 z5 z100 b34 NX N3 N4)
            (
             am (ai 0 Try.f22) (aa N (ab N k4 n) k4 n) x1 x8 x9_n x30 x31 x35_n x36 x37 z5 z100 b34 NX N3 N4))
           (
            .bnd (ap NX.steps z5.at_) fun z101=>
            am (ai 0 Try.f22) (aa N (ab N k4 n) k4 n) x1 x8 x9_n x30 x31 x35_n x36 x37 z5 z101 b34 NX N3 N4))
          (
           .bnd (ap NX.steps z5.at_) fun z102=>
           am (ai 0 Try.f22) (aa N (ab N k4 n) k4 n) x1 x8 x9_n x30 x31 x35_n x36 x37 z5 z102 b34 NX N3 N4))
         (
          .bnd (ap NX.steps z5.at_) fun z103=>
          am (ai 0 Try.f22) (aa N (ab N k4 n) k4 n) x1 x8 x9_n x30 x31 x35_n x36 x37 z5 z103 b34 NX N3 N4))
        (
         .bnd (ap NX.steps z5.at_) fun z104=>
         am (ai 0 Try.f22) (aa N (ab N k4 n) k4 n) x1 x8 x9_n x30 x31 x35_n x36 x37 z5 z104 b34 NX N3 N4))
       (
        .bnd (ap NX.steps z5.at_) fun z105=>
        am (ai 0 Try.f22) (aa N (ab N k4 n) k4 n) x1 x8 x9_n x30 x31 x35_n x36 x37 z5 z105 b34 NX N3 N4))
      (
       .nl (([] :List Nat))
       (
        .nl (([] :List Nat))
        (
         .nl (([] :List Nat))
         (
          .nl (([] :List Nat))
          (
           .bnd (ap NX.steps z5.at_) fun z106=>
           am (ai 0 Try.f22) (aa N (ab N k4 n) k4 n) x1 x8 x9_n x30 x31 x35_n x36 x37 z5 z106 b34 NX N3 N4)
          (
           .bnd (ap NX.steps z5.at_) fun z107=>
           am (ai 0 Try.f22) (aa N (ab N k4 n) k4 n) x1 x8 x9_n x30 x31 x35_n x36 x37 z5 z107 b34 NX N3 N4))
         (
          .bnd (ap NX.steps z5.at_) fun z108=>
          am (ai 0 Try.f22) (aa N (ab N k4 n) k4 n) x1 x8 x9_n x30 x31 x35_n x36 x37 z5 z108 b34 NX N3 N4))
        (
         .bnd (ap NX.steps z5.at_) fun z109=>
         am (ai 0 Try.f22) (aa N (ab N k4 n) k4 n) x1 x8 x9_n x30 x31 x35_n x36 x37 z5 z109 b34 NX N3 N4))
       (
        .bnd (ap NX.steps z5.at_) fun z110=>
        am (ai 0 Try.f22) (aa N (ab N k4 n) k4 n) x1 x8 x9_n x30 x31 x35_n x36 x37 z5 z110 b34 NX N3 N4))))
    (
     .nl (([] :List Nat))
     (
      .nl (([] :List Nat))
      (
       .nl (([] :List Nat))
       (
        .nl (([] :List Nat))
        (
         .bnd (ap NX.steps z5.at_) fun z111=>
         am (ai 0 Try.f22) (aa N (ab N k4 n) k4 n) x1 x8 x9_n x30 x31 x35_n x36 x37 z5 z111 b34 NX N3 N4)
        (
         .nl (([] :List Nat))
         (
          .bnd (ap NX.steps z5.at_) fun z112=>
          am (ai 0 Try.f22) (aa N (ab N k4 n) k4 n) x1 x8 x9_n x30 x31 x35_n x36 x37 z5 z112 b34 NX N3 N4)
         (
          .bnd (ap NX.steps z5.at_) fun z113=>
          am (ai 0 Try.f22) (aa N (ab N k4 n) k4 n) x1 x8 x9_n x30 x31 x35_n x36 x37 z5 z113 b34 NX N3 N4)))
       (
        .nl (([] :List Nat))
        (
         .nl (([] :List Nat))
         (
          .bnd (ap NX.steps z5.at_) fun z114=>
          am (ai 0 Try.f22) (aa N (ab N k4 n) k4 n) x1 x8 x9_n x30 x31 x35_n x36 x37 z5 z114 b34 NX N3 N4)
         (
          .bnd (ap NX.steps z5.at_) fun z115=>
          am (ai 0 Try.f22) (aa N (ab N k4 n) k4 n) x1 x8 x9_n x30 x31 x35_n x36 x37 z5 z115 b34 NX N3 N4))
        (
         .bnd (ap NX.steps z5.at_) fun z116=>
         am (ai 0 Try.f22) (aa N (ab N k4 n) k4 n) x1 x8 x9_n x30 x31 x35_n x36 x37 z5 z116 b34 NX N3 N4)))
      (
       .nl (([] :List Nat))
       (
        .nl (([] :List Nat))
        (
         .nl (([] :List Nat))
         (
          .bnd (ap NX.steps z5.at_) fun z117=>
          am (ai 0 Try.f22) (aa N (ab N k4 n) k4 n) x1 x8 x9_n x30 x31 x35_n x36 x37 z5 z117 b34 NX N3 N4)
         (
          .bnd (ap NX.steps z5.at_) fun z118=>
          am (ai 0 Try.f22) (aa N (ab N k4 n) k4 n) x1 x8 x9_n x30 x31 x35_n x36 x37 z5 z118 b34 NX N3 N4))
        (
         .bnd (ap NX.steps z5.at_) fun z119=>
         am (ai 0 Try.f22) (aa N (ab N k4 n) k4 n) x1 x8 x9_n x30 x31 x35_n x36 x37 z5 z119 b34 NX N3 N4))
       (
        .bnd (ap NX.steps z5.at_) fun z120=>
        am (ai 0 Try.f22) (aa N (ab N k4 n) k4 n) x1 x8 x9_n x30 x31 x35_n x36 x37 z5 z120 b34 NX N3 N4)))
     (
      .nl (([] :List Nat))
      (
       .nl (([] :List Nat))
       (
        .nl (([] :List Nat))
        (
         .nl (([] :List Nat))
         (
          .bnd (ap NX.steps z5.at_) fun z121=>
          am (ai 0 Try.f22) (aa N (ab N k4 n) k4 n) x1 x8 x9_n x30 x31 x35_n x36 x37 z5 z121 b34 NX N3 N4)
         (
          .bnd (ap NX.steps z5.at_) fun z122=>
          am (ai 0 Try.f22) (aa N (ab N k4 n) k4 n) x1 x8 x9_n x30 x31 x35_n x36 x37 z5 z122 b34 NX N3 N4))
        (
         .bnd (ap NX.steps z5.at_) fun z123=>
         am (ai 0 Try.f22) (aa N (ab N k4 n) k4 n) x1 x8 x9_n x30 x31 x35_n x36 x37 z5 z123 b34 NX N3 N4))
       (
        .bnd (ap NX.steps z5.at_) fun z124=>
        am (ai 0 Try.f22) (aa N (ab N k4 n) k4 n) x1 x8 x9_n x30 x31 x35_n x36 x37 z5 z124 b34 NX N3 N4))
      (
       .bnd (ap NX.steps z5.at_) fun z125=>
       am (ai 0 Try.f22) (aa N (ab N k4 n) k4 n) x1 x8 x9_n x30 x31 x35_n x36 x37 z5 z125 b34 NX N3 N4)))))
  (
   A7 (ai 0 Try.f22) k4 x1 x9_n x30 (w64 (x31+1)) NX N4)) (by kernel_rfl) (by kernel_rfl) h (⟨fun _=>fun _=>⟨fun _ _ h=>Eq.trans (by kernel_rfl) h,⟨fun _ _ h=>Eq.trans (by kernel_rfl) h,⟨fun _ _ h=>Eq.trans (by kernel_rfl) h,⟨fun _ _ h=>Eq.trans (by kernel_rfl) h,⟨fun _ _ h=>Eq.trans (by kernel_rfl) h,⟨fun _ _ h=>Eq.trans (by kernel_rfl) h,⟨fun _ _ h=>Eq.trans (by kernel_rfl) h,fun _=>⟨fun _ _ h=>Eq.trans (by kernel_rfl) h,fun h=>ak (aq hk4 n) hk4 n _ _ _ _ _ _ _ _ _ _ _ _ _ _ h,fun h=>ak (aq hk4 n) hk4 n _ _ _ _ _ _ _ _ _ _ _ _ _ _ h⟩,fun _=>fun h=>ak (aq hk4 n) hk4 n _ _ _ _ _ _ _ _ _ _ _ _ _ _ h⟩,fun _=>fun h=>ak (aq hk4 n) hk4 n _ _ _ _ _ _ _ _ _ _ _ _ _ _ h⟩,fun _=>fun h=>ak (aq hk4 n) hk4 n _ _ _ _ _ _ _ _ _ _ _ _ _ _ h⟩,⟨fun _ _ h=>Eq.trans (by kernel_rfl) h,⟨fun _ _ h=>Eq.trans (by kernel_rfl) h,⟨fun _ _ h=>Eq.trans (by kernel_rfl) h,⟨fun _ _ h=>Eq.trans (by kernel_rfl) h,fun _=>⟨fun _ _ h=>Eq.trans (by kernel_rfl) h,fun h=>ak (aq hk4 n) hk4 n _ _ _ _ _ _ _ _ _ _ _ _ _ _ h,fun h=>ak (aq hk4 n) hk4 n _ _ _ _ _ _ _ _ _ _ _ _ _ _ h⟩,fun _=>fun h=>ak (aq hk4 n) hk4 n _ _ _ _ _ _ _ _ _ _ _ _ _ _ h⟩,fun _=>fun h=>ak (aq hk4 n) hk4 n _ _ _ _ _ _ _ _ _ _ _ _ _ _ h⟩,⟨fun _ _ h=>Eq.trans (by kernel_rfl) h,⟨fun _ _ h=>Eq.trans (by kernel_rfl) h,⟨fun _ _ h=>Eq.trans (by kernel_rfl) h,fun _=>⟨fun _ _ h=>Eq.trans (by kernel_rfl) h,fun h=>ak (aq hk4 n) hk4 n _ _ _ _ _ _ _ _ _ _ _ _ _ _ h,fun h=>ak (aq hk4 n) hk4 n _ _ _ _ _ _ _ _ _ _ _ _ _ _ h⟩,fun _=>fun h=>ak (aq hk4 n) hk4 n _ _ _ _ _ _ _ _ _ _ _ _ _ _ h⟩,fun _=>fun h=>ak (aq hk4 n) hk4 n _ _ _ _ _ _ _ _ _ _ _ _ _ _ h⟩,⟨fun _ _ h=>Eq.trans (by kernel_rfl) h,fun _=>fun h=>ak (aq hk4 n) hk4 n _ _ _ _ _ _ _ _ _ _ _ _ _ _ h,fun _=>fun h=>ak (aq hk4 n) hk4 n _ _ _ _ _ _ _ _ _ _ _ _ _ _ h⟩⟩⟩,⟨fun _ _ h=>Eq.trans (by kernel_rfl) h,fun _=>fun h=>ak (aq hk4 n) hk4 n _ _ _ _ _ _ _ _ _ _ _ _ _ _ h,⟨fun _ _ h=>Eq.trans (by kernel_rfl) h,fun _=>fun h=>ak (aq hk4 n) hk4 n _ _ _ _ _ _ _ _ _ _ _ _ _ _ h,fun _=>fun h=>ak (aq hk4 n) hk4 n _ _ _ _ _ _ _ _ _ _ _ _ _ _ h⟩⟩⟩⟩,⟨fun _ _ h=>Eq.trans (by kernel_rfl) h,⟨fun _ _ h=>Eq.trans (by kernel_rfl) h,⟨fun _ _ h=>Eq.trans (by kernel_rfl) h,⟨fun _ _ h=>Eq.trans (by kernel_rfl) h,⟨fun _ _ h=>Eq.trans (by kernel_rfl) h,fun _=>⟨fun _ _ h=>Eq.trans (by kernel_rfl) h,fun h=>ak (aq hk4 n) hk4 n _ _ _ _ _ _ _ _ _ _ _ _ _ _ h,fun h=>ak (aq hk4 n) hk4 n _ _ _ _ _ _ _ _ _ _ _ _ _ _ h⟩,fun _=>fun h=>ak (aq hk4 n) hk4 n _ _ _ _ _ _ _ _ _ _ _ _ _ _ h⟩,fun _=>fun h=>ak (aq hk4 n) hk4 n _ _ _ _ _ _ _ _ _ _ _ _ _ _ h⟩,⟨fun _ _ h=>Eq.trans (by kernel_rfl) h,⟨fun _ _ h=>Eq.trans (by kernel_rfl) h,⟨fun _ _ h=>Eq.trans (by kernel_rfl) h,fun _=>⟨fun _ _ h=>Eq.trans (by kernel_rfl) h,fun h=>ak (aq hk4 n) hk4 n _ _ _ _ _ _ _ _ _ _ _ _ _ _ h,fun h=>ak (aq hk4 n) hk4 n _ _ _ _ _ _ _ _ _ _ _ _ _ _ h⟩,fun _=>fun h=>ak (aq hk4 n) hk4 n _ _ _ _ _ _ _ _ _ _ _ _ _ _ h⟩,fun _=>fun h=>ak (aq hk4 n) hk4 n _ _ _ _ _ _ _ _ _ _ _ _ _ _ h⟩,⟨fun _ _ h=>Eq.trans (by kernel_rfl) h,fun _=>fun h=>ak (aq hk4 n) hk4 n _ _ _ _ _ _ _ _ _ _ _ _ _ _ h,fun _=>fun h=>ak (aq hk4 n) hk4 n _ _ _ _ _ _ _ _ _ _ _ _ _ _ h⟩⟩⟩,⟨fun _ _ h=>Eq.trans (by kernel_rfl) h,⟨fun _ _ h=>Eq.trans (by kernel_rfl) h,⟨fun _ _ h=>Eq.trans (by kernel_rfl) h,⟨fun _ _ h=>Eq.trans (by kernel_rfl) h,fun _=>⟨fun _ _ h=>Eq.trans (by kernel_rfl) h,fun h=>ak (aq hk4 n) hk4 n _ _ _ _ _ _ _ _ _ _ _ _ _ _ h,fun h=>ak (aq hk4 n) hk4 n _ _ _ _ _ _ _ _ _ _ _ _ _ _ h⟩,fun _=>fun h=>ak (aq hk4 n) hk4 n _ _ _ _ _ _ _ _ _ _ _ _ _ _ h⟩,fun _=>fun h=>ak (aq hk4 n) hk4 n _ _ _ _ _ _ _ _ _ _ _ _ _ _ h⟩,fun _=>fun h=>ak (aq hk4 n) hk4 n _ _ _ _ _ _ _ _ _ _ _ _ _ _ h⟩,⟨fun _ _ h=>Eq.trans (by kernel_rfl) h,⟨fun _ _ h=>Eq.trans (by kernel_rfl) h,fun _=>fun h=>ak (aq hk4 n) hk4 n _ _ _ _ _ _ _ _ _ _ _ _ _ _ h,fun _=>fun h=>ak (aq hk4 n) hk4 n _ _ _ _ _ _ _ _ _ _ _ _ _ _ h⟩,fun _=>fun h=>ak (aq hk4 n) hk4 n _ _ _ _ _ _ _ _ _ _ _ _ _ _ h⟩⟩⟩,⟨fun _ _ h=>Eq.trans (by kernel_rfl) h,⟨fun _ _ h=>Eq.trans (by kernel_rfl) h,fun _=>fun h=>ak (aq hk4 n) hk4 n _ _ _ _ _ _ _ _ _ _ _ _ _ _ h,⟨fun _ _ h=>Eq.trans (by kernel_rfl) h,fun _=>fun h=>ak (aq hk4 n) hk4 n _ _ _ _ _ _ _ _ _ _ _ _ _ _ h,fun _=>fun h=>ak (aq hk4 n) hk4 n _ _ _ _ _ _ _ _ _ _ _ _ _ _ h⟩⟩,⟨fun _ _ h=>Eq.trans (by kernel_rfl) h,⟨fun _ _ h=>Eq.trans (by kernel_rfl) h,fun _=>fun h=>ak (aq hk4 n) hk4 n _ _ _ _ _ _ _ _ _ _ _ _ _ _ h,fun _=>fun h=>ak (aq hk4 n) hk4 n _ _ _ _ _ _ _ _ _ _ _ _ _ _ h⟩,fun _=>fun h=>ak (aq hk4 n) hk4 n _ _ _ _ _ _ _ _ _ _ _ _ _ _ h⟩⟩⟩⟩,⟨fun _ _ h=>Eq.trans (by kernel_rfl) h,⟨fun _ _ h=>Eq.trans (by kernel_rfl) h,⟨fun _ _ h=>Eq.trans (by kernel_rfl) h,⟨fun _ _ h=>Eq.trans (by kernel_rfl) h,⟨fun _ _ h=>Eq.trans (by kernel_rfl) h,⟨fun _ _ h=>Eq.trans (by kernel_rfl) h,fun _=>⟨fun _ _ h=>Eq.trans (by kernel_rfl) h,fun h=>ak (aq hk4 n) hk4 n _ _ _ _ _ _ _ _ _ _ _ _ _ _ h,fun h=>ak (aq hk4 n) hk4 n _ _ _ _ _ _ _ _ _ _ _ _ _ _ h⟩,fun _=>fun h=>ak (aq hk4 n) hk4 n _ _ _ _ _ _ _ _ _ _ _ _ _ _ h⟩,fun _=>fun h=>ak (aq hk4 n) hk4 n _ _ _ _ _ _ _ _ _ _ _ _ _ _ h⟩,⟨fun _ _ h=>Eq.trans (by kernel_rfl) h,⟨fun _ _ h=>Eq.trans (by kernel_rfl) h,⟨fun _ _ h=>Eq.trans (by kernel_rfl) h,fun _=>⟨fun _ _ h=>Eq.trans (by kernel_rfl) h,fun h=>ak (aq hk4 n) hk4 n _ _ _ _ _ _ _ _ _ _ _ _ _ _ h,fun h=>ak (aq hk4 n) hk4 n _ _ _ _ _ _ _ _ _ _ _ _ _ _ h⟩,fun _=>fun h=>ak (aq hk4 n) hk4 n _ _ _ _ _ _ _ _ _ _ _ _ _ _ h⟩,fun _=>fun h=>ak (aq hk4 n) hk4 n _ _ _ _ _ _ _ _ _ _ _ _ _ _ h⟩,⟨fun _ _ h=>Eq.trans (by kernel_rfl) h,fun _=>fun h=>ak (aq hk4 n) hk4 n _ _ _ _ _ _ _ _ _ _ _ _ _ _ h,fun _=>fun h=>ak (aq hk4 n) hk4 n _ _ _ _ _ _ _ _ _ _ _ _ _ _ h⟩⟩⟩,⟨fun _ _ h=>Eq.trans (by kernel_rfl) h,⟨fun _ _ h=>Eq.trans (by kernel_rfl) h,⟨fun _ _ h=>Eq.trans (by kernel_rfl) h,⟨fun _ _ h=>Eq.trans (by kernel_rfl) h,fun _=>⟨fun _ _ h=>Eq.trans (by kernel_rfl) h,fun h=>ak (aq hk4 n) hk4 n _ _ _ _ _ _ _ _ _ _ _ _ _ _ h,fun h=>ak (aq hk4 n) hk4 n _ _ _ _ _ _ _ _ _ _ _ _ _ _ h⟩,fun _=>fun h=>ak (aq hk4 n) hk4 n _ _ _ _ _ _ _ _ _ _ _ _ _ _ h⟩,fun _=>fun h=>ak (aq hk4 n) hk4 n _ _ _ _ _ _ _ _ _ _ _ _ _ _ h⟩,fun _=>fun h=>ak (aq hk4 n) hk4 n _ _ _ _ _ _ _ _ _ _ _ _ _ _ h⟩,⟨fun _ _ h=>Eq.trans (by kernel_rfl) h,⟨fun _ _ h=>Eq.trans (by kernel_rfl) h,fun _=>fun h=>ak (aq hk4 n) hk4 n _ _ _ _ _ _ _ _ _ _ _ _ _ _ h,fun _=>fun h=>ak (aq hk4 n) hk4 n _ _ _ _ _ _ _ _ _ _ _ _ _ _ h⟩,fun _=>fun h=>ak (aq hk4 n) hk4 n _ _ _ _ _ _ _ _ _ _ _ _ _ _ h⟩⟩⟩,⟨fun _ _ h=>Eq.trans (by kernel_rfl) h,⟨fun _ _ h=>Eq.trans (by kernel_rfl) h,⟨fun _ _ h=>Eq.trans (by kernel_rfl) h,⟨fun _ _ h=>Eq.trans (by kernel_rfl) h,⟨fun _ _ h=>Eq.trans (by kernel_rfl) h,fun _=>⟨fun _ _ h=>Eq.trans (by kernel_rfl) h,fun h=>ak (aq hk4 n) hk4 n _ _ _ _ _ _ _ _ _ _ _ _ _ _ h,fun h=>ak (aq hk4 n) hk4 n _ _ _ _ _ _ _ _ _ _ _ _ _ _ h⟩,fun _=>fun h=>ak (aq hk4 n) hk4 n _ _ _ _ _ _ _ _ _ _ _ _ _ _ h⟩,fun _=>fun h=>ak (aq hk4 n) hk4 n _ _ _ _ _ _ _ _ _ _ _ _ _ _ h⟩,fun _=>fun h=>ak (aq hk4 n) hk4 n _ _ _ _ _ _ _ _ _ _ _ _ _ _ h⟩,fun _=>fun h=>ak (aq hk4 n) hk4 n _ _ _ _ _ _ _ _ _ _ _ _ _ _ h⟩,⟨fun _ _ h=>Eq.trans (by kernel_rfl) h,⟨fun _ _ h=>Eq.trans (by kernel_rfl) h,⟨fun _ _ h=>Eq.trans (by kernel_rfl) h,fun _=>fun h=>ak (aq hk4 n) hk4 n _ _ _ _ _ _ _ _ _ _ _ _ _ _ h,fun _=>fun h=>ak (aq hk4 n) hk4 n _ _ _ _ _ _ _ _ _ _ _ _ _ _ h⟩,fun _=>fun h=>ak (aq hk4 n) hk4 n _ _ _ _ _ _ _ _ _ _ _ _ _ _ h⟩,fun _=>fun h=>ak (aq hk4 n) hk4 n _ _ _ _ _ _ _ _ _ _ _ _ _ _ h⟩⟩⟩,⟨fun _ _ h=>Eq.trans (by kernel_rfl) h,⟨fun _ _ h=>Eq.trans (by kernel_rfl) h,⟨fun _ _ h=>Eq.trans (by kernel_rfl) h,fun _=>fun h=>ak (aq hk4 n) hk4 n _ _ _ _ _ _ _ _ _ _ _ _ _ _ h,⟨fun _ _ h=>Eq.trans (by kernel_rfl) h,fun _=>fun h=>ak (aq hk4 n) hk4 n _ _ _ _ _ _ _ _ _ _ _ _ _ _ h,fun _=>fun h=>ak (aq hk4 n) hk4 n _ _ _ _ _ _ _ _ _ _ _ _ _ _ h⟩⟩,⟨fun _ _ h=>Eq.trans (by kernel_rfl) h,⟨fun _ _ h=>Eq.trans (by kernel_rfl) h,fun _=>fun h=>ak (aq hk4 n) hk4 n _ _ _ _ _ _ _ _ _ _ _ _ _ _ h,fun _=>fun h=>ak (aq hk4 n) hk4 n _ _ _ _ _ _ _ _ _ _ _ _ _ _ h⟩,fun _=>fun h=>ak (aq hk4 n) hk4 n _ _ _ _ _ _ _ _ _ _ _ _ _ _ h⟩⟩,⟨fun _ _ h=>Eq.trans (by kernel_rfl) h,⟨fun _ _ h=>Eq.trans (by kernel_rfl) h,⟨fun _ _ h=>Eq.trans (by kernel_rfl) h,fun _=>fun h=>ak (aq hk4 n) hk4 n _ _ _ _ _ _ _ _ _ _ _ _ _ _ h,fun _=>fun h=>ak (aq hk4 n) hk4 n _ _ _ _ _ _ _ _ _ _ _ _ _ _ h⟩,fun _=>fun h=>ak (aq hk4 n) hk4 n _ _ _ _ _ _ _ _ _ _ _ _ _ _ h⟩,fun _=>fun h=>ak (aq hk4 n) hk4 n _ _ _ _ _ _ _ _ _ _ _ _ _ _ h⟩⟩⟩⟩,⟨fun _ _ h=>Eq.trans (by kernel_rfl) h,⟨fun _ _ h=>Eq.trans (by kernel_rfl) h,⟨fun _ _ h=>Eq.trans (by kernel_rfl) h,⟨fun _ _ h=>Eq.trans (by kernel_rfl) h,⟨fun _ _ h=>Eq.trans (by kernel_rfl) h,⟨fun _ _ h=>Eq.trans (by kernel_rfl) h,⟨fun _ _ h=>Eq.trans (by kernel_rfl) h,fun _=>⟨fun _ _ h=>Eq.trans (by kernel_rfl) h,fun h=>ak (aq hk4 n) hk4 n _ _ _ _ _ _ _ _ _ _ _ _ _ _ h,fun h=>ak (aq hk4 n) hk4 n _ _ _ _ _ _ _ _ _ _ _ _ _ _ h⟩,fun _=>fun h=>ak (aq hk4 n) hk4 n _ _ _ _ _ _ _ _ _ _ _ _ _ _ h⟩,fun _=>fun h=>ak (aq hk4 n) hk4 n _ _ _ _ _ _ _ _ _ _ _ _ _ _ h⟩,⟨fun _ _ h=>Eq.trans (by kernel_rfl) h,⟨fun _ _ h=>Eq.trans (by kernel_rfl) h,⟨fun _ _ h=>Eq.trans (by kernel_rfl) h,fun _=>⟨fun _ _ h=>Eq.trans (by kernel_rfl) h,fun h=>ak (aq hk4 n) hk4 n _ _ _ _ _ _ _ _ _ _ _ _ _ _ h,fun h=>ak (aq hk4 n) hk4 n _ _ _ _ _ _ _ _ _ _ _ _ _ _ h⟩,fun _=>fun h=>ak (aq hk4 n) hk4 n _ _ _ _ _ _ _ _ _ _ _ _ _ _ h⟩,fun _=>fun h=>ak (aq hk4 n) hk4 n _ _ _ _ _ _ _ _ _ _ _ _ _ _ h⟩,⟨fun _ _ h=>Eq.trans (by kernel_rfl) h,fun _=>fun h=>ak (aq hk4 n) hk4 n _ _ _ _ _ _ _ _ _ _ _ _ _ _ h,fun _=>fun h=>ak (aq hk4 n) hk4 n _ _ _ _ _ _ _ _ _ _ _ _ _ _ h⟩⟩⟩,⟨fun _ _ h=>Eq.trans (by kernel_rfl) h,⟨fun _ _ h=>Eq.trans (by kernel_rfl) h,⟨fun _ _ h=>Eq.trans (by kernel_rfl) h,⟨fun _ _ h=>Eq.trans (by kernel_rfl) h,fun _=>⟨fun _ _ h=>Eq.trans (by kernel_rfl) h,fun h=>ak (aq hk4 n) hk4 n _ _ _ _ _ _ _ _ _ _ _ _ _ _ h,fun h=>ak (aq hk4 n) hk4 n _ _ _ _ _ _ _ _ _ _ _ _ _ _ h⟩,fun _=>fun h=>ak (aq hk4 n) hk4 n _ _ _ _ _ _ _ _ _ _ _ _ _ _ h⟩,fun _=>fun h=>ak (aq hk4 n) hk4 n _ _ _ _ _ _ _ _ _ _ _ _ _ _ h⟩,fun _=>fun h=>ak (aq hk4 n) hk4 n _ _ _ _ _ _ _ _ _ _ _ _ _ _ h⟩,⟨fun _ _ h=>Eq.trans (by kernel_rfl) h,⟨fun _ _ h=>Eq.trans (by kernel_rfl) h,fun _=>fun h=>ak (aq hk4 n) hk4 n _ _ _ _ _ _ _ _ _ _ _ _ _ _ h,fun _=>fun h=>ak (aq hk4 n) hk4 n _ _ _ _ _ _ _ _ _ _ _ _ _ _ h⟩,fun _=>fun h=>ak (aq hk4 n) hk4 n _ _ _ _ _ _ _ _ _ _ _ _ _ _ h⟩⟩⟩,⟨fun _ _ h=>Eq.trans (by kernel_rfl) h,⟨fun _ _ h=>Eq.trans (by kernel_rfl) h,⟨fun _ _ h=>Eq.trans (by kernel_rfl) h,⟨fun _ _ h=>Eq.trans (by kernel_rfl) h,⟨fun _ _ h=>Eq.trans (by kernel_rfl) h,fun _=>⟨fun _ _ h=>Eq.trans (by kernel_rfl) h,fun h=>ak (aq hk4 n) hk4 n _ _ _ _ _ _ _ _ _ _ _ _ _ _ h,fun h=>ak (aq hk4 n) hk4 n _ _ _ _ _ _ _ _ _ _ _ _ _ _ h⟩,fun _=>fun h=>ak (aq hk4 n) hk4 n _ _ _ _ _ _ _ _ _ _ _ _ _ _ h⟩,fun _=>fun h=>ak (aq hk4 n) hk4 n _ _ _ _ _ _ _ _ _ _ _ _ _ _ h⟩,fun _=>fun h=>ak (aq hk4 n) hk4 n _ _ _ _ _ _ _ _ _ _ _ _ _ _ h⟩,fun _=>fun h=>ak (aq hk4 n) hk4 n _ _ _ _ _ _ _ _ _ _ _ _ _ _ h⟩,⟨fun _ _ h=>Eq.trans (by kernel_rfl) h,⟨fun _ _ h=>Eq.trans (by kernel_rfl) h,⟨fun _ _ h=>Eq.trans (by kernel_rfl) h,fun _=>fun h=>ak (aq hk4 n) hk4 n _ _ _ _ _ _ _ _ _ _ _ _ _ _ h,fun _=>fun h=>ak (aq hk4 n) hk4 n _ _ _ _ _ _ _ _ _ _ _ _ _ _ h⟩,fun _=>fun h=>ak (aq hk4 n) hk4 n _ _ _ _ _ _ _ _ _ _ _ _ _ _ h⟩,fun _=>fun h=>ak (aq hk4 n) hk4 n _ _ _ _ _ _ _ _ _ _ _ _ _ _ h⟩⟩⟩,⟨fun _ _ h=>Eq.trans (by kernel_rfl) h,⟨fun _ _ h=>Eq.trans (by kernel_rfl) h,⟨fun _ _ h=>Eq.trans (by kernel_rfl) h,⟨fun _ _ h=>Eq.trans (by kernel_rfl) h,⟨fun _ _ h=>Eq.trans (by kernel_rfl) h,⟨fun _ _ h=>Eq.trans (by kernel_rfl) h,fun _=>⟨fun _ _ h=>Eq.trans (by kernel_rfl) h,fun h=>ak (aq hk4 n) hk4 n _ _ _ _ _ _ _ _ _ _ _ _ _ _ h,fun h=>ak (aq hk4 n) hk4 n _ _ _ _ _ _ _ _ _ _ _ _ _ _ h⟩,fun _=>fun h=>ak (aq hk4 n) hk4 n _ _ _ _ _ _ _ _ _ _ _ _ _ _ h⟩,fun _=>fun h=>ak (aq hk4 n) hk4 n _ _ _ _ _ _ _ _ _ _ _ _ _ _ h⟩,fun _=>fun h=>ak (aq hk4 n) hk4 n _ _ _ _ _ _ _ _ _ _ _ _ _ _ h⟩,fun _=>fun h=>ak (aq hk4 n) hk4 n _ _ _ _ _ _ _ _ _ _ _ _ _ _ h⟩,fun _=>fun h=>ak (aq hk4 n) hk4 n _ _ _ _ _ _ _ _ _ _ _ _ _ _ h⟩,⟨fun _ _ h=>Eq.trans (by kernel_rfl) h,⟨fun _ _ h=>Eq.trans (by kernel_rfl) h,⟨fun _ _ h=>Eq.trans (by kernel_rfl) h,⟨fun _ _ h=>Eq.trans (by kernel_rfl) h,fun _=>fun h=>ak (aq hk4 n) hk4 n _ _ _ _ _ _ _ _ _ _ _ _ _ _ h,fun _=>fun h=>ak (aq hk4 n) hk4 n _ _ _ _ _ _ _ _ _ _ _ _ _ _ h⟩,fun _=>fun h=>ak (aq hk4 n) hk4 n _ _ _ _ _ _ _ _ _ _ _ _ _ _ h⟩,fun _=>fun h=>ak (aq hk4 n) hk4 n _ _ _ _ _ _ _ _ _ _ _ _ _ _ h⟩,fun _=>fun h=>ak (aq hk4 n) hk4 n _ _ _ _ _ _ _ _ _ _ _ _ _ _ h⟩⟩⟩,⟨fun _ _ h=>Eq.trans (by kernel_rfl) h,⟨fun _ _ h=>Eq.trans (by kernel_rfl) h,⟨fun _ _ h=>Eq.trans (by kernel_rfl) h,⟨fun _ _ h=>Eq.trans (by kernel_rfl) h,fun _=>fun h=>ak (aq hk4 n) hk4 n _ _ _ _ _ _ _ _ _ _ _ _ _ _ h,⟨fun _ _ h=>Eq.trans (by kernel_rfl) h,fun _=>fun h=>ak (aq hk4 n) hk4 n _ _ _ _ _ _ _ _ _ _ _ _ _ _ h,fun _=>fun h=>ak (aq hk4 n) hk4 n _ _ _ _ _ _ _ _ _ _ _ _ _ _ h⟩⟩,⟨fun _ _ h=>Eq.trans (by kernel_rfl) h,⟨fun _ _ h=>Eq.trans (by kernel_rfl) h,fun _=>fun h=>ak (aq hk4 n) hk4 n _ _ _ _ _ _ _ _ _ _ _ _ _ _ h,fun _=>fun h=>ak (aq hk4 n) hk4 n _ _ _ _ _ _ _ _ _ _ _ _ _ _ h⟩,fun _=>fun h=>ak (aq hk4 n) hk4 n _ _ _ _ _ _ _ _ _ _ _ _ _ _ h⟩⟩,⟨fun _ _ h=>Eq.trans (by kernel_rfl) h,⟨fun _ _ h=>Eq.trans (by kernel_rfl) h,⟨fun _ _ h=>Eq.trans (by kernel_rfl) h,fun _=>fun h=>ak (aq hk4 n) hk4 n _ _ _ _ _ _ _ _ _ _ _ _ _ _ h,fun _=>fun h=>ak (aq hk4 n) hk4 n _ _ _ _ _ _ _ _ _ _ _ _ _ _ h⟩,fun _=>fun h=>ak (aq hk4 n) hk4 n _ _ _ _ _ _ _ _ _ _ _ _ _ _ h⟩,fun _=>fun h=>ak (aq hk4 n) hk4 n _ _ _ _ _ _ _ _ _ _ _ _ _ _ h⟩⟩,⟨fun _ _ h=>Eq.trans (by kernel_rfl) h,⟨fun _ _ h=>Eq.trans (by kernel_rfl) h,⟨fun _ _ h=>Eq.trans (by kernel_rfl) h,⟨fun _ _ h=>Eq.trans (by kernel_rfl) h,fun _=>fun h=>ak (aq hk4 n) hk4 n _ _ _ _ _ _ _ _ _ _ _ _ _ _ h,fun _=>fun h=>ak (aq hk4 n) hk4 n _ _ _ _ _ _ _ _ _ _ _ _ _ _ h⟩,fun _=>fun h=>ak (aq hk4 n) hk4 n _ _ _ _ _ _ _ _ _ _ _ _ _ _ h⟩,fun _=>fun h=>ak (aq hk4 n) hk4 n _ _ _ _ _ _ _ _ _ _ _ _ _ _ h⟩,fun _=>fun h=>ak (aq hk4 n) hk4 n _ _ _ _ _ _ _ _ _ _ _ _ _ _ h⟩⟩⟩⟩,fun h=>hk4 _ _ _ _ _ _ h⟩)
theorem wM{N:Nat}{r:PR az}:∀ (n:Nat) (x1:List UInt8) (x77_n:Nat) (x78:Int) (x79:Int) (NX:VMask) (N3:List Vthread),cr N n x1 x77_n x78 x79 NX N3=some r→gV N r (w4 (ai 0 Try.f22)) (xk x1 x77_n x78 x79 NX N3)
 |0,_,_,_,_,_,_,h=>by cases h
 |n+1,x1,x77_n,x78,x79,NX,N3,h=>aX (m:=4000) (t:=
  .cond (decide (x79 < x78))
  (
   .bnd (dP x77_n x79) fun z126=>
   .bnd (N3[z126]?) fun z127=>
   .bnd (ap NX.steps z127.at_) fun z128=>
   .cond (z128.kind==4)
   (
    .bnd (dy N x1 z127.slots NX) fun z129=>
    sR (.ok (true,z129.1,z129.2)))
   (
    xp (ai 0 Try.f22) (cr N n) x1 x77_n x78 (w64 (x79+1)) NX N3))
  (
   sR (.ok (false,([] :List (List UInt8)),NX)))) (by kernel_rfl) (by kernel_rfl) h (⟨fun _=>fun _=>fun _=>⟨fun _=>bm (enc:=ly) rfl,fun h=>(wM n) _ _ _ _ _ _ h⟩,bm (enc:=ly) rfl⟩)
theorem Br{N:Nat}{r:PR az}:∀ (n:Nat) (x1:List UInt8) (x7_n:Nat) (x30:Int) (x31:Int) (NX:VMask) (N3:List Vthread),cj N n x1 x7_n x30 x31 NX N3=some r→gV N r (mm (ai 0 Try.f22)) (mS x1 x7_n x30 x31 NX N3)
 |0,_,_,_,_,_,_,h=>by cases h
 |n+1,x1,x7_n,x30,x31,NX,N3,h=>aX (m:=4000) (t:=
  .cond (decide (x31 < x30))
  (
   AA (ai 0 Try.f22) (ab N (cj N n) n) x1 x31 0 x30 x31 x7_n (x7_n:Int) 0 ([] :List (Int × Bool)) NX N3 ([] :List Vthread))
  (
   xp (ai 0 Try.f22) (cr N n) x1 x7_n (x7_n:Int) 0 NX N3)) (by kernel_rfl) (by kernel_rfl) h (⟨fun h=>aq (Br n) n _ _ _ _ _ _ _ _ _ _ _ _ h,fun h=>wM n _ _ _ _ _ _ h⟩)
theorem EM{N:Nat}{r:PR az}(x1:List UInt8)(y0:VMask)(h:dG N x1 y0=some r):gV N r (FR (ai 0 Try.f22)) (EV x1 y0):=
 aX (m:=4000) (t:=
 .bnd (gK N ([(-1)] :List Int) (w64 ((w64 (2 * y0.Groups))+2))) fun z1=>
 .bnd (dE N ({ at_:=0,slots:=z1 }:Vthread) 0 y0 ([] :List (Int × Bool))) fun z2=>
 .sm z2 (fun z3=>
  A7 (ai 0 Try.f22) (cj N N) x1 z3.1 (x1.length:Int) 0 z3.2.1 z3.2.2.2) (fun vz2=>
  sR (.pan vz2))) (by kernel_rfl) (by kernel_rfl) h (fun _=>fun _=>⟨fun _=>fun h=>Br N _ _ _ _ _ _ h,fun _=>bm (enc:=ly) rfl⟩)
def Jb(x1:List UInt8)(y0:VMask):List (TV EE.T):=[.a (.box 100000 0),.a (.d .str x1)]
def sI(x1:List UInt8)(y0:VMask):List (Nat × TB EE.T):=[(100000,.cs (eD EE (.nam 8) y0))]
theorem oA{N:Nat}(x1:List UInt8)(y0:VMask){r:PR az}(h:dG N x1 y0=some r)(ρ:Rn)(hi:Inj ρ (sI x1 y0)):aW Try.prog 22 ((Jb x1 y0).map (TV.to EE.toEnc ρ)) (hTo EE.toEnc ρ (sI x1 y0)) (fun out H=>match r with|.ok z=>out=.ret ((jw z).to EE.toEnc ρ)∧H=hTo EE.toEnc ρ (Dh 100000 z)|.pan v=>out=.pan v):=
 (fd (ai 0 Try.f22) 99 mixed (IN N) Try.func22 (by kernel_rfl) rfl rfl rfl rfl (EM x1 y0 h) ρ hi).mono fun out H h=>by cases r with|ok z=>exact dw.retH rfl rfl h|pan v=>exact dw.pan h
def n4:Value→Option (Int × Int)
 |.iface t (.agg ⟨[.int .i64 e,.int .i64 a]⟩)=>if t=28 then some (e,a) else none
 |_=>none
theorem xy{v:Value}{p:Int × Int}(h:n4 v=some p):v=faultV p.1 p.2:=by
 unfold n4 at h
 split at h
 ·split at h
  ·rename_i e
   cases h
   rw[e];rfl
  ·cases h
 ·cases h
def oS(N:Nat)(m:List UInt8):Option (Except (Int × Int) VMask):=
 if 60 < m.length then some (.error (2,0)) else
 match wq N m with
 |none=>none
 |some (.pan v)=>(n4 v).map .error
 |some (.ok (_,_,at_,gr,k,l))=>if at_ < (m.length:Int) then some (.error (1,at_)) else(kA 32 k l [doneS]).map fun l'=>.ok ⟨gr,l'⟩
theorem Ec{N:Nat}{m:List UInt8}{p:Int × Int}(h:oS N m=some (.error p))(w:World):Calls Try.prog 21 #[.string (mkB m)] w fun x w'=>x=.returned (.tuple #[.pointer none,.agg #[.int .i64 p.1,.int .i64 p.2]])∧Below w.heap.size w w':=by
 unfold oS at h
 split at h
 ·rename_i hm
  cases h
  exact xI m hm w
 ·rename_i hm
  split at h
  ·cases h
  ·rename_i v hc
   obtain⟨q,hq,e⟩:=Option.map_eq_some_iff.1 h
   cases e
   have:=xy hq
   subst this
   exact yF m (by omega) _ _ hc w
  ·rename_i hc
   split at h
   ·rename_i hat
    cases h
    exact xq m (by omega) hc hat w
   ·obtain⟨q,hq,e⟩:=Option.map_eq_some_iff.1 h
    cases e
theorem zW{N:Nat}{m:List UInt8}{mk:VMask}(h:oS N m=some (.ok mk))(w:World):Calls Try.prog 21 #[.string (mkB m)] w fun x w'=>∃ (X':GW) (km:Nat),x=.returned (.tuple #[.pointer (some ⟨km,0,none⟩),.agg #[.int .i64 0,.int .i64 0]])∧X'.w=w'∧Ext (fun b=>b < w.heap.size) ⟨w,fun _=>none⟩ X'∧SimE (fun b=>b < w.heap.size) X' ⟨1,[],[(km,cells EE.toEnc (.nam 8) mk)],[]⟩ #[undef] :=by
 unfold oS at h
 split at h
 ·cases h
 ·rename_i hm
  split at h
  ·cases h
  ·obtain⟨q,hq,e⟩:=Option.map_eq_some_iff.1 h
   cases e
  ·rename_i hc
   split at h
   ·cases h
   ·rename_i hat
    obtain⟨l',hv,e⟩:=Option.map_eq_some_iff.1 h
    cases e
    refine Cb m (by omega) hc hat hv ?_ w
    unfold kA at hv
    split at hv
    ·cases hv
     simp
    ·cases hv
set_option maxRecDepth 100000 in
set_option maxHeartbeats 4000000 in
theorem Ev{N:Nat}{m:List UInt8}{p:Int × Int}(h:oS N m=some (.error p))(hp:p.1≠0)(text:List UInt8)(w:World):Calls Try.prog 9 #[.string (mkB m),.string (mkB text)] w fun x w'=>x=.returned (.tuple #[.bool false,.slice none 0 0,.int .i64 p.1])∧Below w.heap.size w w':=by
 have hc:=Ec h w
 obtain⟨e,a⟩:=p
 dsimp only at hp hc ⊢
 have hne:(e==0)=false:=by simpa using hp
 go_enter Try.func9,Try.ntmps9
 go_wp2_with (go_at_call 21;refine hc.mono ?_)
 rintro x W1 ⟨rfl,b1⟩
 go_wp2
 go_region
 go_wp2
 simp[bodyPost,Leaves,settle,results,Try.results9,go_sem]
 exact b1.trans (((Below.refl _ W1).alloc (Nat.le_refl _) _).drew.mono b1.size)
set_option maxRecDepth 100000 in
set_option maxHeartbeats 4000000 in
theorem Cd{N:Nat}{m:List UInt8}{mk:VMask}(h:oS N m=some (.ok mk))(text:List UInt8)(ht:2000 < text.length)(w:World):Calls Try.prog 9 #[.string (mkB m),.string (mkB text)] w fun x w'=>x=.returned (.tuple #[.bool false,.slice none 0 0,.int .i64 2])∧Below w.heap.size w w':=by
 have hc:=zW h w
 have hsize:= @jJ
 go_enter Try.func9,Try.ntmps9
 go_wp2_with (go_at_call 21;refine hc.mono ?_)
 rintro x w' ⟨X1,km,hx,hw,hx1,hs⟩
 subst hw hx
 have hz:=fY (B:=w.heap.size) hx1 fun b hb=>hb
 go_wp2
 simp[bodyPost,Leaves,settle,results,Try.results9,go_sem]
 exact hz.trans (((Below.refl _ X1.w).alloc (Nat.le_refl _) _).mono hz.size)
theorem DK{X:GW}(o:Obj):New X ⟨X.w.alloc o,X.g⟩:=by
 have h:=(Below.refl X.w.heap.size X.w).alloc (Nat.le_refl _) o
 exact⟨h.os,h.tape,h.output,h.size,fun b hb=>⟨h.block b hb,rfl⟩⟩
theorem Nt{N:Nat}{text:List UInt8}{mk:VMask}{b:Bool}{ls:List (List UInt8)}{mk2:VMask}(h:dG N text mk=some (.ok (b,ls,mk2))){F:Nat→Prop}{X:GW}{n:Nat}{t:List (Nat × AV)}{tm:Array Value}{km:Nat}(hs:SimE F X ⟨n,t,[(km,cells EE.toEnc (.nam 8) mk)],[]⟩ tm):
  Calls Try.prog 22 #[.pointer (some ⟨km,0,none⟩),.string (mkB text)] X.w fun x w'=>∃ (X':GW) (lv:Value),x=.returned (.tuple #[.bool b,lv])∧X'.w=w'∧Ext F X X'∧Rel X' (.sl false 1 (ls.map uB)) lv∧(∀q n,X'.g q=some n→q < X'.w.heap.size):=by
 have hi:Inj (⟨fun _=>⟨km,false,[]⟩⟩:Rn) (sI text mk):=by
  intro p hp q hq
  simp only[sI,List.mem_singleton] at hp hq
  subst hp hq
  exact⟨fun _ _ _=>rfl,fun _=>rfl⟩
 have hc:=oA text mk h ⟨fun _=>⟨km,false,[]⟩⟩ hi
 refine(hc.2 F X #[.pointer (some ⟨km,0,none⟩),.string (mkB text)] (hs.args rfl fun i u hu=> ?_)).mono ?_
 ·match i,hu with
  |0,hu=>cases hu;exact⟨.v _,rfl⟩
  |1,hu=>cases hu;exact⟨.v _,rfl⟩
  |n+2,hu=>cases hu
 ·rintro x w' ⟨X',out,H',rfl,⟨rfl,rfl⟩,⟨v,rfl,hs'⟩,hx⟩
  have h1:Rel X' (.tu [.v (.bool b),.sl false 1 (ls.map uB)]) (#[v].getD 0 undef):=hs'.slot 0 _ cm
  have hr:Rel X' (.tu [.v (.bool b),.sl false 1 (ls.map uB)]) v:=by simpa using h1
  clear h1
  cases hr with
  |tu _ xs hl hr=>
   obtain⟨a0,a1,rfl⟩:=yI (by simpa using hl.symm:xs.size=2)
   have e0:=bY (hr 0 _ _ rfl rfl)
   subst e0
   exact⟨X',a1,rfl,rfl,hx,hr 1 _ _ rfl rfl,hs'.gb⟩
set_option maxRecDepth 100000 in
set_option maxHeartbeats 4000000 in
theorem HU{N:Nat}{m:List UInt8}{mk:VMask}(h:oS N m=some (.ok mk))(text:List UInt8)(ht:text.length≤2000){b:Bool}{ls:List (List UInt8)}{mk2:VMask}(hf:dG N text mk=some (.ok (b,ls,mk2)))(w:World):Calls Try.prog 9 #[.string (mkB m),.string (mkB text)] w fun x w'=>∃ (X':GW) (lv:Value),x=.returned (.tuple #[.bool b,lv,.int .i64 0])∧X'.w=w'∧Ext (fun b=>b < w.heap.size) ⟨w,fun _=>none⟩ X'∧Rel X' (.sl false 1 (ls.map uB)) lv∧(∀q n,X'.g q=some n→q < X'.w.heap.size):=by
 have hc:=zW h w
 have hsize:= @jJ
 go_enter Try.func9,Try.ntmps9
 go_wp2_with (go_at_call 21;refine hc.mono ?_)
 rintro x w' ⟨X1,km,hx,hw,hx1,hs⟩
 subst hw hx
 have hn:=DK (X:=X1) (.cells #[.int .i64 0,.int .i64 0] 28)
 have hg2:∀q n,X1.g q=some n→q < (X1.w.alloc (.cells #[.int .i64 0,.int .i64 0] 28)).heap.size:=fun q n hq=>Nat.lt_of_lt_of_le (hs.gb q n hq) hn.size
 have hfw:=Nt hf (hs.new hn hg2)
 have hx2:=hx1.trans (hn.ext hs.gb hs.fb)
 go_wp2_with (go_at_call 22;refine hfw.mono ?_)
 rintro x w' ⟨X2,lv,hx,hw,hx3,hr,hgb⟩
 subst hw hx
 go_wp2
 simp[bodyPost,Leaves,settle,results,Try.results9,go_sem]
 exact⟨X2,rfl,hx2.trans hx3,hr,hgb⟩
def cL(N:Nat)(m text:List UInt8):Option (Bool × List (List UInt8) × Int):=match oS N m with
 |none=>none
 |some (.error p)=>if p.1=0 then none else some (false,[],p.1)
 |some (.ok mk)=>if 2000 < text.length then some (false,[],2) else match dG N text mk with
  |some (.ok (b,ls,_))=>some (b,ls,0)
  |_=>none
def yg(r:Bool × List (List UInt8) × Int):TV EE.T:=.tu [.a (.d .bool r.1),.a (.d (.sl .str) r.2.1),.a (.d (.int .i64) r.2.2)]
theorem y6{X:GW}{b:Bool}{u:AV}{v:Value}{n:Int}(h:Rel X u v):Rel X (.tu [.v (.bool b),u,.v (.int .i64 n)]) (.tuple #[.bool b,v,.int .i64 n]):=by
 refine .tu _ _ rfl ?_
 intro i u x hu hx
 match i,hu,hx with
 |0,hu,hx=>simp at hu hx;subst hu hx;exact .v _
 |1,hu,hx=>simp at hu hx;subst hu hx;exact h
 |2,hu,hx=>simp at hu hx;subst hu hx;exact .v _
theorem Kh{N:Nat}(m text:List UInt8){r:Bool × List (List UInt8) × Int}(h:cL N m text=some r):aW Try.prog 9 [.v (.string (mkB m)),.v (.string (mkB text))] [] (fun out H=>out=.ret (.tu [.v (.bool r.1),.sl false 1 (r.2.1.map uB),.v (.int .i64 r.2.2)])∧H=[]):=by
 refine ug ⟨_,Try.func9,by kernel_rfl,rfl⟩ rfl fun X vs hX hv hr=> ?_
 have e0:=bY (hr 0 _ rfl)
 have e1:=bY (hr 1 _ rfl)
 rw[zP hv,e0,e1]
 have hnil:∀ {n:Int} {w':World} {X:GW},Below X.w.heap.size X.w w'→(∀b n,X.g b=some n→b < X.w.heap.size)→∃X' r,X'.w=w'∧Ending.returned (.tuple #[.bool false,.slice none 0 0,.int .i64 n])=.returned r∧Rel X' (.tu [.v (.bool false),.sl false 1 (([] :List (List UInt8)).map uB),.v (.int .i64 n)]) r∧Below X.w.heap.size X.w w'∧(∀b n,X'.g b=some n→b < w'.heap.size)∧∀b,b < X.w.heap.size→X'.g b=X.g b:=fun {n w' X} hb hX=>⟨⟨w',X.g⟩,_,rfl,rfl,y6 (.nil false 1),hb,fun b n hq=>Nat.lt_of_lt_of_le (hX b n hq) hb.size,fun b _=>rfl⟩
 unfold cL at h
 split at h
 ·cases h
 ·rename_i p hc
  split at h
  ·cases h
  ·rename_i hp
   cases h
   refine(Ev hc hp text X.w).mono ?_
   rintro e w' ⟨rfl,hb⟩
   exact hnil hb hX
 ·rename_i mk hc
  split at h
  ·rename_i ht
   cases h
   refine(Cd hc text ht X.w).mono ?_
   rintro e w' ⟨rfl,hb⟩
   exact hnil hb hX
  ·rename_i ht
   split at h
   ·rename_i b ls mk2 hf
    cases h
    refine(HU hc text (by omega) hf X.w).mono ?_
    rintro e w' ⟨X',lv,rfl,rfl,hx,hrl,hgb⟩
    have hb:=fY (B:=X.w.heap.size) hx fun b hb=>hb
    refine⟨⟨X'.w,fun q=>match X.g q with|some n=>some n|none=>X'.g q⟩,_,rfl,rfl,y6 (hrl.mono fun q n hq=>⟨n,Nat.le_refl _,?_,fun j _=>rfl⟩),hb,fun q n hq=> ?_,fun q hq=> ?_⟩
    ·show(match X.g q with|some n=>some n|none=>X'.g q)=some n
     cases hg:X.g q with
     |none=>exact hq
     |some k=>
      have h1:=(hx.frame q (hX q k hg)).2
      rw[hq] at h1
      cases h1
    ·have hq':(match X.g q with|some n=>some n|none=>X'.g q)=some n:=hq
     cases hg:X.g q with
     |none=>rw[hg] at hq';exact hgb q n hq'
     |some k=>exact Nat.lt_of_lt_of_le (hX q k hg) hb.size
    ·show(match X.g q with|some n=>some n|none=>X'.g q)=X.g q
     cases hg:X.g q with
     |none=>exact(hx.frame q hq).2
     |some k=>rfl
   ·cases h
def ji(N:Nat):List (TV EE.T)→PV EE.T
 | [u0,u1] =>match mj .str u0,mj .str u1 with
   |some x0,some x1=>.opt (cL N x0 x1) yg
   |_,_=>.bad
 |_=>.bad
theorem nk(N:Nat)(us:List (TV EE.T)):(ji N us).ok fun u=>∀ρ,aW Try.prog 9 (us.map (TV.to EE.toEnc ρ)) [] (fun out H=>out=.ret (u.to EE.toEnc ρ)∧H=[]):=by
 unfold ji
 split
 ·split
  ·rename_i u0 u1 x0 x1 h0 h1
   intro z hz ρ
   refine gM (us':=([.a (.d .str x0),.a (.d .str x1)] :List (TV EE.T))) ⟨eL h0 ρ,eL h1 ρ,trivial⟩ ?_
   exact Kh x0 x1 hz
  ·trivial
 ·trivial
set_option maxRecDepth 1000000
theorem ixn{α:Type}(l:List α)(i:Nat):ap l (i:Int)=l[i]? :=by
 unfold ap
 rw[if_pos (by omega),Int.toNat_natCast]
theorem pR{z:Int}(h1: -9223372036854775808≤z)(h2:z≤9223372036854775807):w64 z=z:=by
 unfold w64;rw[IntKind.wrap_i64];omega
theorem jD{i:Nat}(h:i≤10000000):w64 ((i:Int)+1)=((i+1:Nat):Int):=by rw[pR (by omega) (by omega)];omega
def flt(q:Int × Int):Value:=faultV q.1 q.2
def bL(m:List UInt8)(c:UInt8)(i:Nat):Bool:=match m[i]? with
 |some b=>b2i b==b2i c
 |none=>false
def hQ(b:Bool)(i:Nat):Nat:=bif b then i+1 else i
theorem p8(N:Nat){m:List UInt8}{i:Nat}{b:UInt8}(h:m[i]? =some b)(g:Int)(n:Nat)(l:List Vstep):aP N m i g n l=some (.ok (b,true,m,(i:Int),g,n,l)):=by
 have hl:=(List.getElem?_eq_some_iff.1 h).1
 unfold aP
 rw[decide_eq_true (by omega),cond_true,ixn,h,Option.bind_some]
theorem my(N:Nat){m:List UInt8}{i:Nat}(h:m[i]? =none)(g:Int)(n:Nat)(l:List Vstep):aP N m i g n l=some (.ok (0,false,m,(i:Int),g,n,l)):=by
 have hl:=List.getElem?_eq_none_iff.1 h
 unfold aP
 rw[decide_eq_false (by omega),cond_false]
theorem rO(N:Nat)(c:UInt8)(m:List UInt8){i:Nat}(hi:i≤1000000)(g:Int)(n:Nat)(l:List Vstep):bc N c m i g n l=some (.ok (bL m c i,m,((hQ (bL m c i) i:Nat):Int),g,n,l)):=by
 unfold bc bL
 cases h:m[i]? with
 |none=>rw[my N h,Option.bind_some];rfl
 |some b=>
  rw[p8 N h,Option.bind_some]
  dsimp only
  cases hb:(b2i b==b2i c) with
  |true=>rw[cond_true,cond_true,jD (by omega)];rfl
  |false=>rw[cond_true,cond_false];rfl
theorem iF(N:Nat)(x:Vstep)(m:List UInt8)(at_ g:Int)(l:List Vstep)(h:l.length≤1000000):aA N x m at_ g l.length l=some (.ok ((l.length:Int),m,at_,g,(l++ [x]).length,l++ [x])):=by
 unfold aA
 have hv:kA 32 l.length l [x] =some (l++ [x]):=by
  unfold kA
  rw[if_pos ⟨rfl,by simp,by simp;omega⟩]
 rw[hv,Option.bind_some]
 have:w64 (((l++ [x]).length:Int) - 1)=(l.length:Int):=by
  rw[pR (by simp only[List.length_append,List.length_singleton];omega) (by simp only[List.length_append,List.length_singleton];omega)];simp
 rw[this]
theorem Bq(N:Nat)(s:List UInt8)(b:UInt8):∃z,cq N s b=some z∧decide (z≥0)=s.contains b:=by
 refine⟨Lib.indexByte s b,rfl,?_⟩
 induction s with
 |nil=>rfl
 |cons c r ih=>
  have hg:=Lib.indexByte_ge r b
  rw[Lib.indexByte,List.contains_cons]
  cases hc:(c==b) with
  |true=>
   have:(b==c)=true:=by rw[beq_iff_eq] at hc ⊢;exact hc.symm
   rw[this];rfl
  |false=>
   have:(b==c)=false:=by rw[beq_eq_false_iff_ne] at hc ⊢;exact fun e=>hc e.symm
   rw[this,Bool.false_or,← ih]
   cases hi:(Lib.indexByte r b== -1) with
   |true=>
    have:Lib.indexByte r b= -1:=beq_iff_eq.1 hi
    simp[this]
   |false=>
    have:Lib.indexByte r b≠ -1:=beq_eq_false_iff_ne.1 hi
    simp
    omega
def eB(m:List UInt8)(i:Nat):Except (Int × Int) (UInt8 × Nat):=match m[i]? with
 |none=>.error (1,(i:Int))
 |some b=>bif ([91,93,92,94,45] :List UInt8).contains b then .error (1,(i:Int)) else .ok (b,i+1)
theorem Bt(N:Nat)(m:List UInt8){i:Nat}(hi:i≤1000000)(g:Int)(n:Nat)(l:List Vstep):bB N m i g n l=match eB m i with
  |.error q=>some (.pan (flt q))
  |.ok (b,j)=>some (.ok (b,m,(j:Int),g,n,l)):=by
 unfold bB eB
 cases h:m[i]? with
 |none=>rw[my N h,Option.bind_some];rfl
 |some b=>
  rw[p8 N h,Option.bind_some]
  dsimp only
  obtain⟨z,h1,h2⟩:=Bq N [91,93,92,94,45] b
  rw[Bool.not_true,cond_false,h1,Option.bind_some,h2]
  cases ([91,93,92,94,45] :List UInt8).contains b with
  |true=>rfl
  |false=>rw[cond_false,cond_false,jD (by omega)]
theorem fX{m:List UInt8}{i:Nat}{b:UInt8}{j:Nat}(h:eB m i=.ok (b,j)):j=i+1∧i < m.length:=by
 unfold eB at h
 split at h
 ·cases h
 ·rename_i c hc
  have:=(List.getElem?_eq_some_iff.1 hc).1
  cases hb:([91,93,92,94,45] :List UInt8).contains c with
  |true=>rw[hb,cond_true] at h;cases h
  |false=>rw[hb,cond_false] at h;cases h;exact⟨rfl,this⟩
theorem dl{m:List UInt8}{c:UInt8}{i:Nat}(h:bL m c i=true):i < m.length:=by
 unfold bL at h
 split at h
 ·rename_i b hb
  exact(List.getElem?_eq_some_iff.1 hb).1
 ·cases h
def mz(S:List Bool)(a:Nat):Nat→List Bool
 |0=>S
 |c+1=>mz (S.set a true) (a+1) c
theorem ju:∀ (c a:Nat) (S:List Bool),(mz S a c).length=S.length
 |0,a,S=>rfl
 |c+1,a,S=>by rw[mz,ju c];simp
theorem oN(c:UInt8):b2i c=(c.toNat:Int):=rfl
theorem B0(N:Nat){k4:Bool→Bool→(List Bool)→(List UInt8)→Int→Int→Nat→(List Vstep)→Option (PR ax)}(x3:Bool)(x7:UInt8)(m:List UInt8)(at_ g:Int)(n0:Nat)(l:List Vstep):∀ (c n x:Nat) (S:List Bool),S.length=256→x+c=x7.toNat+1→c+1≤n→bq N k4 n x3 x7 (x:Int) S m at_ g n0 l=k4 x3 false (mz S x c) m at_ g n0 l
 |c,0,x,S,h1,h2,h3=>by omega
 |0,n+1,x,S,h1,h2,h3=>by
  have hb:=x7.toNat_lt
  rw[bq,oN,pR (by omega) (by omega),decide_eq_false (by omega),cond_false]
  rfl
 |c+1,n+1,x,S,h1,h2,h3=>by
  have hb:=x7.toNat_lt
  have e1:dP 256 (x:Int)=some x:=by
   unfold dP
   rw[if_pos (by omega)];simp
  have e2:mw S (0+x) true=some (S.set x true):=by
   unfold mw
   rw[Nat.zero_add,if_pos (by omega)]
  rw[bq,oN,pR (by omega) (by omega),decide_eq_true (by omega),cond_true,e1,Option.bind_some,e2,Option.bind_some,jD (by omega),B0 N x3 x7 m at_ g n0 l c n (x+1) _ (by simpa using h1) (by omega) (by omega)]
  rfl
def lx(m:List UInt8):Nat→Bool→Nat→List Bool→Except (Int × Int) (List Bool × Nat)
 |0,_,i,_=>.error (0,(i:Int))
 |f+1,first,i,S=>bif !first && bL m 93 i then .ok (S,i+1) else
  match eB m i with
  |.error q=>.error q
  |.ok (a,i1)=>bif bL m 45 i1 then
    match eB m (i1+1) with
    |.error q=>.error q
    |.ok (b,i3)=>bif decide ((b2i b) < (b2i a)) then .error (3,((i1+1:Nat):Int)) else lx m f false i3 (mz S a.toNat (b.toNat+1 - a.toNat))
   else lx m f false i1 (mz S a.toNat 1)
theorem FE(N:Nat)(x3:Bool)(m:List UInt8)(at_ g:Int)(n0:Nat)(l:List Vstep)(S0:List Bool)(h0:S0.length=256):∀ (c n i:Nat) (S:List Bool),i+c=256→c+1≤n→S=(S0.take i).map (fun v=> !(v==x3))++S0.drop i→bA N n x3 (i:Int) S m at_ g n0 l=some (.ok (some (S0.map fun v=> !(v==x3)),m,at_,g,n0,l))
 |c,0,i,S,h1,h2,h3=>by omega
 |0,n+1,i,S,h1,h2,h3=>by
  have hi:i=256:=by omega
  subst hi
  have hS:S=S0.map fun v=> !(v==x3):=by
   rw[h3,List.take_of_length_le (by omega),List.drop_eq_nil_of_le (by omega),List.append_nil]
  rw[bA,decide_eq_false (by omega),cond_false]
  unfold j8
  rw[hS,if_pos (by simp[h0]),Option.bind_some]
 |c+1,n+1,i,S,h1,h2,h3=>by
  have hi:i < S0.length:=by omega
  have hl:S.length=256:=by rw[h3];simp;omega
  have e1:dP 256 (i:Int)=some i:=by
   unfold dP
   rw[if_pos (by omega)];simp
  have e2:S[0+i]? =some S0[i] :=by
   have e0:((S0.take i).map fun v=> !(v==x3)).length=i:=by rw[List.length_map,List.length_take];omega
   rw[h3,Nat.zero_add,List.getElem?_append_right (by omega),e0,Nat.sub_self,List.getElem?_drop,Nat.add_zero,List.getElem?_eq_getElem hi]
  have e3:mw S (0+i) (!(S0[i] ==x3))=some (S.set i (!(S0[i] ==x3))):=by
   unfold mw
   rw[Nat.zero_add,if_pos (by omega)]
  rw[bA,decide_eq_true (by omega),cond_true,e1,Option.bind_some,e2,Option.bind_some,Option.bind_some,e3,Option.bind_some,jD (by omega)]
  refine FE N x3 m at_ g n0 l S0 h0 c n (i+1) _ (by omega) (by omega) ?_
  have e0:((S0.take i).map fun v=> !(v==x3)).length=i:=by rw[List.length_map,List.length_take];omega
  rw[h3,List.set_append_right _ _ (by omega),e0,Nat.sub_self,List.drop_eq_getElem_cons hi,List.set_cons_zero,List.take_add_one,List.getElem?_eq_getElem hi]
  show _=((S0.take i++ [S0[i]]).map _)++_
  rw[List.map_append,List.append_assoc]
  rfl
theorem tE{m:List UInt8}:∀ (f:Nat) (first:Bool) (i:Nat) (S:List Bool) {T:List Bool} {j:Nat},lx m f first i S=.ok (T,j)→S.length=256→i≤m.length→T.length=256∧i < j∧j≤m.length
 |0,first,i,S,T,j,h,hS,hi=>by cases h
 |f+1,first,i,S,T,j,h,hS,hi=>by
  rw[lx] at h
  cases hb:(!first && bL m 93 i) with
  |true=>
   rw[hb,cond_true] at h
   cases h
   have:=dl (Bool.and_eq_true_iff.1 hb).2
   exact⟨hS,by omega,by omega⟩
  |false=>
   rw[hb,cond_false] at h
   split at h
   ·cases h
   ·rename_i a i1 hp
    obtain⟨e1,e2⟩:=fX hp
    cases hd:bL m 45 i1 with
    |false=>
     rw[hd,cond_false] at h
     have:=tE f false i1 _ h (by rw[ju];exact hS) (by omega)
     omega
    |true=>
     rw[hd,cond_true] at h
     split at h
     ·cases h
     ·rename_i b i3 hp2
      obtain⟨e3,e4⟩:=fX hp2
      cases hl:decide ((b2i b) < (b2i a)) with
      |true=>rw[hl,cond_true] at h;cases h
      |false=>
       rw[hl,cond_false] at h
       have:=tE f false i3 _ h (by rw[ju];exact hS) (by omega)
       omega
theorem ya{m:List UInt8}(hm:m.length≤60)(x3:Bool)(g:Int)(n0:Nat)(l:List Vstep):∀ (f n:Nat) (first:Bool) (i:Nat) (S:List Bool),i≤m.length→m.length+1≤f+i→f+400≤n→S.length=256→bn 3000 n x3 first S m i g n0 l=match lx m f first i S with
  |.error q=>some (.pan (flt q))
  |.ok (T,j)=>some (.ok (some (T.map fun v=> !(v==x3)),m,(j:Int),g,n0,l))
 |0,n,first,i,S,h1,h2,h3,h4=>by omega
 |f+1,n,first,i,S,h1,h2,h3,h4=>by
  obtain⟨n,rfl⟩:∃k,n=k+1:=⟨n - 1,by omega⟩
  have hR:co 3000 (bn 3000 n) n x3 S m (i:Int) g n0 l=match(match eB m i with
    |.error q=>.error q
    |.ok (a,i1)=>bif bL m 45 i1 then
      match eB m (i1+1) with
      |.error q=>.error q
      |.ok (b,i3)=>bif decide ((b2i b) < (b2i a)) then .error (3,((i1+1:Nat):Int)) else lx m f false i3 (mz S a.toNat (b.toNat+1 - a.toNat))
     else lx m f false i1 (mz S a.toNat 1):Except (Int × Int) (List Bool × Nat)) with
    |.error q=>some (.pan (flt q))
    |.ok (T,j)=>some (.ok (some (T.map fun v=> !(v==x3)),m,(j:Int),g,n0,l)):=by
   unfold co
   rw[Bt _ _ (by omega)]
   cases hp:eB m i with
   |error q=>rfl
   |ok p=>
    obtain⟨a,i1⟩:=p
    obtain⟨e1,e2⟩:=fX hp
    have ha:=a.toNat_lt
    rw[Option.bind_some]
    dsimp only
    rw[rO _ _ _ (by omega),Option.bind_some]
    dsimp only
    cases hd:bL m 45 i1 with
    |false=>
     rw[cond_false,cond_false]
     show bq 3000 _ n x3 a (w64 (b2i a)) S m ((i1:Nat):Int) g n0 l=_
     rw[oN,pR (by omega) (by omega),B0 3000 x3 a m _ g n0 l 1 n a.toNat S h4 rfl (by omega)]
     exact ya hm x3 g n0 l f n false i1 _ (by omega) (by omega) (by omega) (by rw[ju];exact h4)
    |true=>
     rw[cond_true,cond_true]
     show((bB 3000 m ((i1+1:Nat):Int) g n0 l).bind _)=_
     rw[Bt _ _ (by omega)]
     cases hp2:eB m (i1+1) with
     |error q=>rfl
     |ok p2=>
      obtain⟨b,i3⟩:=p2
      obtain⟨e3,e4⟩:=fX hp2
      have hb:=b.toNat_lt
      rw[Option.bind_some]
      dsimp only
      by_cases hl:(b2i b) < (b2i a)
      ·rw[decide_eq_true hl,cond_true,cond_true]
       rfl
      ·rw[decide_eq_false hl,cond_false,cond_false]
       rw[oN,oN] at hl
       show bq 3000 _ n x3 b (w64 (b2i a)) S m ((i3:Nat):Int) g n0 l=_
       rw[oN,pR (by omega) (by omega),B0 3000 x3 b m _ g n0 l (b.toNat+1 - a.toNat) n a.toNat S h4 (by omega) (by omega)]
       exact ya hm x3 g n0 l f n false i3 _ (by omega) (by omega) (by omega) (by rw[ju];exact h4)
  rw[bn,lx]
  cases first with
  |true=>rw[cond_true,hR];rfl
  |false=>
   rw[cond_false,rO _ _ _ (by omega),Option.bind_some]
   dsimp only
   cases hb:bL m 93 i with
   |false=>exact hR
   |true=>
    show bA 3000 n x3 ((0:Nat):Int) S m ((i+1:Nat):Int) g n0 l=_
    rw[FE 3000 x3 m _ g n0 l S h4 256 n 0 S rfl (by omega) (by simp)]
    rfl
def vn(m:List UInt8)(i:Nat):Except (Int × Int) (List Bool × Nat):=match lx m (m.length+1) true (hQ (bL m 94 i) i) (List.replicate 256 false) with
 |.error q=>.error q
 |.ok (T,j)=>.ok (T.map fun v=> !(v==bL m 94 i),j)
theorem L8{m:List UInt8}(hm:m.length≤60){i:Nat}(hi:i≤m.length)(g:Int)(n0:Nat)(l:List Vstep):cN 3000 m i g n0 l=match vn m i with
  |.error q=>some (.pan (flt q))
  |.ok (S,j)=>some (.ok (some S,m,(j:Int),g,n0,l)):=by
 unfold cN vn
 rw[rO _ _ _ (by omega),Option.bind_some]
 dsimp only
 have hs:hQ (bL m 94 i) i≤m.length∧i≤hQ (bL m 94 i) i:=by
  unfold hQ
  cases h:bL m 94 i with
  |true=>have:=dl h;exact⟨by simp;omega,by simp⟩
  |false=>exact⟨hi,Nat.le_refl _⟩
 have:=ya hm (bL m 94 i) g n0 l (m.length+1) 3000 true _ (List.replicate 256 false) hs.1 (by omega) (by omega) (by simp)
 have e:bn 3000 3000 (bL m 94 i) true (List.replicate 256 false) m ((hQ (bL m 94 i) i:Nat):Int) g n0 l=_:=this
 refine Eq.trans e ?_
 cases lx m (m.length+1) true (hQ (bL m 94 i) i) (List.replicate 256 false) with
 |error q=>rfl
 |ok p=>rfl
theorem JR{m:List UInt8}{i:Nat}(hi:i≤m.length){S:List Bool}{j:Nat}(h:vn m i=.ok (S,j)):S.length=256∧i < j∧j≤m.length:=by
 unfold vn at h
 split at h
 ·cases h
 ·rename_i T j' hT
  cases h
  have hs:hQ (bL m 94 i) i≤m.length∧i≤hQ (bL m 94 i) i:=by
   unfold hQ
   cases h:bL m 94 i with
   |true=>have:=dl h;exact⟨by simp;omega,by simp⟩
   |false=>exact⟨hi,Nat.le_refl _⟩
  have:=tE _ _ _ _ hT (by simp) hs.1
  exact⟨by simpa using this.1,by omega,by omega⟩
set_option maxRecDepth 1000000
def xY(c:UInt8):List Bool:=(List.replicate 256 false).set c.toNat true
theorem t6(c:UInt8):(xY c).length=256:=by simp[xY]
theorem HI(N:Nat)(c:UInt8):fL N c=some (some (xY c)):=by
 have h1:fL N c=(dP 256 (b2i c)).bind fun z1=>(mw (List.replicate 256 false) (0+z1) true).bind fun z2=>(j8 256 z2).bind fun z3=>some (some z3):=by kernel_rfl
 have hc:=c.toNat_lt
 have e1:dP 256 (b2i c)=some c.toNat:=by
  unfold dP
  rw[oN,if_pos (by omega)];simp
 have e2:mw (List.replicate 256 false) (0+c.toNat) true=some (xY c):=by
  unfold mw
  rw[Nat.zero_add,if_pos (by simp;omega)];rfl
 have e3:j8 256 (xY c)=some (xY c):=by
  unfold j8
  rw[if_pos (t6 c).symm]
 rw[h1,e1,Option.bind_some,e2,Option.bind_some,e3,Option.bind_some]
def Al(x:UInt8):Bool:=
 bif decide ((b2i x)≥(b2i 97)) then
  bif decide ((b2i x)≤(b2i 122)) then true
  else bif decide ((b2i x)≥(b2i 65)) then
   bif decide ((b2i x)≤(b2i 90)) then true else bif decide ((b2i x)≥(b2i 48)) then decide ((b2i x)≤(b2i 57)) else false
   else bif decide ((b2i x)≥(b2i 48)) then decide ((b2i x)≤(b2i 57)) else false
 else bif decide ((b2i x)≥(b2i 65)) then
   bif decide ((b2i x)≤(b2i 90)) then true else bif decide ((b2i x)≥(b2i 48)) then decide ((b2i x)≤(b2i 57)) else false
   else bif decide ((b2i x)≥(b2i 48)) then decide ((b2i x)≤(b2i 57)) else false
def io(m:List UInt8)(i:Nat):Except (Int × Int) (List Bool × Nat):=match m[i]? with
 |none=>.error (0,(i:Int))
 |some c=>bif (b2i c)==(b2i 46) then .ok (List.replicate 256 true,i+1)
  else bif (b2i c)==(b2i 92) then
   match m[i+1]? with
   |none=>.error (1,((i+1:Nat):Int))
   |some x=>bif Al x then .error (1,((i+1:Nat):Int)) else .ok (xY x,i+2)
  else bif (b2i c)==(b2i 91) then vn m (i+1)
  else bif ([42,43,63,41,124,93] :List UInt8).contains c then .error (1,(i:Int)) else .ok (xY c,i+1)
def tkS(S:List Bool):Vstep:=⟨0,0,0,some S⟩
theorem Me (NR : RecC) (m : List UInt8) (at_ g : Int) (n : Nat) (l : List Vstep) : bZ NR 3000 0 (List.replicate 256 false) m at_ g n l = (aA NR.n (tkS (List.replicate 256 true)) m at_ g n l).bind fun z16 =>
   match z16 with
   |.pan vz16=>some (.pan vz16)
   |.ok z17=>some (.ok (false,z17.2.1,z17.2.2.1,z17.2.2.2.1,z17.2.2.2.2.1,z17.2.2.2.2.2)):=by kernel_rfl
def LO(m:List UInt8)(g:Int)(l:List Vstep):Except (Int × Int) (List Bool × Nat)→Option (PR ay)
 |.error q=>some (.pan (flt q))
 |.ok (S,j)=>some (.ok (false,m,(j:Int),g,(l++ [tkS S]).length,l++ [tkS S]))
theorem JC{NR:RecC}(hN:NR.n=3000){m:List UInt8}(hm:m.length≤60){i:Nat}{c:UInt8}(hc:m[i]? =some c)(h40:(b2i c==b2i 40)=false)(g:Int)(l:List Vstep)(hl:l.length≤100000):bu NR m i g l.length l=LO m g l (io m i):=by
 have hi:=(List.getElem?_eq_some_iff.1 hc).1
 unfold bu io
 rw[ixn,hc,Option.bind_some,hN]
 dsimp only
 cases h46:(b2i c==b2i 46) with
 |true=>
  rw[cond_true,cond_true]
  show bZ NR 3000 0 (List.replicate 256 false) m (w64 ((i:Int)+1)) g l.length l=_
  rw[Me,iF _ _ _ _ _ _ (by omega),jD (by omega)]
  rfl
 |false=>
  rw[cond_false,cond_false]
  cases h92:(b2i c==b2i 92) with
  |true=>
   rw[cond_true,cond_true,jD (by omega)]
   cases hx:m[i+1]? with
   |none=>
    rw[my _ hx,Option.bind_some]
    show aC NR 3000 0 false false m ((i+1:Nat):Int) g l.length l=_
    unfold aC cu
    rfl
   |some x=>
    rw[p8 _ hx,Option.bind_some]
    dsimp only
    have hx':=(List.getElem?_eq_some_iff.1 hx).1
    have key:∀L:Bool,Al x=L→aC NR 3000 x true L m ((i+1:Nat):Int) g l.length l=LO m g l (bif Al x then .error (1,((i+1:Nat):Int)) else .ok (xY x,i+2)):=by
     rintro L rfl
     unfold aC
     rw[Bool.not_true,cond_false]
     cases Al x with
     |true=>rfl
     |false=>
      rw[cond_false,cond_false,HI,Option.bind_some,iF _ _ _ _ _ _ (by omega),jD (by omega)]
      rfl
    cases e1:decide ((b2i x)≥(b2i 97))<;> cases e2:decide ((b2i x)≤(b2i 122))<;> cases e3:decide ((b2i x)≥(b2i 65))<;> cases e4:decide ((b2i x)≤(b2i 90))<;> cases e5:decide ((b2i x)≥(b2i 48))<;> simp only[cond_true,cond_false] <;> refine key _ ?_<;> simp only[Al,e1,e2,e3,e4,e5,cond_true,cond_false]
  |false=>
   rw[cond_false,cond_false]
   cases h91:(b2i c==b2i 91) with
   |true=>
    rw[cond_true,cond_true,jD (by omega),L8 hm (by omega)]
    cases hs:vn m (i+1) with
    |error q=>rfl
    |ok p=>
     obtain⟨S,j⟩:=p
     rw[Option.bind_some]
     dsimp only
     rw[iF _ _ _ _ _ _ (by omega)]
     rfl
   |false=>
    rw[cond_false,cond_false,h40,cond_false]
    obtain⟨z,h1,h2⟩:=Bq 3000 [42,43,63,41,124,93] c
    rw[h1,Option.bind_some,h2]
    cases ([42,43,63,41,124,93] :List UInt8).contains c with
    |true=>rfl
    |false=>
     rw[cond_false,cond_false]
     unfold cC
     rw[HI,Option.bind_some,iF _ _ _ _ _ _ (by omega),jD (by omega)]
     rfl
theorem qA{m:List UInt8}{i:Nat}{S:List Bool}{j:Nat}(h:io m i=.ok (S,j)):S.length=256∧i < j∧j≤m.length:=by
 unfold io at h
 split at h
 ·cases h
 ·rename_i c hc
  have hi:=(List.getElem?_eq_some_iff.1 hc).1
  cases h46:(b2i c==b2i 46) with
  |true=>rw[h46,cond_true] at h;cases h;exact⟨by simp,by omega,by omega⟩
  |false=>
   rw[h46,cond_false] at h
   cases h92:(b2i c==b2i 92) with
   |true=>
    rw[h92,cond_true] at h
    split at h
    ·cases h
    ·rename_i x hx
     have hi2:=(List.getElem?_eq_some_iff.1 hx).1
     cases hl:Al x with
     |true=>rw[hl,cond_true] at h;cases h
     |false=>rw[hl,cond_false] at h;cases h;exact⟨t6 _,by omega,by omega⟩
   |false=>
    rw[h92,cond_false] at h
    cases h91:(b2i c==b2i 91) with
    |true=>
     rw[h91,cond_true] at h
     have:=JR (by omega) h
     exact⟨this.1,by omega,this.2.2⟩
    |false=>
     rw[h91,cond_false] at h
     cases hcn:([42,43,63,41,124,93] :List UInt8).contains c with
     |true=>rw[hcn,cond_true] at h;cases h
     |false=>rw[hcn,cond_false] at h;cases h;exact⟨t6 _,by omega,by omega⟩
inductive Nd
 |set (S:List Bool) (sg:UInt8)
 |grp (n:Nat) (M:Nd) (sg:UInt8)
 |nil
 |cons (p r:Nd)
 |alt (r M:Nd)
def sgN(sg:UInt8):Bool:=sg==42 || sg==63
def Nd.null:Nd→Bool
 |.set _ sg=>sgN sg
 |.grp _ M sg=>sgN sg || M.null
 |.nil=>true
 |.cons p r=>p.null && r.null
 |.alt r M=>r.null || M.null
def sgL(sg:UInt8):Nat:=bif sg==42 then 2 else bif sg==43 then 1 else bif sg==63 then 1 else 0
def Nd.len:Nd→Nat
 |.set _ sg=>1+sgL sg
 |.grp _ M sg=>M.len+2+sgL sg
 |.nil=>0
 |.cons p r=>p.len+r.len
 |.alt r M=>r.len+M.len+2
def fkS(a b:Nat):Vstep:=⟨1,(a:Int),(b:Int),none⟩
def jpS(a:Nat):Vstep:=⟨2,(a:Int),0,none⟩
def svS(a:Nat):Vstep:=⟨3,(a:Int),0,none⟩
def ie(b:Nat)(sg:UInt8)(body:Nat→List Vstep)(n:Nat):List Vstep:=
 bif sg==42 then fkS (b+1) (b+n+2)::(body (b+1)++ [jpS b])
 else bif sg==43 then body b++ [fkS b (b+n+1)]
 else bif sg==63 then fkS (b+1) (b+n+1)::body (b+1)
 else body b
def Nd.code:Nd→Nat→List Vstep
 |.set S sg,b=>ie b sg (fun _=>[tkS S]) 1
 |.grp n M sg,b=>ie b sg (fun b'=>svS (2 * n)::(M.code (b'+1)++ [svS (2 * n+1)])) (M.len+2)
 |.nil,b=>[]
 |.cons p r,b=>p.code b++r.code (b+p.len)
 |.alt r M,b=>fkS (b+1) (b+r.len+2)::(r.code (b+1)++jpS (b+r.len+2+M.len)::M.code (b+r.len+2))
theorem wD{b:Nat}{sg:UInt8}{body:Nat→List Vstep}{n:Nat}(h:∀b,(body b).length=n):(ie b sg body n).length=n+sgL sg:=by
 unfold ie sgL
 cases sg==42
 ·cases sg==43
  ·cases sg==63
   ·simp[h]
   ·simp[h]
  ·simp[h]
 ·simp[h]
theorem Nd.code_len:∀ (x:Nd) (b:Nat),(x.code b).length=x.len
 |.set S sg,b=>wD fun _=>rfl
 |.grp n M sg,b=>by
  show(ie b sg _ (M.len+2)).length=M.len+2+sgL sg
  exact wD fun b'=>by rw[List.length_cons,List.length_append,M.code_len];rfl
 |.nil,b=>rfl
 |.cons p r,b=>by unfold Nd.code Nd.len;rw[List.length_append,p.code_len,r.code_len]
 |.alt r M,b=>by unfold Nd.code Nd.len;rw[List.length_cons,List.length_append,List.length_cons,r.code_len,M.code_len];omega
def shS(by_:Int)(s:Vstep):Vstep:=bif s.kind==1 then⟨s.kind,w64 (s.a+by_),w64 (s.b+by_),s.set_⟩ else bif s.kind==2 then⟨s.kind,w64 (s.a+by_),s.b,s.set_⟩ else s
theorem yS{k a b:Nat}(h1:a+k≤1000000)(h2:b+k≤1000000):shS k (fkS a b)=fkS (a+k) (b+k):=by
 show(⟨1,w64 ((a:Int)+k),w64 ((b:Int)+k),none⟩:Vstep)=⟨1,((a+k:Nat):Int),((b+k:Nat):Int),none⟩
 rw[pR (by omega) (by omega),pR (by omega) (by omega)];simp
theorem HX{k a:Nat}(h1:a+k≤1000000):shS k (jpS a)=jpS (a+k):=by
 show(⟨2,w64 ((a:Int)+k),0,none⟩:Vstep)=⟨2,((a+k:Nat):Int),0,none⟩
 rw[pR (by omega) (by omega)];simp
theorem Iy{k:Int}{a:Nat}:shS k (svS a)=svS a:=rfl
theorem Bd{b k:Nat}{sg:UInt8}{body:Nat→List Vstep}{n:Nat}(hb:b+ (n+sgL sg)+k≤1000000)(h:∀b',b≤b'→b'+n≤b+n+sgL sg→(body b').map (shS k)=body (b'+k)):(ie b sg body n).map (shS k)=ie (b+k) sg body n:=by
 unfold ie sgL at *
 cases h1:sg==42
 ·rw[h1,cond_false] at hb h
  cases h2:sg==43
  ·rw[h2,cond_false] at hb h
   cases h3:sg==63
   ·rw[h3,cond_false] at hb h
    simp only[cond_false]
    exact h b (Nat.le_refl _) (by omega)
   ·rw[h3,cond_true] at hb h
    simp only[cond_false,cond_true,List.map_cons]
    rw[yS (by omega) (by omega),h (b+1) (by omega) (by omega),show b+1+k=b+k+1 by omega,show b+n+1+k=b+k+n+1 by omega]
  ·rw[h2,cond_true] at hb h
   simp only[cond_false,cond_true,List.map_append,List.map_cons,List.map_nil]
   rw[yS (by omega) (by omega),h b (Nat.le_refl _) (by omega),show b+n+1+k=b+k+n+1 by omega]
 ·rw[h1,cond_true] at hb h
  simp only[cond_true,List.map_append,List.map_cons,List.map_nil]
  rw[yS (by omega) (by omega),HX (by omega),h (b+1) (by omega) (by omega),show b+1+k=b+k+1 by omega,show b+n+2+k=b+k+n+2 by omega]
theorem Nd.code_sh:∀ (x:Nd) (b k:Nat),b+x.len+k≤1000000→(x.code b).map (shS k)=x.code (b+k)
 |.set S sg,b,k,hb=>Bd hb fun _ _ _=>rfl
 |.grp n M sg,b,k,hb=>by
  unfold Nd.len at hb
  refine Bd (by omega) fun b' h1 h2=> ?_
  simp only[List.map_cons,List.map_append,List.map_nil,Iy]
  rw[M.code_sh (b'+1) k (by omega),show b'+1+k=b'+k+1 by omega]
 |.nil,b,k,hb=>rfl
 |.cons p r,b,k,hb=>by
  unfold Nd.len at hb
  unfold Nd.code
  rw[List.map_append,p.code_sh b k (by omega),r.code_sh _ k (by omega),show b+p.len+k=b+k+p.len by omega]
 |.alt r M,b,k,hb=>by
  unfold Nd.len at hb
  unfold Nd.code
  rw[List.map_cons,List.map_append,List.map_cons,yS (by omega) (by omega),HX (by omega),r.code_sh _ k (by omega),M.code_sh _ k (by omega),show b+1+k=b+k+1 by omega,show b+r.len+2+k=b+k+r.len+2 by omega,show b+r.len+2+M.len+k=b+k+r.len+2+M.len by omega]
def ea(m:List UInt8)(i:Nat):UInt8:=bif bL m 42 i then 42 else bif bL m 43 i then 43 else bif bL m 63 i then 63 else 0
def prs(m:List UInt8):Nat→Nat→Nat→Nat→Except (Int × Int) (Nd × Nat × Nat)
 |0,_,_,_=>.error (0,0)
 |f+1,0,i,g=>match prs m f 1 i g with
  |.error q=>.error q
  |.ok (r,j,g1)=>bif bL m 124 j then match prs m f 0 (j+1) g1 with
    |.error q=>.error q
    |.ok (M,k,g2)=>.ok (.alt r M,k,g2)
   else .ok (r,j,g1)
 |f+1,1,i,g=>match m[i]? with
  |none=>.ok (.nil,i,g)
  |some c=>bif (b2i c)==(b2i 124) then .ok (.nil,i,g) else bif (b2i c)==(b2i 41) then .ok (.nil,i,g) else match prs m f 2 i g with
   |.error q=>.error q
   |.ok (p,j,g1)=>match prs m f 1 j g1 with
    |.error q=>.error q
    |.ok (r,k,g2)=>.ok (.cons p r,k,g2)
 |f+1,_+2,i,g=>bif bL m 40 i then
   bif g==9 then .error (2,(i:Int)) else match prs m f 0 (i+1) (g+1) with
   |.error q=>.error q
   |.ok (M,j,g1)=>bif bL m 41 j then
     bif ea m (j+1)==0 then .ok (.grp (g+1) M 0,j+1,g1)
     else bif M.null && !(ea m (j+1)==63) then .error (4,((j+1:Nat):Int)) else .ok (.grp (g+1) M (ea m (j+1)),j+2,g1)
    else .error (1,(j:Int))
  else match io m i with
   |.error q=>.error q
   |.ok (S,j)=>bif ea m j==0 then .ok (.set S 0,j,g) else .ok (.set S (ea m j),j+1,g)
end Go.Proofs.Ytlhjbhgkhpbnfaa
