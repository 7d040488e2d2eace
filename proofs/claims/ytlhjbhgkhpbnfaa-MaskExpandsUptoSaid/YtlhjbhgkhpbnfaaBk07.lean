import Derived.Test.YtlhjbhgkhpbnfaaBk06
import Derived.Shelf.Strings.Builder1
import Derived.Shelf.Strings.Builder2
import Derived.WalkKit
import Derived.Lib.Hide
import Derived.BigCall
import Derived.Test.YtlhjbhgkhpbnfaaProg
import Derived.Recover
import Derived.Defers
import Derived.RegionTactic
import Derived.BigRegion
import Derived.Shelf.Bits.Mul64
import Derived.Deep.OwnRows
import Derived.Laws.CopyRow
set_option linter.unusedSimpArgs false
set_option linter.unusedVariables false
namespace Go.Proofs.Ytlhjbhgkhpbnfaa
open Go.RowKit P
set_option linter.unusedSimpArgs false
set_option linter.unusedVariables false
attribute [local irreducible] AS.nf OpV bb Stk lY Iu aT cE FY H7 Awp Mz D9 n5 lp NJ Nd tJ
set_option maxHeartbeats 8000000
def lfs{T:Nat→Type}:Tree (OL T)→List (TS T)
 |.leaf (.st s)=>[s]
 |.nl [] a b=>lfs a++lfs b
 |_=>[]
def okL{T:Nat→Type}:Tree (OL T)→Bool
 |.leaf (.st _)=>true
 |.nl [] a b=>okL a && okL b
 |_=>false
theorem qR{T:Nat→Type}{R:OL T→Prop}:∀ {t:Tree (OL T)},okL t=true→(∀s∈lfs t,R (.st s))→t.holds R
 |.leaf (.st s),_,h=>h s (List.mem_singleton_self s)
 |.leaf (.pan v),h0,_=>by cases h0
 |.nl [] a b,h0,h=>by
  simp only [okL,Bool.and_eq_true] at h0
  exact⟨fun _=>qR h0.1 fun s hs=>h s (List.mem_append.2 (.inl hs)),qR h0.2 fun s hs=>h s (List.mem_append.2 (.inr hs))⟩
 |.nl (_::_) a b,h0,_=>by cases h0
 |.cond _ _ _,h0,_=>by cases h0
 |.bnd _ _,h0,_=>by cases h0
 |.sm _ _ _,h0,_=>by cases h0
 |.fail,h0,_=>by cases h0
def Ca:List Oper:=[{ dst:=some 10,op:=Op.load 28 (Operand.tmp 2),type:=28,pos:= "mask.go:248",after:= #[{ on:=1,ground:=Ground.gcOnly Departure.lateStores }],guard:=none },
 { dst:=none,op:=Op.store 54 (Operand.tmp 0) (Operand.const (Value.pointer none)),type:=0,pos:= "mask.go:248",after:= #[{ on:=0,ground:=Ground.textOnly Departure.lateStores }],guard:=none },
 { dst:=none,op:=Op.store 28 (Operand.tmp 1) (Operand.tmp 10),type:=0,pos:= "mask.go:248",after:= #[{ on:=0,ground:=Ground.data },{ on:=1,ground:=Ground.chain },{ on:=0,ground:=Ground.phase },{ on:=1,ground:=Ground.phase }],guard:=none }]
def cpT(e a:Int):TS EE.T:=⟨11,[(0,.a (.box 100000 0)),(1,.a (.box 100001 0)),(2,.a (.box 100002 0)),(3,.a .tt),(9,.a .tt)],[(100002,.cs [.d (.int .i64) e,.d (.int .i64) a]),(100000,.cs [.raw (.pointer none)]),(100001,.cs [.d (.int .i64) (0:Int),.d (.int .i64) (0:Int)])],[]⟩
def cpH(e a:Int):List (Nat × TB EE.T):=[(100001,.cs [.d (.int .i64) e,.d (.int .i64) a]),(100000,.cs [.raw (.pointer none)]),(100002,.cs [.d (.int .i64) e,.d (.int .i64) a]),(100000,.cs [.raw (.pointer none)]),(100001,.cs [.d (.int .i64) (0:Int),.d (.int .i64) (0:Int)])]
def cpR(k2 k3 kb:Nat):Rn:=⟨fun i=>if i=100000 then⟨k2,false,[]⟩ else if i=100001 then⟨k3,false,[]⟩ else⟨kb,false,[]⟩⟩
theorem DM(e a:Int):okL (D2 TT EE ⟨[],EQT,[],[]⟩ Ca (cpT e a))=true:=by kernel_rfl
theorem H6(e a:Int):(lfs (D2 TT EE ⟨[],EQT,[],[]⟩ Ca (cpT e a))).map (·.h)=[cpH e a,cpH e a] :=by kernel_rfl
def faultV(e a:Int):Value:=.iface 28 (.agg #[.int .i64 e,.int .i64 a])
set_option maxRecDepth 100000 in
theorem Jx(k2 k3:Nat)(u0 c0 c1:AV)(hne:k2≠k3):tJ Try.prog 33 [.v (.pointer (some ⟨k2,0,none⟩)),.v (.pointer (some ⟨k3,0,none⟩))] [(k2,[u0]),(k3,[c0,c1])] .returning .returning (fun out H'=>out=.ret (.tu [])∧look H' k2=some [u0] ∧look H' k3=some [c0,c1]):=by
 unfold tJ
 refine tz Try.func33 rfl rfl rfl (fun X=>.v .nilIface) rfl rfl Jd ?_
 dsimp only [slotsOf,List.drop_succ_cons,List.drop_zero]
 repeat (first
  | ((first|apply zw|apply uR);(next=>(first| (simp only [go_sem,Nat.reduceBEq,Nat.reduceEqDiff,reduceIte,reduceCtorEq,String.reduceEq,Nat.reduceAdd,Int.reduceToNat];exact rfl)|exact rfl)))
  | ((first|apply qT rfl rfl rfl rfl|apply A5 rfl rfl rfl);(next=>(first
   | (refine ny (T:=TT) rfl ?_;(first|exact trivial|omega| (simp [NFL] <;> omega)))
   | (apply opk ⟨_,.move _,_,_,_,_⟩;first|exact fc (eC _) (.inl rfl)|fail)
   | (apply opk ⟨_,.load _ _,_,_,_,_⟩;first|exact my (T:=TT) rfl rfl rfl|exact l8 (T:=TT) rfl rfl rfl rfl|fail)
   | (apply opk ⟨_,.typeAssert _ _ _ _,_,_,_,_⟩;first|exact mc (T:=TT) rfl rfl rfl rfl|exact mg (T:=TT) rfl rfl rfl rfl|fail)
   |fail)))
  | (refine arO _ ?_;first
   | (refine arO ⟨_,.move _,_,_,_,_⟩ ?_;first|refine jP rfl rfl rfl rfl ?_|fail)
   | (refine arO ⟨_,.assign _,_,_,_,_⟩ ?_;first
    |refine hQ rfl rfl rfl rfl ?_
    |refine A4 rfl rfl rfl rfl (fc (eC _) (.inr rfl)) ?_
    |fail)
   | (refine arO ⟨_,.load _ _,_,_,_,_⟩ ?_;first
    |refine gV (T:=TT) rfl rfl rfl rfl bY rfl rfl rfl rfl ?_
    | (refine gV (T:=TT) rfl rfl rfl rfl (ez ?_ bY) rfl rfl rfl rfl ?_;(next=>(first|assumption| (intro e;exact absurd e.symm (by assumption)))))
    | (refine gV (T:=TT) rfl rfl rfl rfl (ez ?_ (ez ?_ bY)) rfl rfl rfl rfl ?_;(next=>(first|assumption| (intro e;exact absurd e.symm (by assumption))));(next=>(first|assumption| (intro e;exact absurd e.symm (by assumption)))))
    |fail)
   | (refine arO ⟨_,.store _ _ _,_,_,_,_⟩ ?_;first
    | (apply qe rfl rfl;(next=>(first
     | (apply jb (T:=TT) rfl rfl rfl;(next=>(first
      |rfl
      |exact bY
      |assumption
      | ((repeat (first|exact bY|assumption| (apply ez;(next=>(first|assumption| (intro e;exact absurd e.symm (by assumption))|fail)))|fail));done)
      |fail));(next=>rfl);(next=>rfl);(next=>rfl))
     | (apply f0 (T:=TT) rfl;(next=>(first
      |rfl
      |exact bY
      |assumption
      | ((repeat (first|exact bY|assumption| (apply ez;(next=>(first|assumption| (intro e;exact absurd e.symm (by assumption))|fail)))|fail));done)
      |fail));(next=>rfl);(next=>rfl);(next=>rfl);(next=>rfl);(next=>rfl);(next=>rfl);(next=>rfl);(next=>rfl))
     |fail)))
    |fail)
   | (refine arO ⟨_,.alloc _,_,_,_,_⟩ ?_;first
    | (refine iv rfl rfl (nU (T:=TT) rfl rfl ?_);intro kb hkb;(repeat (have hkn:=(nI hkb).1;replace hkb:=(nI hkb).2));(try have hkl:=mV hkb);clear hkb;refine KT ?_)
    |fail)
   |fail)
  | (apply A5 rfl rfl rfl;(next=>(first
   |exact fZ rfl (.inl rfl)
   |exact fZ rfl (.inr rfl)
   |exact rH rfl
   | (apply ir (T:=TT) rfl;(next=>(first
    |rfl
    |exact bY
    |assumption
    | ((repeat (first|exact bY|assumption| (apply ez;(next=>(first|assumption| (intro e;exact absurd e.symm (by assumption))|fail)))|fail));done)
    |fail));(next=>rfl);(next=>rfl);(next=>rfl);(next=>rfl))
   |fail)))
  |refine rg ?_
  | (refine arE ?_;refine nC [0,1,2,3,9] rfl ?_)
  |refine jv ?_
  |refine lD ?_
  |refine nM ?_
  |refine rq ?_
  |refine nt rfl ?_
  | (refine arC (.cond _ _ _) ?_;first
   | (refine fk rfl ?_ ?_;(next=>(first|rfl| (simp only [decide_eq_true_eq,beq_iff_eq,bne_iff_ne,ge_iff_le,gt_iff_lt,ne_eq,Bool.not_eq_true',decide_eq_false_iff_not];omega))))
   | (refine eN rfl ?_ ?_;(next=>(first
    |rfl
    | (simp only [decide_eq_false_iff_not,beq_eq_false_iff_ne,bne_eq_false_iff_eq,ge_iff_le,gt_iff_lt,ne_eq,Bool.not_eq_false',decide_eq_true_eq];omega))))
   |fail)
  |refine oe ?_
  |refine ly ?_
  |refine jR rfl ?_
  |refine jX ?_
  |refine jT ?_
  | (refine arC .ret ?_;refine pJ [] ?_)
  |refine la ?_
  |refine lf ?_
  |refine kR ?_
  |refine pK ?_
  | (refine arC (.region _ _ true) ?_;refine uy (CG mixed (by kernel_rfl) rfl ?_))
  |refine uk rfl rfl rfl ?_
  | (refine MV ?_;refine nC [0,1,2,3,9] rfl ?_)
  |fail)
 rename_i hkn2
 exact FR ⟨_,rfl,rfl,ez hkn2 bY,ez hkn (ez (fun e=>hne e.symm) bY)⟩
set_option maxRecDepth 100000 in
theorem Kr(k2 k3:Nat)(e a:Int)(hne:k2≠k3):tJ Try.prog 33 [.v (.pointer (some ⟨k2,0,none⟩)),.v (.pointer (some ⟨k3,0,none⟩))] [(k2,[.v (.pointer none)]),(k3,[.v (.int .i64 0),.v (.int .i64 0)])] (.panicking [⟨faultV e a,false,false⟩]) (.panicking [⟨faultV e a,true,false⟩]) (fun out H'=>out=.ret (.tu [])∧look H' k2=some [.v (.pointer none)] ∧look H' k3=some [.v (.int .i64 e),.v (.int .i64 a)]):=by
 unfold tJ
 refine tz (ru:=.ifc 28 (.ag [.v (.int .i64 e),.v (.int .i64 a)])) Try.func33 rfl rfl rfl (fun X=>.ifc _ _ _ (.ag _ #[_,_] rfl (fun i u x hu hx=>by
  match i,hu,hx with
  |0,hu,hx=>simp at hu hx;subst hu hx;exact .v _
  |1,hu,hx=>simp at hu hx;subst hu hx;exact .v _))) rfl rfl (Jr (faultV e a)) ?_
 dsimp only [slotsOf,List.drop_succ_cons,List.drop_zero]
 repeat (first
  | ((first|apply zw|apply uR);(next=>(first| (simp only [go_sem,Nat.reduceBEq,Nat.reduceEqDiff,reduceIte,reduceCtorEq,String.reduceEq,Nat.reduceAdd,Int.reduceToNat];exact rfl)|exact rfl)))
  | (apply qT rfl rfl rfl rfl;(next=>(first
   | (refine ny (T:=TT) rfl ?_;(first|exact trivial|omega| (simp [NFL] <;> omega)))
   | (apply opk ⟨_,.move _,_,_,_,_⟩;first|exact fc (eC _) (.inl rfl)|fail)
   | (apply opk ⟨_,.load _ _,_,_,_,_⟩;first|exact my (T:=TT) rfl rfl rfl|exact l8 (T:=TT) rfl rfl rfl rfl|fail)
   | (apply opk ⟨_,.typeAssert _ _ _ _,_,_,_,_⟩;first|exact mc (T:=TT) rfl rfl rfl rfl|exact mg (T:=TT) rfl rfl rfl rfl|fail)
   |fail)))
  | (refine arO _ ?_;first
   | (refine arO ⟨_,.move _,_,_,_,_⟩ ?_;first|refine jP rfl rfl rfl rfl ?_|fail)
   | (refine arO ⟨_,.assign _,_,_,_,_⟩ ?_;first
    |refine hQ rfl rfl rfl rfl ?_
    |refine A4 rfl rfl rfl rfl (fc (eC _) (.inr rfl)) ?_
    |fail)
   | (refine arO ⟨_,.load _ _,_,_,_,_⟩ ?_;first
    |refine gV (T:=TT) rfl rfl rfl rfl bY rfl rfl rfl rfl ?_
    | (refine gV (T:=TT) rfl rfl rfl rfl (ez ?_ bY) rfl rfl rfl rfl ?_;(next=>(first|assumption| (intro e;exact absurd e.symm (by assumption)))))
    | (refine gV (T:=TT) rfl rfl rfl rfl (ez ?_ (ez ?_ bY)) rfl rfl rfl rfl ?_;(next=>(first|assumption| (intro e;exact absurd e.symm (by assumption))));(next=>(first|assumption| (intro e;exact absurd e.symm (by assumption)))))
    |fail)
   | (refine arO ⟨_,.store _ _ _,_,_,_,_⟩ ?_;first
    | (apply qe rfl rfl;(next=>(first
     | (apply jb (T:=TT) rfl rfl rfl;(next=>(first
      |rfl
      |exact bY
      |assumption
      | ((repeat (first|exact bY|assumption| (apply ez;(next=>(first|assumption| (intro e;exact absurd e.symm (by assumption))|fail)))|fail));done)
      |fail));(next=>rfl);(next=>rfl);(next=>rfl))
     | (apply f0 (T:=TT) rfl;(next=>(first
      |rfl
      |exact bY
      |assumption
      | ((repeat (first|exact bY|assumption| (apply ez;(next=>(first|assumption| (intro e;exact absurd e.symm (by assumption))|fail)))|fail));done)
      |fail));(next=>rfl);(next=>rfl);(next=>rfl);(next=>rfl);(next=>rfl);(next=>rfl);(next=>rfl);(next=>rfl))
     |fail)))
    |fail)
   | (refine arO ⟨_,.alloc _,_,_,_,_⟩ ?_;first
    | (refine iv rfl rfl (nU (T:=TT) rfl rfl ?_);intro kb hkb;(repeat (have hkn:=(nI hkb).1;replace hkb:=(nI hkb).2));(try have hkl:=mV hkb);clear hkb;refine KT ?_)
    |fail)
   |fail)
  |refine rg ?_
  | (refine arE ?_;refine nC [0,1,2,3,9] rfl ?_)
  |refine jv ?_
  |refine lD ?_
  |refine nM ?_
  |refine rq ?_
  |refine nt rfl ?_
  | (refine arC (.cond _ _ _) ?_;first
   | (refine fk rfl ?_ ?_;(next=>(first|rfl| (simp only [decide_eq_true_eq,beq_iff_eq,bne_iff_ne,ge_iff_le,gt_iff_lt,ne_eq,Bool.not_eq_true',decide_eq_false_iff_not];omega))))
   | (refine eN rfl ?_ ?_;(next=>(first
    |rfl
    | (simp only [decide_eq_false_iff_not,beq_eq_false_iff_ne,bne_eq_false_iff_eq,ge_iff_le,gt_iff_lt,ne_eq,Bool.not_eq_false',decide_eq_true_eq];omega))))
   |fail)
  |refine oe ?_
  |refine ly ?_
  |refine jR rfl ?_
  |refine jX ?_
  |refine jT ?_
  | (refine arC .ret ?_;refine pJ [] ?_)
  |refine la ?_
  |refine lf ?_
  |refine kR ?_
  |refine pK ?_
  |fail)
 rename_i hkn2
 have hinj:Inj (cpR k2 k3 kb) (cpT e a).h:=by
  intro p hp q hq
  simp only [cpT,List.mem_cons,List.not_mem_nil,or_false] at hp hq
  rcases hp with rfl|rfl|rfl<;> rcases hq with rfl|rfl|rfl<;> refine⟨fun _ _ h=> ?_,fun h=> ?_⟩<;> first|rfl| (exfalso;revert h;simp [cpR,Rn.b];omega)| (exfalso;revert h;simp)
 refine C3 (Y:=TT) (E:=EE) (G:=⟨[],EQT,[],[]⟩) (ρ:=cpR k2 k3 kb) (σ:=cpT e a) (ops:=Ca) mixed (GOk.nil dh) hinj (qR (DM e a) fun s hs=> ?_)
 have hs2:s.h=cpH e a:=by
  have:s.h∈(lfs (D2 TT EE ⟨[],EQT,[],[]⟩ Ca (cpT e a))).map (·.h):=List.mem_map_of_mem hs
  rw [H6] at this
  simpa using this
 intro ρ' hi' ha
 have e0:ρ' 100000=k2:=by
  have:=ha 100000 rfl
  show(ρ'.k 100000).b=k2
  rw [this];rfl
 have e1:ρ' 100001=k3:=by
  have:=ha 100001 rfl
  show(ρ'.k 100001).b=k3
  rw [this];rfl
 have hh:(TS.to EE.toEnc ρ' s).h=hTo EE.toEnc ρ' (cpH e a):=by rw [← hs2];rfl
 refine FR ⟨.tu [],rfl,rfl,?_,?_⟩
 ·rw [hh,← e0]
  exact ez (fun e=>hne (by rw [← e0,← e1];exact e)) bY
 ·rw [hh,← e1]
  exact bY
end Go.Proofs.Ytlhjbhgkhpbnfaa
namespace Go.Proofs.Ytlhjbhgkhpbnfaa
open Go.Shelf Go.RowKit P
set_option linter.unusedSimpArgs false
set_option linter.unusedVariables false
def Try.laysR_166:Go.Shelf.Ren:=⟨fun|166=>30|169=>31|170=>29|240=>48|276=>60|n=>n,fun|0=>0|3=>3|4=>4|5=>5|9=>9|20=>20|37=>46|70=>79|72=>81|75=>86|80=>89|127=>116|164=>124|n=>n,fun|n=>n⟩
set_option maxRecDepth 100000 in
theorem Try.laysn166:Go.Proofs.Lays.n166 Try.prog Try.laysR_166:={ mixed:=by kernel_rfl,f166:=Try.func30.trans (congrArg some (by kernel_rfl)),f240:=Try.func48.trans (congrArg some (by kernel_rfl)),f276:=Try.func60.trans (congrArg some (by kernel_rfl)),t0:=Try.underlying0,a0:=Try.isAgg0,z0:=Try.sizeOf0,v0:=Try.zeroValue0,t3:=Try.underlying3,a3:=Try.isAgg3,z3:=Try.sizeOf3,v3:=Try.zeroValue3,t4:=Try.underlying4,a4:=Try.isAgg4,z4:=Try.sizeOf4,v4:=Try.zeroValue4,t9:=Try.underlying9,a9:=Try.isAgg9,z9:=Try.sizeOf9,v9:=Try.zeroValue9,t20:=Try.underlying20,a20:=Try.isAgg20,z20:=Try.sizeOf20,v20:=Try.zeroValue20,t37:=Try.underlying46,a37:=Try.isAgg46,z37:=Try.sizeOf46,v37:=Try.zeroValue46,t70:=Try.underlying79,a70:=Try.isAgg79,z70:=Try.sizeOf79,v70:=Try.zeroValue79,t72:=Try.underlying81,a72:=Try.isAgg81,z72:=Try.sizeOf81,v72:=Try.zeroValue81,t75:=Try.underlying86,a75:=Try.isAgg86,z75:=Try.sizeOf86,v75:=Try.zeroValue86,t164:=Try.underlying124,a164:=Try.isAgg124,z164:=Try.sizeOf124,v164:=Try.zeroValue124 }
set_option maxRecDepth 100000 in
theorem Try.laysn170:Go.Proofs.Lays.n170 Try.prog Try.laysR_166:={ mixed:=by kernel_rfl,f170:=Try.func29.trans (congrArg some (by kernel_rfl)),t0:=Try.underlying0,a0:=Try.isAgg0,z0:=Try.sizeOf0,v0:=Try.zeroValue0,t3:=Try.underlying3,a3:=Try.isAgg3,z3:=Try.sizeOf3,v3:=Try.zeroValue3,t37:=Try.underlying46,a37:=Try.isAgg46,z37:=Try.sizeOf46,v37:=Try.zeroValue46,t70:=Try.underlying79,a70:=Try.isAgg79,z70:=Try.sizeOf79,v70:=Try.zeroValue79,t72:=Try.underlying81,a72:=Try.isAgg81,z72:=Try.sizeOf81,v72:=Try.zeroValue81 }
set_option maxRecDepth 100000 in
theorem Try.laysn169:Go.Proofs.Lays.n169 Try.prog Try.laysR_166:={ mixed:=by kernel_rfl,f169:=Try.func31.trans (congrArg some (by kernel_rfl)),t0:=Try.underlying0,a0:=Try.isAgg0,z0:=Try.sizeOf0,v0:=Try.zeroValue0,t3:=Try.underlying3,a3:=Try.isAgg3,z3:=Try.sizeOf3,v3:=Try.zeroValue3,t9:=Try.underlying9,a9:=Try.isAgg9,z9:=Try.sizeOf9,v9:=Try.zeroValue9,t37:=Try.underlying46,a37:=Try.isAgg46,z37:=Try.sizeOf46,v37:=Try.zeroValue46,t70:=Try.underlying79,a70:=Try.isAgg79,z70:=Try.sizeOf79,v70:=Try.zeroValue79,t72:=Try.underlying81,a72:=Try.isAgg81,z72:=Try.sizeOf81,v72:=Try.zeroValue81,t127:=Try.underlying116,a127:=Try.isAgg116,z127:=Try.sizeOf116,v127:=Try.zeroValue116 }
theorem A1:Builder.Extra Try.prog Try.laysR_166:={ sizeBuilder:=by kernel_rfl,liesBuilder:=by kernel_rfl,t5:=Try.underlying5,a5:=Try.isAgg5,z5:=Try.sizeOf5,v5:=Try.zeroValue5,infoByte:=by kernel_rfl,cellsByte:=by kernel_rfl,sizeByte:=by kernel_rfl,neB5:=by decide }
abbrev Eo(B b:Nat)(g:List UInt8)(w:World):Prop:=Lib.IsBuilder 81 5 B b (Lib.byteCells g) w
theorem nT{T e:TypeId}{B b:Nat}{bs:List Value}{w w':World}(h:Lib.IsBuilder T e B b bs w)(hb:Below w.heap.size w w'):Lib.IsBuilder T e B b bs w':=by
 have key:∀p,Lib.BuilderAt T e B b p bs w→Lib.BuilderAt T e B b p bs w':=by
  rintro p ⟨h1,v,h2,h3,h4⟩
  refine⟨h1,v,?_,?_,h4⟩
  ·rw [hb.block b (Array.getElem?_eq_some_iff.1 h2).1];exact h2
  ·refine⟨h3.1,?_⟩
   rcases h3.2 with hn| ⟨g,cap,cur,rfl,k1,k2,rest⟩
   ·exact .inl hn
   ·exact .inr ⟨g,cap,cur,rfl,k1,by rw [hb.block g (Array.getElem?_eq_some_iff.1 k2).1];exact k2,rest⟩
 rcases h with h|h
 ·exact .inl (key _ h)
 ·exact .inr (key _ h)
theorem mO{B B':Nat}{w w':World}(h:Below B' w w')(hB:B≤B'):Below B w w':=⟨h.os,h.tape,h.output,h.size,fun k hk=>h.block k (by omega)⟩
theorem sQ(B b:Nat)(g s:List UInt8)(w:World)(h:Eo B b g w)(hlen:g.length+s.length≤140737488355328)(hBw:B≤w.heap.size):
  Calls Try.prog 30 #[.pointer (some ⟨b,0,none⟩),.string (mkB s)] w fun e w'=>e=.returned (.tuple #[.int .i64 s.length,.nilIface])∧(Eo B b (g++s) w'∧Below B w w'):=
 (Any.Builder_WriteString Try.laysn166 A1 B b (Lib.byteCells g) (mkB s) w h (by rw [Lib.byteCells_length];exact hlen) hBw).mono fun e w' k=>by
  obtain⟨k1,k2,k3⟩:=k
  refine⟨k1,.inr ?_,k3⟩
  rw [Lib.byteCells_append,show Lib.byteCells s=Lib.strCells (mkB s) from(Lib.strCells_eq (mkB s)).symm]
  exact k2
theorem r9(B b:Nat)(g:List UInt8)(w:World)(h:Eo B b g w):
  Calls Try.prog 29 #[.pointer (some ⟨b,0,none⟩)] w fun e w'=>e=.returned (.int .i64 g.length)∧w'=w:=
 (Any.Builder_Len Try.laysn170 B b (Lib.byteCells g) w h).mono fun e w' k=>by rw [Lib.byteCells_length] at k;exact k
theorem NN(B b:Nat)(g:List UInt8)(w:World)(h:Eo B b g w)(hBw:B≤w.heap.size):
  Calls Try.prog 31 #[.pointer (some ⟨b,0,none⟩)] w fun e w'=>e=.returned (.string (mkB g))∧Below B w w':=
 Any.Builder_String_any Try.laysn169 A1 B b g w h hBw
theorem kX{P:Program}{f:FuncId}{us:List AV}{u:AV}{vs:List Value}{X:GW}(h:aT P f us [] (fun out H=>out=.ret u∧H=[]))(hl:vs.length=us.length)(hg:∀b n,X.g b=some n→b < X.w.heap.size)
  (hr:∀ (i:Nat) u x,us[i]? =some u→vs[i]? =some x→Rel X u x∧b7 (some u)=none):
  Calls P f vs.toArray X.w fun e w'=>∃X' y,e=.returned y∧X'.w=w'∧Rel X' u y∧Below X.w.heap.size X.w w'∧(∀b n,X'.g b=some n→b < w'.heap.size)∧∀b,b < X.w.heap.size→X'.g b=X.g b:=by
 have hnown:∀r,AS.own ⟨us.length,slotsOf 0 us,[],[]⟩ r=none:=by
  intro r
  cases r with
  |c k o=>rfl
  |s t=>
   simp only [AS.own]
   cases hlk:look (slotsOf 0 us) t with
   |none=>rfl
   |some u=>
    obtain⟨_,h2⟩:=cu us 0 t u hlk
    rw [Nat.sub_zero] at h2
    have ht:t < vs.length:=by rw [hl];exact(List.getElem?_eq_some_iff.1 h2).1
    exact(hr t u vs[t] h2 (List.getElem?_eq_getElem ht)).2
 have hs:SimE (fun b=>b < X.w.heap.size) X ⟨us.length,slotsOf 0 us,[],[]⟩ vs.toArray:=by
  refine⟨⟨by simp [hl],hg,fun b hb=>hb,fun t u hu=> ?_,fun k cs hk=>by simp [aP] at hk,fun x r hx=>by simp [aP] at hx,(fun r sz l ho=>by rw [hnown r] at ho;cases ho),(fun r r' sz l sz' l' a n c a' n' c' _ ho=>by rw [hnown r] at ho;cases ho)⟩,(fun p hp=>by cases hp)⟩
  obtain⟨_,h2⟩:=cu us 0 t u hu
  rw [Nat.sub_zero] at h2
  have ht:t < vs.length:=by rw [hl];exact(List.getElem?_eq_some_iff.1 h2).1
  have:vs.toArray.getD t undef=vs[t] :=by simp [ht]
  rw [this]
  exact(hr t u vs[t] h2 (List.getElem?_eq_getElem ht)).1
 refine(h.2 _ X vs.toArray hs).mono fun e w' ⟨X',out,H',p1,p2,p3,p4⟩=> ?_
 obtain⟨rfl,rfl⟩:=p2
 obtain⟨y,rfl,hy⟩:=p3
 subst p1
 exact⟨X',y,rfl,rfl,by simpa using hy.slot 0 u (by simp [aj]),⟨p4.os,p4.tape,p4.output,p4.size,fun b hb=>(p4.frame b hb).1⟩,hy.gb,fun b hb=>(p4.frame b hb).2⟩
theorem gM{B:Nat}{w w':World}{a:Addr}{v:Value}(hb:Below B w w')(ha:a.block < B)(h:w.cell? a=some v):w'.cell? a=some v:=by
 have:=hb.block a.block ha
 simp only [World.cell?,this] at h ⊢
 exact h
end Go.Proofs.Ytlhjbhgkhpbnfaa
namespace Go.Proofs.Ytlhjbhgkhpbnfaa
open Go.RowKit P
set_option linter.unusedSimpArgs false
set_option linter.unusedVariables false
theorem jo{F:Nat→Prop}{X:GW}{σ:AS}{tm:Array Value}(h:SimE F X σ tm){B o:Nat}{cs:List AV}(hb:look σ.h B=some cs)(hm:eG cs=false){v:Value}(hu:cs[o]? =some (.v v)):X.w.cell? ⟨B,o,none⟩=some v∧X.w.frozen? ⟨B,o,none⟩=false:=by
 obtain⟨_,_,arr,e,fr,h1,h2,h3,h4⟩:=(h.box B cs hb).cells hm
 have ho:o < arr.size:=by rw [h2];exact(List.getElem?_eq_some_iff.1 hu).1
 have hx:arr[o]? =some arr[o] :=Array.getElem?_eq_getElem ho
 have:=bK (h4 o _ _ hu hx)
 refine⟨?_,h3 o⟩
 rw [World.cell?,h1]
 show arr[o]? =some v
 rw [hx,this]
def yW(N:Nat)(m:List UInt8):Option (PR aG):=dB ⟨N,eL N N⟩ m 0 0 0 []
def cmH(s:List UInt8)(at_ gr:Int)(n:Nat)(l:List Vstep):List (Nat × TB EE.T):=[(100000,.cs [.d .str s,.d (.int .i64) at_,.d (.int .i64) gr,.vec (.nam 7) 200001 n]),(200001,.vec 200001 (.nam 7) l)]
def cmR(kx:Nat):Rn:=⟨fun i=>if i=100000 then⟨kx,false,[]⟩ else⟨0,true,[]⟩⟩
abbrev ro(W:World)(kx:Nat)(b:Nat):Prop:=b < W.heap.size∧b≠kx
theorem Hv(m:List UInt8)(W:World)(kx:Nat)(T:TypeId)(hk:W.heap[kx]? =some (.cells #[.string (mkB m),.int .i64 0,.int .i64 0,.slice none 0 0] T (0,0))):SimE (ro W kx) ⟨W,fun _=>none⟩ ⟨1,slotsOf 0 [.v (.pointer (some ⟨kx,0,none⟩))],[(kx,[.v (.string (mkB m)),.v (.int .i64 0),.v (.int .i64 0),.v (.slice none 0 0)])],[]⟩ #[.pointer (some ⟨kx,0,none⟩)] :=by
 refine⟨⟨rfl,fun b n h=>(by cases h),fun b h=>h.1,fun t u hu=> ?_,fun k cs hk'=> ?_,fun x r hx=>by simp [aP] at hx,fun r sz l ho=> ?_,fun r r' sz l sz' l' a n c a' n' c' _ ho=> ?_⟩,fun p hp=>by cases hp⟩
 ·simp only [slotsOf,aj,aP] at hu
  split at hu
  ·rename_i e;subst e;cases hu;exact .v _
  ·cases hu
 ·simp only [aj,aP] at hk'
  split at hk'
  ·rename_i e
   subst e
   cases hk'
   refine dg.box ⟨rfl,fun h=>h.2 rfl,_,_,_,hk,rfl,fun o=>by simp [World.frozen?,hk],fun o u x hu hx=> ?_⟩
   match o,hu,hx with
   |0,hu,hx=>simp at hu hx;subst hu hx;exact .v _
   |1,hu,hx=>simp at hu hx;subst hu hx;exact .v _
   |2,hu,hx=>simp at hu hx;subst hu hx;exact .v _
   |3,hu,hx=>simp at hu hx;subst hu hx;exact .v _
   |n+4,hu,hx=>simp at hu
  ·cases hk'
 all_goals
  exfalso
  cases r with
  |s t=>
   simp only [AS.own,slotsOf,aj,aP] at ho
   split at ho<;> cases ho
  |c k o=>
   simp only [AS.own,aj,aP] at ho
   split at ho
   ·rename_i cs hcs
    split at hcs
    ·cases hcs
     match o,ho with
     |0,ho=>cases ho
     |1,ho=>cases ho
     |2,ho=>cases ho
     |3,ho=>cases ho
     |n+4,ho=>simp [b7] at ho
    ·cases hcs
   ·cases ho
theorem BG{N:Nat}(m:List UInt8)(W:World)(kx:Nat)(T:TypeId)(hk:W.heap[kx]? =some (.cells #[.string (mkB m),.int .i64 0,.int .i64 0,.slice none 0 0] T (0,0))){r:PR aG}(h:yW N m=some r):
  Calls Try.prog 34 #[.pointer (some ⟨kx,0,none⟩)] W fun e w'=>∃X':GW,X'.w=w'∧Ext (ro W kx) ⟨W,fun _=>none⟩ X'∧match r with
   |.ok z=>e=.returned (.bool z.1)∧∃ρ:Rn,ρ 100000=kx∧Inj ρ (cmH z.2.1 z.2.2.1 z.2.2.2.1 z.2.2.2.2.1 z.2.2.2.2.2)∧SimE (ro W kx) X' ⟨1,[(0,.v (.bool z.1))],hTo EE.toEnc ρ (cmH z.2.1 z.2.2.1 z.2.2.2.1 z.2.2.2.2.1 z.2.2.2.2.2),[]⟩ #[.bool z.1]
   |.pan v=>e=.panicked [{ v:=v,recovered:=false }] :=by
 have hinj:Inj (cmR kx) (cmH m 0 0 0 []):=by
  intro p hp q hq
  simp only [cmH,List.mem_cons,List.not_mem_nil,or_false] at hp hq
  rcases hp with rfl|rfl<;> rcases hq with rfl|rfl
  ·exact⟨fun _ _ _=>rfl,fun _=>rfl⟩
  ·exact⟨(fun _ h2 _=>by cases h2),(fun h=>by cases h)⟩
  ·exact⟨(fun h1 _ _=>by cases h1),(fun h=>by cases h)⟩
  ·exact⟨fun _ _ _=>rfl,fun _=>rfl⟩
 have hc:=gA (ic N N) m 0 0 0 [] h (cmR kx) hinj
 refine(hc.2 (ro W kx) ⟨W,fun _=>none⟩ #[.pointer (some ⟨kx,0,none⟩)] (Hv m W kx T hk)).mono ?_
 rintro e w' ⟨X',out,H',rfl,hp,he,hx⟩
 refine⟨X',rfl,hx,?_⟩
 obtain⟨q,ρ,rfl,ha,hq⟩:=hp
 cases r with
 |ok z=>
  obtain⟨rfl,rfl,hi⟩:=hq
  obtain⟨v,rfl,hs⟩:=he
  have hv:v=.bool z.1:=by
   have:=bK (hs.slot 0 (.v (.bool z.1)) (by exact bY))
   simpa using this
  subst hv
  refine⟨rfl,ρ,?_,hi,hs⟩
  have:=ha 100000 rfl
  show(ρ.k 100000).b=kx
  rw [this];rfl
 |pan v=>
  obtain⟨rfl,rfl⟩:=hq
  exact he.1
theorem SimE.args{F:Nat→Prop}{X:GW}{n:Nat}{t:List (Nat × AV)}{H:List (Nat × List AV)}{tm vs:Array Value}{us:List AV}(h:SimE F X ⟨n,t,H,[]⟩ tm)(hl:vs.size=us.length)(hu:∀ (i:Nat) u,us[i]? =some u→Rel X u (vs.getD i undef)∧b7 (some u)=none):SimE F X ⟨us.length,slotsOf 0 us,H,[]⟩ vs:=by
 have hnoc:∀ (s sz:Nat) l,AS.own ⟨us.length,slotsOf 0 us,H,[]⟩ (.s s)=some (sz,l)→False:=fun s sz l ho=>by
  simp only [AS.own] at ho
  cases hlk:look (slotsOf 0 us) s with
  |none=>rw [hlk] at ho;cases ho
  |some u=>
   obtain⟨_,h2⟩:=cu us 0 s u hlk
   rw [Nat.sub_zero] at h2
   rw [hlk,(hu s u h2).2] at ho
   cases ho
 refine h.other hl h.fb (fun s u hs=> ?_) (fun k cs hk=>⟨hk,(h.box k cs hk).nF⟩) rfl (fun r=>r) (fun r sz l ho=>.inr ?_) (fun _ _ _ _ _ _ _ _ hne _ _ _ _=>hne)
 ·obtain⟨_,h2⟩:=cu us 0 s u hs
  rw [Nat.sub_zero] at h2
  exact(hu s u h2).1
 ·cases r with
  |s s=>exact(hnoc s sz l ho).elim
  |c k o=>exact⟨ho,rfl,fun q n c hr=>(h.own_nF (r:=.c k o) ho hr).1⟩
theorem L0{F:Nat→Prop}{X:GW}{n:Nat}{t:List (Nat × AV)}{tm:Array Value}{kx:Nat}{ρ:Rn}{s:List UInt8}{at_ gr:Int}{k:Nat}{l:List Vstep}(hs:SimE F X ⟨n,t,hTo EE.toEnc ρ (cmH s at_ gr k l),[]⟩ tm)(hk:ρ 100000=kx)(hi:Inj ρ (cmH s at_ gr k l))(e a:Int):
  Calls Try.prog 35 #[.pointer (some ⟨kx,0,none⟩),.int .i64 e,.int .i64 a] X.w fun x w'=>x=.panicked [{ v:=faultV e a,recovered:=false }] ∧∃X':GW,X'.w=w'∧Ext F X X':=by
 have hc:=gF (N:=0) e a s at_ gr k l (r:=.pan (faultV e a)) rfl ρ hi
 subst hk
 refine(hc.2 F X #[.pointer (some ⟨ρ 100000,0,none⟩),.int .i64 e,.int .i64 a] (hs.args rfl fun i u hu=> ?_)).mono ?_
 ·match i,hu with
  |0,hu=>cases hu;exact⟨.v _,rfl⟩
  |1,hu=>cases hu;exact⟨.v _,rfl⟩
  |2,hu=>cases hu;exact⟨.v _,rfl⟩
  |n+3,hu=>cases hu
 ·rintro x w' ⟨X',out,H',rfl,hp,he,hx⟩
  obtain⟨q,ρ',rfl,ha,hq⟩:=hp
  obtain⟨rfl,rfl⟩:=hq
  exact⟨he.1,X',rfl,hx⟩
def CH:Vstep:=⟨4,0,0,none⟩
theorem Nm{F:Nat→Prop}{X:GW}{n:Nat}{t:List (Nat × AV)}{tm:Array Value}{kx:Nat}{ρ:Rn}{s:List UInt8}{at_ gr:Int}{k:Nat}{l l':List Vstep}(hs:SimE F X ⟨n,t,hTo EE.toEnc ρ (cmH s at_ gr k l),[]⟩ tm)(hk:ρ 100000=kx)(hi:Inj ρ (cmH s at_ gr k l))(hv:rp 32 k l [CH] =some l'):
  Calls Try.prog 36 #[.pointer (some ⟨kx,0,none⟩),.agg #[.int .i64 4,.int .i64 0,.int .i64 0,.pointer none]] X.w fun x w'=>(∃v,x=.returned v)∧∃X':GW,X'.w=w'∧Ext F X X'∧∃ (ρ':Rn) (t':List (Nat × AV)) (tm':Array Value),ρ' 100000=kx∧Inj ρ' (cmH s at_ gr l'.length l')∧SimE F X' ⟨1,t',hTo EE.toEnc ρ' (cmH s at_ gr l'.length l'),[]⟩ tm':=by
 have hc:=gR (N:=0) CH s at_ gr k l (r:=.ok (w64 ((l'.length:Int) - 1),s,at_,gr,l'.length,l')) (by unfold aC;rw [hv];rfl) ρ hi
 subst hk
 refine(hc.2 F X #[.pointer (some ⟨ρ 100000,0,none⟩),.agg #[.int .i64 4,.int .i64 0,.int .i64 0,.pointer none]] (hs.args rfl fun i u hu=> ?_)).mono ?_
 ·match i,hu with
  |0,hu=>cases hu;exact⟨.v _,rfl⟩
  |1,hu=>
   cases hu
   refine⟨.ag _ #[_,_,_,_] rfl (fun i u x hu hx=> ?_),rfl⟩
   match i,hu,hx with
   |0,hu,hx=>cases hu;cases hx;exact .v _
   |1,hu,hx=>cases hu;cases hx;exact .v _
   |2,hu,hx=>cases hu;cases hx;exact .v _
   |3,hu,hx=>cases hu;cases hx;exact .v _
   |n+4,hu,hx=>cases hu
  |n+2,hu=>cases hu
 ·rintro x w' ⟨X',out,H',rfl,hp,he,hx⟩
  obtain⟨q,ρ',rfl,ha,hq⟩:=hp
  obtain⟨rfl,rfl,hi'⟩:=hq
  obtain⟨v,rfl,hs'⟩:=he
  exact⟨⟨v,rfl⟩,X',rfl,hx,ρ',_,_,congrArg Bk.b (ha 100000 rfl),hi',hs'⟩
end Go.Proofs.Ytlhjbhgkhpbnfaa
namespace Go.Proofs.Ytlhjbhgkhpbnfaa
open Go.RowKit P
set_option linter.unusedSimpArgs false
set_option linter.unusedVariables false
theorem Fu(W:World)(k2 k3:Nat)(hne:k2≠k3)(p:Value)(e a:Int)(T2 T3:TypeId)(h2:W.heap[k2]? =some (.cells #[p] T2 (0,0)))(h3:W.heap[k3]? =some (.cells #[.int .i64 e,.int .i64 a] T3 (0,0))):
  SimE (fun b=>b < W.heap.size∧b≠k2∧b≠k3) ⟨W,fun _=>none⟩ ⟨2,slotsOf 0 [.v (.pointer (some ⟨k2,0,none⟩)),.v (.pointer (some ⟨k3,0,none⟩))],[(k2,[.v p]),(k3,[.v (.int .i64 e),.v (.int .i64 a)])],[]⟩ #[.pointer (some ⟨k2,0,none⟩),.pointer (some ⟨k3,0,none⟩)] :=by
 have hno:∀r sz l,AS.own ⟨2,slotsOf 0 [.v (.pointer (some ⟨k2,0,none⟩)),.v (.pointer (some ⟨k3,0,none⟩))],[(k2,[.v p]),(k3,[.v (.int .i64 e),.v (.int .i64 a)])],[]⟩ r=some (sz,l)→False:=by
  intro r sz l ho
  cases r with
  |s t=>
   simp only [AS.own,slotsOf,aj,aP] at ho
   split at ho
   ·cases ho
   ·split at ho<;> cases ho
  |c k o=>
   simp only [AS.own,aj,aP] at ho
   split at ho
   ·rename_i cs hcs
    split at hcs
    ·cases hcs
     match o,ho with
     |0,ho=>cases ho
     |n+1,ho=>simp [b7] at ho
    ·split at hcs
     ·cases hcs
      match o,ho with
      |0,ho=>cases ho
      |1,ho=>cases ho
      |n+2,ho=>simp [b7] at ho
     ·cases hcs
   ·cases ho
 refine⟨⟨rfl,fun b n h=>(by cases h),fun b h=>h.1,fun t u hu=> ?_,fun k cs hk'=> ?_,fun x r hx=>by simp [aP] at hx,fun r sz l ho=>(hno r sz l ho).elim,fun r r' sz l sz' l' a n c a' n' c' _ ho=>(hno r sz l ho).elim⟩,fun p hp=>by cases hp⟩
 ·simp only [slotsOf,aj,aP] at hu
  split at hu
  ·rename_i e;subst e;cases hu;exact .v _
  ·split at hu
   ·rename_i e;subst e;cases hu;exact .v _
   ·cases hu
 ·simp only [aj,aP] at hk'
  split at hk'
  ·rename_i e
   subst e
   cases hk'
   refine dg.box ⟨rfl,fun h=>h.2.1 rfl,_,_,_,h2,rfl,fun o=>by simp [World.frozen?,h2],fun o u x hu hx=> ?_⟩
   match o,hu,hx with
   |0,hu,hx=>simp at hu hx;subst hu hx;exact .v _
   |n+1,hu,hx=>simp at hu
  ·split at hk'
   ·rename_i e
    subst e
    cases hk'
    refine dg.box ⟨rfl,fun h=>h.2.2 rfl,_,_,_,h3,rfl,fun o=>by simp [World.frozen?,h3],fun o u x hu hx=> ?_⟩
    match o,hu,hx with
    |0,hu,hx=>simp at hu hx;subst hu hx;exact .v _
    |1,hu,hx=>simp at hu hx;subst hu hx;exact .v _
    |n+2,hu,hx=>simp at hu
   ·cases hk'
theorem CK(W:World)(k2 k3:Nat)(hne:k2≠k3)(e a:Int)(T2 T3:TypeId)(h2:W.heap[k2]? =some (.cells #[.pointer none] T2 (0,0)))(h3:W.heap[k3]? =some (.cells #[.int .i64 0,.int .i64 0] T3 (0,0))):
  CallsD Try.prog 33 #[.pointer (some ⟨k2,0,none⟩),.pointer (some ⟨k3,0,none⟩)] (.panicking [{ v:=faultV e a,recovered:=false }]) W fun x u' w'=>u'=.panicking [{ v:=faultV e a,recovered:=true }] ∧(∃v,x=.returned v)∧w'.cell? ⟨k2,0,none⟩=some (.pointer none)∧w'.cell? ⟨k3,0,none⟩=some (.int .i64 e)∧w'.cell? ⟨k3,1,none⟩=some (.int .i64 a)∧(∃X':GW,X'.w=w'∧Ext (fun b=>b < W.heap.size∧b≠k2∧b≠k3) ⟨W,fun _=>none⟩ X'):=by
 refine(Kr k2 k3 e a hne _ ⟨W,fun _=>none⟩ _ (Fu W k2 k3 hne _ 0 0 T2 T3 h2 h3)).mono ?_
 rintro x u' w' ⟨rfl,X',out,H',rfl,⟨rfl,l2,l3⟩,⟨v,rfl,hs⟩,hx⟩
 exact⟨rfl,⟨v,rfl⟩,(jo hs l2 rfl rfl).1,(jo hs l3 rfl rfl).1,(jo hs l3 rfl rfl).1,X',rfl,hx⟩
theorem Jv(W:World)(k2 k3:Nat)(hne:k2≠k3)(p:Value)(e a:Int)(T2 T3:TypeId)(h2:W.heap[k2]? =some (.cells #[p] T2 (0,0)))(h3:W.heap[k3]? =some (.cells #[.int .i64 e,.int .i64 a] T3 (0,0))):
  CallsD Try.prog 33 #[.pointer (some ⟨k2,0,none⟩),.pointer (some ⟨k3,0,none⟩)] .returning W fun x u' w'=>u'=.returning∧(∃v,x=.returned v)∧w'.cell? ⟨k2,0,none⟩=some p∧w'.cell? ⟨k3,0,none⟩=some (.int .i64 e)∧w'.cell? ⟨k3,1,none⟩=some (.int .i64 a)∧(∃X':GW,X'.w=w'∧Ext (fun b=>b < W.heap.size∧b≠k2∧b≠k3) ⟨W,fun _=>none⟩ X'):=by
 refine(Jx k2 k3 (.v p) (.v (.int .i64 e)) (.v (.int .i64 a)) hne _ ⟨W,fun _=>none⟩ _ (Fu W k2 k3 hne p e a T2 T3 h2 h3)).mono ?_
 rintro x u' w' ⟨rfl,X',out,H',rfl,⟨rfl,l2,l3⟩,⟨v,rfl,hs⟩,hx⟩
 exact⟨rfl,⟨v,rfl⟩,(jo hs l2 rfl rfl).1,(jo hs l3 rfl rfl).1,(jo hs l3 rfl rfl).1,X',rfl,hx⟩
theorem eS(w:World)(o:Obj):(w.alloc o).heap.size=w.heap.size+1:=by unfold World.alloc;exact Array.size_push ..
abbrev cpW(m:List UInt8)(w:World):World:=((w.alloc (.cells #[.pointer none] 54)).alloc (.cells #[.int .i64 0,.int .i64 0] 28)).alloc (.cells #[.string (mkB m),.int .i64 0,.int .i64 0,.slice none 0 0] 97)
theorem dN(m:List UInt8)(w:World):(cpW m w).heap.size=w.heap.size+1+1+1:=by rw [eS,eS,eS]
theorem E6(m:List UInt8)(w:World):(cpW m w).heap[w.heap.size+1+1]? =some (.cells #[.string (mkB m),.int .i64 0,.int .i64 0,.slice none 0 0] 97 (0,0)):=by
 have:=heap_alloc_new ((w.alloc (.cells #[.pointer none] 54)).alloc (.cells #[.int .i64 0,.int .i64 0] 28)) (.cells #[.string (mkB m),.int .i64 0,.int .i64 0,.slice none 0 0] 97)
 rwa [eS,eS] at this
theorem EN(m:List UInt8)(w:World):(cpW m w).heap[w.heap.size+1]? =some (.cells #[.int .i64 0,.int .i64 0] 28 (0,0)):=by
 rw [Below.heap_alloc _ _ _ (by rw [eS,eS];omega)]
 have:=heap_alloc_new (w.alloc (.cells #[.pointer none] 54)) (.cells #[.int .i64 0,.int .i64 0] 28)
 rwa [eS] at this
theorem HE(m:List UInt8)(w:World):(cpW m w).heap[w.heap.size]? =some (.cells #[.pointer none] 54 (0,0)):=by
 rw [Below.heap_alloc _ _ _ (by rw [eS,eS];omega),Below.heap_alloc _ _ _ (by rw [eS];omega)]
 exact heap_alloc_new w (.cells #[.pointer none] 54)
theorem qB(m:List UInt8)(w:World):Below w.heap.size w (cpW m w):=(((Below.refl _ w).alloc (Nat.le_refl _) _).alloc (by rw [eS];omega) _).alloc (by rw [eS,eS];omega) _
theorem gl{B:Nat}{F:Nat→Prop}{X X':GW}(h:Ext F X X')(hF:∀b,b < B→F b):Below B X.w X'.w:=⟨h.os,h.tape,h.output,h.size,fun b hb=>(h.frame b (hF b hb)).1⟩
set_option maxRecDepth 100000 in
set_option maxHeartbeats 4000000 in
theorem yT{N:Nat}(m:List UInt8)(hm:m.length≤60)(e a:Int)(h:yW N m=some (.pan (faultV e a)))(w:World):
  Calls Try.prog 21 #[.string (mkB m)] w fun x w'=>x=.returned (.tuple #[.pointer none,.agg #[.int .i64 e,.int .i64 a]])∧Below w.heap.size w w':=by
 have hsize:= @jF
 have hmf:∀ (fn:Fn) (first cap:Array Value) (w:World),(Instr.makeFunc fn first cap).run Try.prog w=.ok (.func fn first cap) w:=fun _ _ _ _=>rfl
 have hmw:=BG m (cpW m w) (w.heap.size+1+1) _ (E6 m w) h
 go_enter_defers Try.func21,Try.ntmps21
 go_wp2_with (go_at_call 34;refine hmw.mono ?_)
 intro x w' X1 hw hx1 hpan
 subst hw hpan
 have hne:w.heap.size≠w.heap.size+1:=by omega
 have f2:=(hx1.frame w.heap.size ⟨by rw [dN];omega,by omega⟩).1
 have f3:=(hx1.frame (w.heap.size+1) ⟨by rw [dN];omega,by omega⟩).1
 have hb1:Below w.heap.size w X1.w:=(qB m w).trans (gl hx1 fun b hb=>⟨by rw [dN];omega,by omega⟩)
 have hclo:=CK X1.w w.heap.size (w.heap.size+1) hne e a _ _ (f2.trans (HE m w)) (f3.trans (EN m w))
 show bodyPostD _ _ _ _ _ _
 refine leaves_cons (f:=33) (args:= #[.pointer (some ⟨w.heap.size,0,none⟩),.pointer (some ⟨w.heap.size+1,0,none⟩)]) (by simp) (by simp [go_sem]) ?_
 refine hclo.mono ?_
 rintro y u' w2 ⟨rfl,⟨v,rfl⟩,c2,c3,c4,X2,rfl,hx2⟩
 simp [Leaves,settle,results,Try.results21,go_sem,c2,c3,c4]
 have hz:=gl (B:=w.heap.size) hx2 fun b hb=>⟨Nat.lt_of_lt_of_le hb hb1.size,by omega,by omega⟩
 exact hb1.trans hz
theorem uP{F:Nat→Prop}{X:GW}{n:Nat}{t:List (Nat × AV)}{tm:Array Value}{kx:Nat}{ρ:Rn}{s:List UInt8}{at_ gr:Int}{k:Nat}{l:List Vstep}(hs:SimE F X ⟨n,t,hTo EE.toEnc ρ (cmH s at_ gr k l),[]⟩ tm)(hk:ρ 100000=kx):X.w.cell? ⟨kx,1,none⟩=some (.int .i64 at_)∧X.w.cell? ⟨kx,2,none⟩=some (.int .i64 gr)∧X.w.cell? ⟨kx,3,none⟩=some (vecV (ρ.k 200001) 4 k):=by
 subst hk
 have hb:look (hTo EE.toEnc ρ (cmH s at_ gr k l)) (ρ 100000)=some [.v (.string (mkB s)),.v (.int .i64 at_),.v (.int .i64 gr),.v (vecV (ρ.k 200001) 4 k)] :=bY
 exact⟨(jo hs hb rfl rfl).1,(jo hs hb rfl rfl).1,(jo hs hb rfl rfl).1⟩
set_option maxRecDepth 100000 in
set_option maxHeartbeats 4000000 in
theorem xy{N:Nat}(m:List UInt8)(hm:m.length≤60){emp:Bool}{s:List UInt8}{at_ gr:Int}{k:Nat}{l:List Vstep}(h:yW N m=some (.ok (emp,s,at_,gr,k,l)))(hat:at_ < (m.length:Int))(w:World):
  Calls Try.prog 21 #[.string (mkB m)] w fun x w'=>x=.returned (.tuple #[.pointer none,.agg #[.int .i64 1,.int .i64 at_]])∧Below w.heap.size w w':=by
 have hsize:= @jF
 have hmf:∀ (fn:Fn) (first cap:Array Value) (w:World),(Instr.makeFunc fn first cap).run Try.prog w=.ok (.func fn first cap) w:=fun _ _ _ _=>rfl
 have hmw:=BG m (cpW m w) (w.heap.size+1+1) _ (E6 m w) h
 go_enter_defers Try.func21,Try.ntmps21
 go_wp2_with (go_at_call 34;refine hmw.mono ?_)
 intro x w' X1 hw hx1 hx ρ hρ hi hs
 subst hw hx
 obtain⟨c1,c2,c3⟩:=uP hs hρ
 have hne:w.heap.size≠w.heap.size+1:=by omega
 have f2:=(hx1.frame w.heap.size ⟨by rw [dN];omega,by omega⟩).1
 have f3:=(hx1.frame (w.heap.size+1) ⟨by rw [dN];omega,by omega⟩).1
 have hb1:Below w.heap.size w X1.w:=(qB m w).trans (gl hx1 fun b hb=>⟨by rw [dN];omega,by omega⟩)
 have hfw:=L0 hs hρ hi 1 at_
 go_wp2_with (go_at_call 35;refine hfw.mono ?_)
 rintro x w' ⟨hx,X2,hw,hx2⟩
 subst hw hx
 have g2:=(hx2.frame w.heap.size ⟨by rw [dN];omega,by omega⟩).1
 have g3:=(hx2.frame (w.heap.size+1) ⟨by rw [dN];omega,by omega⟩).1
 have hb2:Below w.heap.size w X2.w:=hb1.trans (gl hx2 fun b hb=>⟨by rw [dN];omega,by omega⟩)
 have hclo:=CK X2.w w.heap.size (w.heap.size+1) hne 1 at_ _ _ (g2.trans (f2.trans (HE m w))) (g3.trans (f3.trans (EN m w)))
 show bodyPostD _ _ _ _ _ _
 refine leaves_cons (f:=33) (args:= #[.pointer (some ⟨w.heap.size,0,none⟩),.pointer (some ⟨w.heap.size+1,0,none⟩)]) (by simp) (by simp [go_sem]) ?_
 refine hclo.mono ?_
 rintro y u' w2 ⟨rfl,⟨v,rfl⟩,c2,c3,c4,X3,rfl,hx3⟩
 simp [Leaves,settle,results,Try.results21,go_sem,c2,c3,c4]
 have hz:=gl (B:=w.heap.size) hx3 fun b hb=>⟨Nat.lt_of_lt_of_le hb hb2.size,by omega,by omega⟩
 exact hb2.trans hz
set_option maxRecDepth 100000 in
theorem yO(m:List UInt8)(hm:60 < m.length)(w:World):
  Calls Try.prog 21 #[.string (mkB m)] w fun x w'=>x=.returned (.tuple #[.pointer none,.agg #[.int .i64 2,.int .i64 0]])∧Below w.heap.size w w':=by
 have hsize:= @jF
 go_enter_defers Try.func21,Try.ntmps21
 go_wp2
 simp [bodyPostD,Leaves,settle,results,Try.results21,go_sem]
 exact((Below.refl _ w).alloc (Nat.le_refl _) _).alloc (by rw [eS];omega) _
theorem L1(b:Bk)(sz n:Nat)(hn:n≠0):vecV b sz n=.slice (some ⟨b.b,0,none⟩) n (n+b.sp.length / sz):=by
 unfold vecV
 rw [if_neg]
 simp only [Bool.and_eq_true,not_and]
 intro _ h
 exact hn (Nat.eq_of_beq_eq_true h)
theorem uO{w:World}{b:Nat}{cs:Array Value}{T:TypeId}(h:w.heap[b]? =some (.cells cs T (0,0)))(o:Nat):w.frozen? ⟨b,o,none⟩=false:=by simp [World.frozen?,h]
theorem qW{U:World}{b:Nat}{cs:Array Value}{T:TypeId}{fr:Nat × Nat}(h:U.heap[b]? =some (.cells cs T fr))(o:Nat)(v:Value):(U.setCell ⟨b,o,none⟩ v).heap[b]? =some (.cells (cs.setIfInBounds o v) T fr):=by
 simp [World.setCell,Array.getElem?_modify,h]
abbrev enW(U:World)(k2 k3:Nat)(p:Value):World:=(((U.setCell ⟨k2,0,none⟩ p).setCell ⟨k3,0,none⟩ (.int .i64 0)).setCell ⟨k3,1,none⟩ (.int .i64 0)).drew
theorem NL{U:World}{k2 k3:Nat}{p q:Value}{T:TypeId}(hne:k2≠k3)(h:U.heap[k2]? =some (.cells #[q] T (0,0))):(enW U k2 k3 p).heap[k2]? =some (.cells #[p] T (0,0)):=by
 show(((U.setCell ⟨k2,0,none⟩ p).setCell ⟨k3,0,none⟩ (.int .i64 0)).setCell ⟨k3,1,none⟩ (.int .i64 0)).heap[k2]? =_
 rw [Below.heap_setCell _ _ _ _ hne,Below.heap_setCell _ _ _ _ hne]
 exact qW h 0 p
theorem ML{U:World}{k2 k3:Nat}{p a b:Value}{T:TypeId}(hne:k2≠k3)(h:U.heap[k3]? =some (.cells #[a,b] T (0,0))):(enW U k2 k3 p).heap[k3]? =some (.cells #[.int .i64 0,.int .i64 0] T (0,0)):=by
 have h1:(U.setCell ⟨k2,0,none⟩ p).heap[k3]? =some (.cells #[a,b] T (0,0)):=by rw [Below.heap_setCell _ _ _ _ (Ne.symm hne)];exact h
 exact qW (qW h1 0 (.int .i64 0)) 1 (.int .i64 0)
theorem KL{U:World}{k2 k3 b:Nat}{p:Value}(h2:b≠k2)(h3:b≠k3):(enW U k2 k3 p).heap[b]? =U.heap[b]? :=by
 show(((U.setCell ⟨k2,0,none⟩ p).setCell ⟨k3,0,none⟩ (.int .i64 0)).setCell ⟨k3,1,none⟩ (.int .i64 0)).heap[b]? =_
 rw [Below.heap_setCell _ _ _ _ h3,Below.heap_setCell _ _ _ _ h3,Below.heap_setCell _ _ _ _ h2]
theorem H8(U:World)(k2 k3:Nat)(p:Value):(enW U k2 k3 p).heap.size=U.heap.size:=by
 show(((U.setCell ⟨k2,0,none⟩ p).setCell ⟨k3,0,none⟩ (.int .i64 0)).setCell ⟨k3,1,none⟩ (.int .i64 0)).heap.size=_
 simp [World.setCell]
theorem Ar{F:Nat→Prop}{X2 X4:GW}{w:World}{n k2 k3:Nat}{t2:List (Nat × AV)}{tm2:Array Value}{ρ2:Rn}{s:List UInt8}{at_ gr:Int}{l':List Vstep}{p:Value}{T:TypeId}(hs2:SimE F X2 ⟨n,t2,hTo EE.toEnc ρ2 (cmH s at_ gr l'.length l'),[]⟩ tm2)(hi2:Inj ρ2 (cmH s at_ gr l'.length l'))(hl0:l'.length≠0)
  (hF2:F k2) (hF3:F k3) (g2:X2.g k2=none) (g3:X2.g k3=none) (hg:∀b,b < w.heap.size→F b∧X2.g b=none) (hk2:w.heap.size≤k2) (hk3:w.heap.size≤k3) (hkm2:k2 < X2.w.heap.size) (hkm3:k3 < X2.w.heap.size)
  (hx4:Ext (fun b=>b < (enW (X2.w.alloc (.cells #[.int .i64 gr,.slice (some ⟨(ρ2.k 200001).b,0,none⟩) l'.length (l'.length+ (ρ2.k 200001).sp.length / 4)] T)) k2 k3 p).heap.size∧b≠k2∧b≠k3) ⟨enW (X2.w.alloc (.cells #[.int .i64 gr,.slice (some ⟨(ρ2.k 200001).b,0,none⟩) l'.length (l'.length+ (ρ2.k 200001).sp.length / 4)] T)) k2 k3 p,fun _=>none⟩ X4) (hb:Below w.heap.size w X2.w):
  ∃X':GW,X'.w=X4.w∧Ext (fun b=>b < w.heap.size) ⟨w,fun _=>none⟩ X'∧SimE (fun b=>b < w.heap.size) X' ⟨1,[],[(X2.w.heap.size,[.v (.int .i64 gr),.sl false 4 (l'.map (cells EE.toEnc (.nam 7)))])],[]⟩ #[undef] :=by
 have hlive:ba ρ2 (.vec 200001 (.nam 7) l':TB EE.T)=true:=by
  cases l' with
  |nil=>exact absurd rfl hl0
  |cons x xs=>
   show(!((ρ2.k 200001).nil && false))=true
   rw [Bool.and_false];rfl
 have hto:hTo EE.toEnc ρ2 (cmH s at_ gr l'.length l')=[(ρ2 100000,[.v (.string (mkB s)),.v (.int .i64 at_),.v (.int .i64 gr),.v (vecV (ρ2.k 200001) 4 l'.length)]),(ρ2 200001,(l'.map (cells EE.toEnc (.nam 7))).flatten++ (ρ2.k 200001).sp.map AV.v)] :=by
  show List.map _ (List.filter _ [_,_])=_
  rw [List.filter_cons_of_pos (by rfl),List.filter_cons_of_pos (by exact hlive)]
  rfl
 have hnk:ρ2 200001≠ρ2 100000:=fun e=>by
  have:=(hi2 _ (List.mem_cons_self) _ (List.mem_cons_of_mem _ List.mem_cons_self)).1 rfl hlive e.symm
  cases this
 have hbv:look (hTo EE.toEnc ρ2 (cmH s at_ gr l'.length l')) (ρ2 200001)=some ((l'.map (cells EE.toEnc (.nam 7))).flatten++ (ρ2.k 200001).sp.map AV.v):=by
  rw [hto];exact ez hnk bY
 obtain⟨X3,hw3,hs3,hfz,hx3⟩:=hs2.freeze hbv (by
  cases l' with
  |nil=>exact absurd rfl hl0
  |cons x xs=>rfl)
 have hlen:(l'.map (cells EE.toEnc (.nam 7))).length=l'.length:=List.length_map _
 have hrel:Rel X3 (.sl false 4 (l'.map (cells EE.toEnc (.nam 7)))) (.slice (some ⟨(ρ2.k 200001).b,0,none⟩) l'.length (l'.length+ (ρ2.k 200001).sp.length / 4)):=by
  have:=hfz.sl (sz:=4) (L:=l'.map (cells EE.toEnc (.nam 7))) (sp:=(ρ2.k 200001).sp.map AV.v) (c:=l'.length+ (ρ2.k 200001).sp.length / 4) rfl (fun r hr=>by
   obtain⟨z,_,rfl⟩:=List.mem_map.1 hr
   rfl) (by rw [hlen];exact Nat.le_add_right _ _)
  rwa [hlen] at this
 have n2:X3.g k2=none:=(hx3.frame k2 hF2).2.trans g2
 have n3:X3.g k3=none:=(hx3.frame k3 hF3).2.trans g3
 have hgb:∀b m,X3.g b=some m→b < X2.w.heap.size:=fun b m h=>by rw [← hw3];exact hs3.gb b m h
 have hus:∀o:Obj,(enW (X2.w.alloc o) k2 k3 p).heap.size=X2.w.heap.size+1:=fun o=>by rw [H8,eS]
 have hheap:∀b,b < X2.w.heap.size→b≠k2→b≠k3→X4.w.heap[b]? =X2.w.heap[b]? :=fun b hlt e2 e3=>by
  rw [(hx4.frame b ⟨by rw [hus];omega,e2,e3⟩).1]
  show(enW _ k2 k3 p).heap[b]? =_
  rw [KL e2 e3]
  exact Below.heap_alloc _ _ _ hlt
 have hkm:X4.w.heap[X2.w.heap.size]? =some (.cells #[.int .i64 gr,.slice (some ⟨(ρ2.k 200001).b,0,none⟩) l'.length (l'.length+ (ρ2.k 200001).sp.length / 4)] T (0,0)):=by
  rw [(hx4.frame X2.w.heap.size ⟨by rw [hus];omega,by omega,by omega⟩).1]
  show(enW _ k2 k3 p).heap[X2.w.heap.size]? =_
  rw [KL (by omega) (by omega)]
  exact heap_alloc_new X2.w _
 have hsize:X2.w.heap.size+1≤X4.w.heap.size:=by
  have:=hx4.size
  rw [hus] at this
  exact this
 have hpres:ke X3 ⟨X4.w,X3.g⟩:=fun b m h=>⟨m,Nat.le_refl _,h,fun j hj=>by
  have hlt:=hgb b m h
  have e2:b≠k2:=fun e=>by rw [e,n2] at h;cases h
  have e3:b≠k3:=fun e=>by rw [e,n3] at h;cases h
  have:=hheap b hlt e2 e3
  rw [← hw3] at this
  simp only [World.cell?,this]⟩
 have hbel:Below w.heap.size w X4.w:=by
  refine⟨hx4.os.trans hb.os,hx4.tape.trans hb.tape,hx4.output.trans hb.output,by have:=hb.size;omega,fun b hlt=> ?_⟩
  rw [hheap b (by have:=hb.size;omega) (by omega) (by omega)]
  exact hb.block b hlt
 refine⟨⟨X4.w,X3.g⟩,rfl,⟨hbel.os,hbel.tape,hbel.output,hbel.size,fun b hlt=>⟨hbel.block b hlt,(hx3.frame b (hg b hlt).1).2.trans (hg b hlt).2⟩,fun b m h=>by cases h⟩,?_⟩
 have hno:∀r sz l,AS.own ⟨1,[],[(X2.w.heap.size,[.v (.int .i64 gr),.sl false 4 (l'.map (cells EE.toEnc (.nam 7)))])],[]⟩ r=some (sz,l)→False:=by
  intro r sz l ho
  cases r with
  |s t=>simp [AS.own,aP,b7] at ho
  |c k o=>
   simp only [AS.own,aj,aP] at ho
   split at ho
   ·rename_i cs hcs
    split at hcs
    ·cases hcs
     match o,ho with
     |0,ho=>cases ho
     |1,ho=>cases ho
     |n+2,ho=>simp [b7] at ho
    ·cases hcs
   ·cases ho
 refine⟨⟨rfl,fun b m h=>by have:=hgb b m h;show b < X4.w.heap.size;omega,fun b hlt=>by have:=hbel.size;show b < X4.w.heap.size;omega,fun t u hu=>by simp [aP] at hu,fun k cs hk'=> ?_,fun x r hx=>by simp [aP] at hx,fun r sz l ho=>(hno r sz l ho).elim,fun r r' sz l sz' l' a n c a' n' c' _ ho=>(hno r sz l ho).elim⟩,fun p hp=>by cases hp⟩
 simp only [aj,aP] at hk'
 split at hk'
 ·rename_i e
  subst e
  cases hk'
  refine dg.box ⟨?_,fun h=> ?_,_,_,_,hkm,rfl,fun o=>by simp [World.frozen?,hkm],fun o u x hu hx=> ?_⟩
  ·show X3.g X2.w.heap.size=none
   cases hq:X3.g X2.w.heap.size with
   |none=>rfl
   |some m=>exact absurd (hgb _ m hq) (Nat.lt_irrefl _)
  ·have:=hb.size
   have h2:X2.w.heap.size < w.heap.size:=h
   omega
  ·match o,hu,hx with
   |0,hu,hx=>simp at hu hx;subst hu hx;exact .v _
   |1,hu,hx=>simp at hu hx;subst hu hx;exact hrel.mono hpres
   |n+2,hu,hx=>simp at hu
 ·cases hk'
set_option maxRecDepth 100000 in
set_option maxHeartbeats 4000000 in
theorem Bv{N:Nat}(m:List UInt8)(hm:m.length≤60){emp:Bool}{s:List UInt8}{at_ gr:Int}{k:Nat}{l l':List Vstep}(h:yW N m=some (.ok (emp,s,at_,gr,k,l)))(hat:¬at_ < (m.length:Int))(hv:rp 32 k l [CH] =some l')(hl0:l'.length≠0)(w:World):
  Calls Try.prog 21 #[.string (mkB m)] w fun x w'=>∃ (X':GW) (km:Nat),x=.returned (.tuple #[.pointer (some ⟨km,0,none⟩),.agg #[.int .i64 0,.int .i64 0]])∧X'.w=w'∧Ext (fun b=>b < w.heap.size) ⟨w,fun _=>none⟩ X'∧SimE (fun b=>b < w.heap.size) X' ⟨1,[],[(km,[.v (.int .i64 gr),.sl false 4 (l'.map (cells EE.toEnc (.nam 7)))])],[]⟩ #[undef] :=by
 have hsize:= @jF
 have hmf:∀ (fn:Fn) (first cap:Array Value) (w:World),(Instr.makeFunc fn first cap).run Try.prog w=.ok (.func fn first cap) w:=fun _ _ _ _=>rfl
 have hmw:=BG m (cpW m w) (w.heap.size+1+1) _ (E6 m w) h
 go_enter_defers Try.func21,Try.ntmps21
 go_wp2_with (go_at_call 34;refine hmw.mono ?_)
 intro x w' X1 hw hx1 hx ρ hρ hi hs
 subst hw hx
 obtain⟨c1,c2,c3⟩:=uP hs hρ
 have hne:w.heap.size≠w.heap.size+1:=by omega
 have f2:=(hx1.frame w.heap.size ⟨by rw [dN];omega,by omega⟩).1
 have f3:=(hx1.frame (w.heap.size+1) ⟨by rw [dN];omega,by omega⟩).1
 have hb1:Below w.heap.size w X1.w:=(qB m w).trans (gl hx1 fun b hb=>⟨by rw [dN];omega,by omega⟩)
 have hpw:=Nm hs hρ hi hv
 go_wp2_with (go_at_call 36;refine hpw.mono ?_)
 rintro x w' ⟨⟨v,hx⟩,X2,hw,hx2,ρ2,t2,tm2,hρ2,hi2,hs2⟩
 subst hw hx
 have g2:X2.w.heap[w.heap.size]? =_:=(hx2.frame w.heap.size ⟨by rw [dN];omega,by omega⟩).1.trans (f2.trans (HE m w))
 have g3:X2.w.heap[w.heap.size+1]? =_:=(hx2.frame (w.heap.size+1) ⟨by rw [dN];omega,by omega⟩).1.trans (f3.trans (EN m w))
 have hb2:Below w.heap.size w X2.w:=hb1.trans (gl hx2 fun b hb=>⟨by rw [dN];omega,by omega⟩)
 obtain⟨e1,e2,e3⟩:=uP hs2 hρ2
 rw [L1 _ _ _ hl0] at e3
 have d2:X2.w.drew.cell? ⟨w.heap.size+1+1,2,none⟩=some (.int .i64 gr):=e2
 have d3:X2.w.drew.cell? ⟨w.heap.size+1+1,3,none⟩=some (.slice (some ⟨(ρ2.k 200001).b,0,none⟩) l'.length (l'.length+ (ρ2.k 200001).sp.length / 4)):=e3
 have hsz:w.heap.size+1+1+1≤X2.w.heap.size:=by
  have a1:=hx1.size
  have a2:=hx2.size
  rw [show(⟨cpW m w,fun _=>none⟩:GW).w.heap.size=w.heap.size+1+1+1 from dN m w] at a1
  omega
 have q2:∀o:Obj,(X2.w.alloc o).heap[w.heap.size]? =_:=fun o=>(Below.heap_alloc X2.w o _ (by omega)).trans g2
 have q3:∀o:Obj,(X2.w.alloc o).heap[w.heap.size+1]? =_:=fun o=>(Below.heap_alloc X2.w o _ (by omega)).trans g3
 have d4:∀o:Obj,(X2.w.alloc o).cell? ⟨w.heap.size,0,none⟩=some (.pointer none):=fun o=>by simp [World.cell?,q2 o]
 have d5:∀o:Obj,(X2.w.alloc o).cell? ⟨w.heap.size+1,0,none⟩=some (.int .i64 0):=fun o=>by simp [World.cell?,q3 o]
 have d6:∀o:Obj,(X2.w.alloc o).cell? ⟨w.heap.size+1,1,none⟩=some (.int .i64 0):=fun o=>by simp [World.cell?,q3 o]
 have r4:∀o:Obj,(X2.w.alloc o).frozen? ⟨w.heap.size,0,none⟩=false:=fun o=>uO (q2 o) 0
 have r5:∀o:Obj,(X2.w.alloc o).frozen? ⟨w.heap.size+1,0,none⟩=false:=fun o=>uO (q3 o) 0
 have r6:∀o:Obj,(X2.w.alloc o).frozen? ⟨w.heap.size+1,1,none⟩=false:=fun o=>uO (q3 o) 1
 go_wp2
 go_region
 go_wp2
 have hclo:=Jv (enW (X2.w.alloc (.cells #[.int .i64 gr,.slice (some ⟨(ρ2.k 200001).b,0,none⟩) l'.length (l'.length+ (ρ2.k 200001).sp.length / 4)] 93)) w.heap.size (w.heap.size+1) (.pointer (some ⟨X2.w.heap.size,0,none⟩))) w.heap.size (w.heap.size+1) hne (.pointer (some ⟨X2.w.heap.size,0,none⟩)) 0 0 _ _ (NL hne (q2 _)) (ML hne (q3 _))
 refine leaves_cons (f:=33) (args:= #[.pointer (some ⟨w.heap.size,0,none⟩),.pointer (some ⟨w.heap.size+1,0,none⟩)]) (by simp) (by simp [go_sem]) ?_
 refine hclo.mono ?_
 rintro y u' w2 ⟨rfl,⟨v,rfl⟩,c2,c3,c4,X4,rfl,hx4⟩
 simp [Leaves,settle,results,Try.results21,go_sem,c2,c3,c4]
 have hF:∀b,b < w.heap.size+1+1→ro (cpW m w) (w.heap.size+1+1) b∧X2.g b=none:=fun b hlt=>by
  have hb:ro (cpW m w) (w.heap.size+1+1) b:=⟨by rw [dN];omega,by omega⟩
  exact⟨hb,(hx2.frame b hb).2.trans (hx1.frame b hb).2⟩
 exact Ar hs2 hi2 hl0 (hF _ (by omega)).1 (hF _ (by omega)).1 (hF _ (by omega)).2 (hF _ (by omega)).2 (fun b hb=>hF b (by omega)) (Nat.le_refl _) (by omega) (by omega) (by omega) hx4 hb2
end Go.Proofs.Ytlhjbhgkhpbnfaa
namespace Go.Proofs.Ytlhjbhgkhpbnfaa
open Go.RowKit P
set_option linter.unusedSimpArgs false
set_option linter.unusedVariables false
theorem xm{xs:Array Value}(h:xs.size=2):∃a b,xs= #[a,b] :=by
 obtain⟨l⟩:=xs
 match l,h with
 | [a,b],_=>exact⟨a,b,rfl⟩
def exS(whole:List UInt8)(groups:List (List UInt8))(p:Vpiece):List UInt8:=
 if p.group=0 then whole else if 0 < p.group∧p.group≤(groups.length:Int) then groups.getD (p.group - 1).toNat [] else p.text
def uG(whole:List UInt8)(groups:List (List UInt8)):List Vpiece→List UInt8→List UInt8 × Int
 | [],acc=>(acc,0)
 |p::ps,acc=>if 20000 < acc.length+ (exS whole groups p).length then([],2) else uG whole groups ps (acc++exS whole groups p)
def zP(p:Vpiece):List AV:=[.v (.string (mkB p.text)),.v (.int .i64 p.group)]
def uu(s:List UInt8):List AV:=[.v (.string (mkB s))]
def GP(w:World)(ps:List Vpiece)(v:Value):Prop:=∃ao cap,v=.slice ao ps.length cap∧∀i p,ps[i]? =some p→∃b off,ao=some ⟨b,off,none⟩∧w.cell? ⟨b,off+i * 2,none⟩=some (.string (mkB p.text))∧w.cell? ⟨b,off+i * 2+1,none⟩=some (.int .i64 p.group)
def EQ(w:World)(l:List (List UInt8))(v:Value):Prop:=∃ao cap,v=.slice ao l.length cap∧∀i s,l[i]? =some s→∃b off,ao=some ⟨b,off,none⟩∧w.cell? ⟨b,off+i,none⟩=some (.string (mkB s))
theorem LW{X:GW}{o:Bool}{v:Value}{ps:List Vpiece}(h:Rel X (.sl o 2 (ps.map zP)) v):GP X.w ps v:=by
 generalize hL:ps.map zP=L at h
 cases h with
 |nl _ _ a0 c0=>
  have:ps=[] :=List.map_eq_nil_iff.1 hL
  subst this
  exact⟨a0,c0,rfl,fun i x hx=>by simp at hx⟩
 |sl _ _ _ b off cap n c hg hn hc hs hm hr=>
  subst hL
  refine⟨some ⟨b,off,none⟩,cap,by simp,fun i p hp=>⟨b,off,rfl,?_,?_⟩⟩
  ·have hi:(ps.map zP)[i]? =some [.v (.string (mkB p.text)),.v (.int .i64 p.group)] :=by simp [hp,zP]
   have h0:=bK (hr i 0 _ _ hi rfl)
   have h1:=hm i 0 _ _ hi rfl
   rw [h0] at h1;exact h1
  ·have hi:(ps.map zP)[i]? =some [.v (.string (mkB p.text)),.v (.int .i64 p.group)] :=by simp [hp,zP]
   have h0:=bK (hr i 1 _ _ hi rfl)
   have h1:=hm i 1 _ _ hi rfl
   rw [h0] at h1;exact h1
theorem LP{X:GW}{o:Bool}{v:Value}{l:List (List UInt8)}(h:Rel X (.sl o 1 (l.map uu)) v):EQ X.w l v:=by
 generalize hL:l.map uu=L at h
 cases h with
 |nl _ _ a0 c0=>
  have:l=[] :=List.map_eq_nil_iff.1 hL
  subst this
  exact⟨a0,c0,rfl,fun i x hx=>by simp at hx⟩
 |sl _ _ _ b off cap n c hg hn hc hs hm hr=>
  subst hL
  refine⟨some ⟨b,off,none⟩,cap,by simp,fun i p hp=>⟨b,off,rfl,?_⟩⟩
  have hi:(l.map uu)[i]? =some [.v (.string (mkB p))] :=by simp [hp,uu]
  have h0:=bK (hr i 0 _ _ hi rfl)
  have h1:=hm i 0 _ _ hi rfl
  rw [h0,Nat.mul_one] at h1;exact h1
theorem GP.below{w w':World}{ps:List Vpiece}{v:Value}{B:Nat}(h:GP w ps v)(hb:Below B w w')(hB:w.heap.size≤B):GP w' ps v:=by
 obtain⟨ao,cap,e,hp⟩:=h
 refine⟨ao,cap,e,fun i p hi=> ?_⟩
 obtain⟨b,off,e1,h1,h2⟩:=hp i p hi
 have hlt:b < B:=Nat.lt_of_lt_of_le (jh h1) hB
 exact⟨b,off,e1,gM hb hlt h1,gM hb hlt h2⟩
theorem EQ.below{w w':World}{l:List (List UInt8)}{v:Value}{B:Nat}(h:EQ w l v)(hb:Below B w w')(hB:w.heap.size≤B):EQ w' l v:=by
 obtain⟨ao,cap,e,hp⟩:=h
 refine⟨ao,cap,e,fun i p hi=> ?_⟩
 obtain⟨b,off,e1,h1⟩:=hp i p hi
 exact⟨b,off,e1,gM hb (Nat.lt_of_lt_of_le (jh h1) hB) h1⟩
def Iz(whole:List UInt8)(groups:List (List UInt8))(ps:List Vpiece):Bool:=decide (whole.length≤10000000000000) && groups.all (fun g=>decide (g.length≤10000000000000)) && ps.all (fun p=>decide (p.text.length≤10000000000000)) && decide (ps.length≤10000000000000) && decide (groups.length≤10000000000000)
set_option maxRecDepth 100000 in
set_option maxHeartbeats 4000000 in
theorem Fg{N:Nat}(t whole:List UInt8)(groups:List (List UInt8))(ps:List Vpiece)(hp:gQ N t=some (ps,true))(hsm:Iz whole groups ps=true)(X:GW)(gv:Value)(hX:∀b n,X.g b=some n→b < X.w.heap.size)(hgv:EQ X.w groups gv):
  Calls Try.prog 14 #[.string (mkB t),.string (mkB whole),gv] X.w fun e w'=>e=.returned (.tuple #[.string (mkB (uG whole groups ps []).1),.int .i64 (uG whole groups ps []).2])∧Below X.w.heap.size X.w w':=by
 have hpc:Calls Try.prog 28 #[.string (mkB t)] X.w fun e w'=>∃v,e=.returned (.tuple #[v,.bool true])∧GP w' ps v∧Below X.w.heap.size X.w w':=by
  refine(kX (X:=X) (vs:=[.string (mkB t)]) (mK t hp Rn.zero) rfl hX ?_).mono ?_
  ·intro i u x hu hx
   match i,hu,hx with
   |0,hu,hx=>simp at hu hx;subst hu hx;exact⟨.v _,rfl⟩
  ·rintro e w' ⟨X',y,rfl,rfl,hr,hb,_⟩
   have hr':Rel X' (.tu [.sl false 2 (ps.map zP),.v (.bool true)]) y:=hr
   cases hr' with
   |tu _ xs hl hi=>
    obtain⟨v0,v1,rfl⟩:=xm (by simpa using hl.symm:xs.size=2)
    have h1:=bK (hi 1 _ _ rfl rfl)
    subst h1
    exact⟨v0,rfl,LW (hi 0 _ _ rfl rfl),hb⟩
 have hsize:= @jF
 obtain⟨⟨⟨⟨hw1,hw2⟩,hw3⟩,hw4⟩,hw5⟩:(((whole.length≤10000000000000∧(∀g∈groups,g.length≤10000000000000))∧∀p∈ps,p.text.length≤10000000000000)∧ps.length≤10000000000000)∧groups.length≤10000000000000:=by simpa [Iz] using hsm
 generalize hR:uG whole groups ps [] =R
 have HR:=Lib.hid hR
 clear hR hsm
 go_enter Try.func14,Try.ntmps14
 go_wp2_with (go_at_call 28;refine hpc.mono ?_)
 rintro e W1 ⟨v,rfl,hps,b1⟩
 obtain⟨ao,cap,rfl,hcell⟩:=id hps
 obtain⟨ao2,cap2,rfl,hgc⟩:=id (hgv.below b1 (Nat.le_refl _))
 go_wp2
 have h0:Eo W1.heap.size W1.heap.size [] (W1.alloc (.cells #[.pointer none,.slice none 0 0] 81)):=Lib.fresh_isBuilder 81 5 W1
 have b0:Below W1.heap.size W1 (W1.alloc (.cells #[.pointer none,.slice none 0 0] 81)):=(Below.refl _ W1).alloc (Nat.le_refl _) _
 go_loopw [23] (fun i wr=>∃ (k:Nat) (acc:List UInt8),i=.int .i64 k∧k≤ps.length∧acc.length≤20000∧Hid (uG whole groups (ps.drop k) acc=R)∧Eo W1.heap.size W1.heap.size acc wr∧Below W1.heap.size W1 wr) (fun i _=>ps.length - (intOf i).toNat)
 case atStart=>exact⟨0,[],rfl,Nat.zero_le _,by simp,HR,h0,b0⟩
 case round=>
  obtain⟨k,acc,rfl,hk,hacc,HJ,hI,hb⟩:=hrel
  by_cases hlt:k < ps.length
  ·obtain⟨b,off,rfl,c0,c1⟩:=hcell k ps[k] (List.getElem?_eq_getElem hlt)
   have d0:=gM hb (jh c0) c0
   have d1:=gM hb (jh c1) c1
   have hmem:ps[k] ∈ps:=List.getElem_mem hlt
   have hJ:=HJ.out
   rw [List.drop_eq_getElem_cons hlt] at hJ
   have hpt:=hw3 _ hmem
   generalize ps[k] =p at c0 c1 d0 d1 hmem hJ hpt
   have hcase:((p.group==0)=true∧p.group=0∧exS whole groups p=whole)∨(∃j:Nat,j < groups.length∧p.group=(j:Int)+1∧(p.group==0)=false∧exS whole groups p=groups.getD j [])∨((p.group==0)=false∧p.group < 0∧exS whole groups p=p.text)∨((p.group==0)=false∧(groups.length:Int) < p.group∧exS whole groups p=p.text):=by
    by_cases h0:p.group=0
    ·exact .inl ⟨by simp [h0],h0,by simp [exS,h0]⟩
    ·have hb0:(p.group==0)=false:=by simpa using h0
     by_cases h1:0 < p.group∧p.group≤(groups.length:Int)
     ·refine .inr (.inl ⟨(p.group - 1).toNat,by omega,by omega,hb0,by simp [exS,h0,h1]⟩)
     ·by_cases h2:p.group < 0
      ·exact .inr (.inr (.inl ⟨hb0,h2,by simp [exS,h0,h1]⟩))
      ·exact .inr (.inr (.inr ⟨hb0,by omega,by simp [exS,h0,h1]⟩))
   simp only [uG] at hJ
   have HJ2:=Lib.hid hJ
   clear hJ HJ
   rcases hcase with ⟨hz,hg,hs⟩| ⟨j,hj,hg,hz,hs⟩| ⟨hz,hg,hs⟩| ⟨hz,hg,hs⟩
   ·have HJ3:=HJ2.out
    rw [hs] at HJ3
    have hsl:(whole).length≤10000000000000:=hw1
    rw [hg] at d1
    have al:=(Below.refl W1.heap.size wr).alloc hb.size (.cells #[.string (mkB p.text),.int .i64 0] 83)
    have hI2:=nT hI ((Below.refl _ wr).alloc (Nat.le_refl _) (.cells #[.string (mkB p.text),.int .i64 0] 83))
    by_cases hm:20000 < acc.length+ (whole).length
    ·rw [if_pos hm] at HJ3
     subst HJ3
     go_wp2_with (go_at_call 29;refine(r9 W1.heap.size W1.heap.size acc _ hI2).mono ?_;rintro e VL ⟨rfl,rfl⟩)
     go_ret2
     exact⟨rfl,b1.trans (mO (hb.trans al) b1.size)⟩
    ·rw [if_neg hm] at HJ3
     have HJ4:=Lib.hid HJ3
     clear HJ3 HJ2
     go_wp2_with (go_at_call 29;refine(r9 W1.heap.size W1.heap.size acc _ hI2).mono ?_;rintro e VL ⟨rfl,rfl⟩)
     refine(sQ W1.heap.size W1.heap.size acc (whole) _ hI2 (by omega) (hb.trans al).size).mono ?_
     rintro e V3 ⟨rfl,hI3,c3⟩
     go_wp2
     refine⟨⟨k+1,acc++whole,by simp,by omega,by simp;omega,HJ4,hI3,(hb.trans al).trans c3⟩,by simp [intOf];omega⟩
   ·have HJ3:=HJ2.out
    rw [hs] at HJ3
    have hsl:(groups.getD j []).length≤10000000000000:=by rw [List.getD_eq_getElem?_getD,List.getElem?_eq_getElem hj];exact hw2 _ (List.getElem_mem hj)
    obtain⟨b2,off2,rfl,e0⟩:=hgc j (groups.getD j []) (by rw [List.getD_eq_getElem?_getD,List.getElem?_eq_getElem hj];rfl)
    generalize groups.getD j [] =S at hsl e0 hs HJ3
    rw [hg] at d1
    have al:=(Below.refl W1.heap.size wr).alloc hb.size (.cells #[.string (mkB p.text),.int .i64 ((j:Int)+1)] 83)
    have e1:=gM (hb.trans al) (jh e0) e0
    have hI2:=nT hI ((Below.refl _ wr).alloc (Nat.le_refl _) (.cells #[.string (mkB p.text),.int .i64 ((j:Int)+1)] 83))
    by_cases hm:20000 < acc.length+ (S).length
    ·rw [if_pos hm] at HJ3
     subst HJ3
     go_wp2_with (go_at_call 29;refine(r9 W1.heap.size W1.heap.size acc _ hI2).mono ?_;rintro e VL ⟨rfl,rfl⟩)
     go_ret2
     exact⟨rfl,b1.trans (mO (hb.trans al) b1.size)⟩
    ·rw [if_neg hm] at HJ3
     have HJ4:=Lib.hid HJ3
     clear HJ3 HJ2
     go_wp2_with (go_at_call 29;refine(r9 W1.heap.size W1.heap.size acc _ hI2).mono ?_;rintro e VL ⟨rfl,rfl⟩)
     refine(sQ W1.heap.size W1.heap.size acc (S) _ hI2 (by omega) (hb.trans al).size).mono ?_
     rintro e V3 ⟨rfl,hI3,c3⟩
     go_wp2
     refine⟨⟨k+1,acc++S,by simp,by omega,by simp;omega,HJ4,hI3,(hb.trans al).trans c3⟩,by simp [intOf];omega⟩
   ·have HJ3:=HJ2.out
    rw [hs] at HJ3
    have hsl:(p.text).length≤10000000000000:=hpt
    have al:=(Below.refl W1.heap.size wr).alloc hb.size (.cells #[.string (mkB p.text),.int .i64 p.group] 83)
    have hI2:=nT hI ((Below.refl _ wr).alloc (Nat.le_refl _) (.cells #[.string (mkB p.text),.int .i64 p.group] 83))
    by_cases hm:20000 < acc.length+ (p.text).length
    ·rw [if_pos hm] at HJ3
     subst HJ3
     go_wp2_with (go_at_call 29;refine(r9 W1.heap.size W1.heap.size acc _ hI2).mono ?_;rintro e VL ⟨rfl,rfl⟩)
     go_ret2
     exact⟨rfl,b1.trans (mO (hb.trans al) b1.size)⟩
    ·rw [if_neg hm] at HJ3
     have HJ4:=Lib.hid HJ3
     clear HJ3 HJ2
     go_wp2_with (go_at_call 29;refine(r9 W1.heap.size W1.heap.size acc _ hI2).mono ?_;rintro e VL ⟨rfl,rfl⟩)
     refine(sQ W1.heap.size W1.heap.size acc (p.text) _ hI2 (by omega) (hb.trans al).size).mono ?_
     rintro e V3 ⟨rfl,hI3,c3⟩
     go_wp2
     refine⟨⟨k+1,acc++p.text,by simp,by omega,by simp;omega,HJ4,hI3,(hb.trans al).trans c3⟩,by simp [intOf];omega⟩
   ·have HJ3:=HJ2.out
    rw [hs] at HJ3
    have hsl:(p.text).length≤10000000000000:=hpt
    have al:=(Below.refl W1.heap.size wr).alloc hb.size (.cells #[.string (mkB p.text),.int .i64 p.group] 83)
    have hI2:=nT hI ((Below.refl _ wr).alloc (Nat.le_refl _) (.cells #[.string (mkB p.text),.int .i64 p.group] 83))
    by_cases hm:20000 < acc.length+ (p.text).length
    ·rw [if_pos hm] at HJ3
     subst HJ3
     go_wp2_with (go_at_call 29;refine(r9 W1.heap.size W1.heap.size acc _ hI2).mono ?_;rintro e VL ⟨rfl,rfl⟩)
     go_ret2
     exact⟨rfl,b1.trans (mO (hb.trans al) b1.size)⟩
    ·rw [if_neg hm] at HJ3
     have HJ4:=Lib.hid HJ3
     clear HJ3 HJ2
     go_wp2_with (go_at_call 29;refine(r9 W1.heap.size W1.heap.size acc _ hI2).mono ?_;rintro e VL ⟨rfl,rfl⟩)
     refine(sQ W1.heap.size W1.heap.size acc (p.text) _ hI2 (by omega) (hb.trans al).size).mono ?_
     rintro e V3 ⟨rfl,hI3,c3⟩
     go_wp2
     refine⟨⟨k+1,acc++p.text,by simp,by omega,by simp;omega,HJ4,hI3,(hb.trans al).trans c3⟩,by simp [intOf];omega⟩
  ·have hke:k=ps.length:=by omega
   subst hke
   have hJ:=HJ.out
   rw [List.drop_length] at hJ
   simp only [uG] at hJ
   subst hJ
   go_wp2_with (go_at_call 31;refine(NN W1.heap.size W1.heap.size acc _ hI hb.size).mono ?_)
   rintro e V2 ⟨rfl,c2⟩
   go_wp2
   go_ret2
   exact⟨rfl,b1.trans (mO (hb.trans c2) b1.size)⟩
set_option maxRecDepth 100000 in
theorem BO{N:Nat}(t whole:List UInt8)(ps:List Vpiece)(hp:gQ N t=some (ps,false))(X:GW)(gv:Value)(hX:∀b n,X.g b=some n→b < X.w.heap.size):
  Calls Try.prog 14 #[.string (mkB t),.string (mkB whole),gv] X.w fun e w'=>e=.returned (.tuple #[.string (mkB []),.int .i64 1])∧Below X.w.heap.size X.w w':=by
 have hpc:Calls Try.prog 28 #[.string (mkB t)] X.w fun e w'=>∃v,e=.returned (.tuple #[v,.bool false])∧Below X.w.heap.size X.w w':=by
  refine(kX (X:=X) (vs:=[.string (mkB t)]) (mK t hp Rn.zero) rfl hX ?_).mono ?_
  ·intro i u x hu hx
   match i,hu,hx with
   |0,hu,hx=>simp at hu hx;subst hu hx;exact⟨.v _,rfl⟩
  ·rintro e w' ⟨X',y,rfl,rfl,hr,hb,_⟩
   have hr':Rel X' (.tu [.sl false 2 (ps.map zP),.v (.bool false)]) y:=hr
   cases hr' with
   |tu _ xs hl hi=>
    obtain⟨v0,v1,rfl⟩:=xm (by simpa using hl.symm:xs.size=2)
    have h1:=bK (hi 1 _ _ rfl rfl)
    subst h1
    exact⟨v0,rfl,hb⟩
 go_enter Try.func14,Try.ntmps14
 go_wp2_with (go_at_call 28;refine hpc.mono ?_)
 rintro e W1 ⟨v,rfl,b1⟩
 go_wp2
 go_ret2
 exact⟨rfl,b1⟩
theorem BP{f:FuncId}{us:List AV}{r:Value}{ur:AV}{P:Program}(hf:GN P f)(hr:∀X,Rel X ur r)(hp:b7 (some ur)=none)
  (h:∀ (X:GW) (vs:Array Value),(∀b n,X.g b=some n→b < X.w.heap.size)→vs.size=us.length→(∀ (i:Nat) u,us[i]? =some u→Rel X u (vs.getD i undef))→Calls P f vs X.w fun e w'=>e=.returned r∧Below X.w.heap.size X.w w'):aT P f us [] (fun out H=>out=.ret ur∧H=[]):=by
 refine⟨hf,fun F X xs hs=> ?_⟩
 refine(h X xs hs.gb (by simpa using hs.size) (fun i u hi=>hs.slot i u ?_)).mono fun e w' ⟨he,hb⟩=> ?_
 ·have:∀ (us:List AV) (k i:Nat) u,us[i]? =some u→look (slotsOf k us) (k+i)=some u:=by
   intro us
   induction us with
   |nil=>intro k i u h;simp at h
   |cons u0 us ih=>
    intro k i u h
    simp only [slotsOf,aj]
    cases i with
    |zero=>simp at h;subst h;simp
    |succ i=>rw [if_neg (by omega),show k+ (i+1)=(k+1)+i by omega];exact ih (k+1) i u (by simpa using h)
  have:=this us 0 i u hi
  simpa using this
 have hn:New X ⟨w',X.g⟩:=⟨hb.os,hb.tape,hb.output,hb.size,fun b hlt=>⟨hb.block b hlt,rfl⟩⟩
 have hgb:∀b n,X.g b=some n→b < w'.heap.size:=fun b n hg=>Nat.lt_of_lt_of_le (hs.gb b n hg) hb.size
 refine⟨⟨w',X.g⟩,.ret ur,[],rfl,⟨rfl,rfl⟩,⟨r,he,?_⟩,hn.ext hs.gb hs.fb⟩
 refine⟨⟨rfl,hgb,fun b hF=>Nat.lt_of_lt_of_le (hs.fb b hF) hb.size,fun t u hu=> ?_,fun k cs hk=>by simp [aP] at hk,fun x r hx=>by simp [aP] at hx,fun r sz l ho=> ?_,fun r r' sz l sz' l' a n c a' n' c' _ ho=> ?_⟩,fun p hp=>by cases hp⟩
 ·simp only [aj,aP] at hu
  split at hu
  ·rename_i e1;subst e1;cases hu;exact hr _
  ·cases hu
 ·cases r with
  |s t=>obtain⟨_,h2⟩:=g6 ho;rw [hp] at h2;cases h2
  |c k o=>simp [AS.own,aP] at ho
 ·cases r with
  |s t=>obtain⟨_,h2⟩:=g6 ho;rw [hp] at h2;cases h2
  |c k o=>simp [AS.own,aP] at ho
theorem Du{xs:Array Value}(h:xs.size=3):xs= #[xs.getD 0 undef,xs.getD 1 undef,xs.getD 2 undef] :=by
 obtain⟨l⟩:=xs
 match l,h with
 | [a,b,c],_=>rfl
def fh(N:Nat)(t whole:List UInt8)(groups:List (List UInt8)):Option (List UInt8 × Int):=
 match gQ N t with
 |none=>none
 |some (ps,true)=>if Iz whole groups ps=true then some (uG whole groups ps []) else none
 |some (_,false)=>some ([],1)
def vl(r:List UInt8 × Int):TV EE.T:=.tu [.a (.d .str r.1),.a (.d (.int .i64) r.2)]
theorem JH(X:GW)(a b:Value):Rel X (.tu [.v a,.v b]) (.tuple #[a,b]):=by
 refine .tu _ _ rfl ?_
 intro i u x hu hx
 match i,hu,hx with
 |0,hu,hx=>simp at hu hx;subst hu hx;exact .v _
 |1,hu,hx=>simp at hu hx;subst hu hx;exact .v _
theorem GH{N:Nat}(t whole:List UInt8)(groups:List (List UInt8)){r:List UInt8 × Int}(h:fh N t whole groups=some r):aT Try.prog 14 [.v (.string (mkB t)),.v (.string (mkB whole)),.sl false 1 (groups.map uu)] [] (fun out H=>out=.ret (.tu [.v (.string (mkB r.1)),.v (.int .i64 r.2)])∧H=[]):=by
 refine BP ⟨_,Try.func14,by kernel_rfl,rfl⟩ (fun X=>JH X _ _) rfl fun X vs hX hv hr=> ?_
 have e0:=bK (hr 0 _ rfl)
 have e1:=bK (hr 1 _ rfl)
 have e2:=LP (hr 2 _ rfl)
 rw [Du hv,e0,e1]
 unfold fh at h
 split at h
 ·cases h
 ·rename_i ps hp
  split at h
  ·rename_i hsm
   cases h
   exact Fg t whole groups ps hp hsm X _ hX e2
  ·cases h
 ·rename_i ps hp
  cases h
  exact BO t whole ps hp X _ hX
def iQ(N:Nat):List (TV EE.T)→PV EE.T
 | [u0,u1,u2] =>match iA .str u0,iA .str u1,iA (.sl .str) u2 with
   |some x0,some x1,some x2=>.opt (fh N x0 x1 x2) vl
   |_,_,_=>.bad
 |_=>.bad
theorem mi(N:Nat)(us:List (TV EE.T)):(iQ N us).ok fun u=>∀ρ,aT Try.prog 14 (us.map (TV.to EE.toEnc ρ)) [] (fun out H=>out=.ret (u.to EE.toEnc ρ)∧H=[]):=by
 unfold iQ
 split
 ·split
  ·rename_i u0 u1 u2 x0 x1 x2 h0 h1 h2
   intro z hz ρ
   refine eH (us':=([.a (.d .str x0),.a (.d .str x1),.a (.d (.sl .str) x2)] :List (TV EE.T))) ⟨cN h0 ρ,cN h1 ρ,cN h2 ρ,trivial⟩ ?_
   exact GH x0 x1 x2 hz
  ·trivial
 ·trivial
end Go.Proofs.Ytlhjbhgkhpbnfaa
namespace Go.Proofs.Ytlhjbhgkhpbnfaa
open Go.Shelf Go.RowKit P
set_option linter.unusedSimpArgs false
set_option linter.unusedVariables false
def Try.laysR_212:Go.Shelf.Ren:=⟨fun|212=>54|263=>64|264=>65|n=>n,fun|46=>119|51=>129|53=>132|146=>130|148=>133|n=>n,fun|n=>n⟩
set_option maxRecDepth 100000 in
theorem Try.laysn212:Go.Proofs.Lays.n212 Try.prog Try.laysR_212:={ mixed:=by kernel_rfl,f212:=Try.func54.trans (congrArg some (by kernel_rfl)),f263:=Try.func64.trans (congrArg some (by kernel_rfl)),f264:=Try.func65.trans (congrArg some (by kernel_rfl)),t46:=Try.underlying119,a46:=Try.isAgg119,z46:=Try.sizeOf119,v46:=Try.zeroValue119,t51:=Try.underlying129,a51:=Try.isAgg129,z51:=Try.sizeOf129,v51:=Try.zeroValue129,t53:=Try.underlying132,a53:=Try.isAgg132,z53:=Try.sizeOf132,v53:=Try.zeroValue132,t146:=Try.underlying130,a146:=Try.isAgg130,z146:=Try.sizeOf130,v146:=Try.zeroValue130,t148:=Try.underlying133,a148:=Try.isAgg133,z148:=Try.sizeOf133,v148:=Try.zeroValue133 }
theorem FF(x y:Nat)(hx:x < 18446744073709551616)(hy:y < 18446744073709551616)(w:World):Calls Try.prog 54 #[.int .u64 x,.int .u64 y] w fun e w'=>e=.returned (.tuple #[.int .u64 ((x * y / 18446744073709551616:Nat):Int),.int .u64 ((x * y % 18446744073709551616:Nat):Int)])∧w'=w:=Any.bits_Mul Try.laysn212 x y hx hy w
theorem J4(c:Nat)(hc:c≤1000000)(w:World):Calls Try.prog 54 #[.int .u64 1,.int .u64 c] w fun e w'=>e=.returned (.tuple #[.int .u64 0,.int .u64 c])∧w'=w:=
 (FF 1 c (by omega) (by omega) w).mono fun e w' h=>by
  rw [Nat.one_mul,Nat.div_eq_of_lt (by omega),Nat.mod_eq_of_lt (by omega)] at h
  exact h
theorem NR:(Try.prog.info? 3).map (fun i=>(i.zero,i.size,i.bytes))=some (some (.int .i64 0),1,8):=by kernel_rfl
def j9(c k:Nat)(x:Int):List Value:=List.replicate k (.int .i64 x)++List.replicate (c - k) (.int .i64 0)
theorem HQ(c:Nat)(x:Int):madeCells #[Value.int .i64 0] c=(j9 c 0 x).toArray:=by
 apply Array.ext
 ·simp [madeCells,j9]
 ·intro i h1 h2
  simp [madeCells,j9,Nat.mod_one]
theorem IB{c k:Nat}(h:k≤c)(x:Int):(j9 c k x).length=c:=by unfold j9;simp;omega
theorem Fl{c k m:Nat}(x:Int)(h:k+m≤c):(j9 c k x).take k++List.replicate m (.int .i64 x)++ (j9 c k x).drop (k+m)=j9 c (k+m) x:=by
 unfold j9
 rw [List.take_left' (by simp),List.drop_append]
 rw [← List.append_assoc,List.drop_of_length_le (by simp),List.append_nil,List.drop_replicate,List.length_replicate,List.replicate_append_replicate,Nat.add_sub_cancel_left,Nat.sub_sub]
theorem Mm:(Try.prog.info? 3).map (·.size)=some 1:=by kernel_rfl
theorem AM{w:World}{g c k m:Nat}{x:Int}{sLen:Nat}{a:Addr}{sCap dCap:Nat}(hk:k≤c)(hg:w.heap[g]? =some (.cells (j9 c k x).toArray 3 (0,0)))(hm:m=Nat.min sLen (c - k))(hsrc:∀j,j < m→w.cell? (a.add j)=some (.int .i64 x)):
  (Builtin.copy_ #[38,38] 3 #[.slice (some ⟨g,k,none⟩) (c - k) dCap,.slice (some a) sLen sCap]).run Try.prog w=.ok (goInt m) (w.setRow g (j9 c (k+m) x).toArray):=by
 have hm2:m≤c - k:=by rw [hm];exact Nat.min_le_right _ _
 have h:=run_copy_row (P:=Try.prog) w 38 38 3 3 g k (c - k) dCap a sLen sCap (j9 c k x).toArray 3 (List.replicate m (.int .i64 x)) Try.underlying38 Mm hg (by simpa using hm) (fun j v hj=>by
  rw [List.getElem?_replicate] at hj
  split at hj
  ·rename_i h1
   cases hj
   exact hsrc j h1
  ·cases hj) (by simp [IB hk];omega) (fun v hv=>by rw [(List.mem_replicate.1 hv).2];rfl)
 rw [List.length_replicate,List.toList_toArray,Fl x (by omega)] at h
 exact h
theorem FP{w:World}{g c k j:Nat}{x:Int}(hk:k≤c)(hg:w.heap[g]? =some (.cells (j9 c k x).toArray 3 (0,0)))(hj:j < k):w.cell? ((⟨g,0,none⟩:Addr).add j)=some (.int .i64 x):=by
 have hadd:(⟨g,0,none⟩:Addr).add j=⟨g,0+j,none⟩:=by unfold Addr.add;split<;> simp_all
 rw [hadd]
 simp [World.cell?,hg,j9,List.getElem?_append,hj]
theorem Below.setRow_new{B:Nat}{w w':World}(h:Below B w w')(hB:B≤w.heap.size)(cs:Array Value):Below B w (w'.setRow B cs):=by
 refine⟨h.os,h.tape,h.output,by simpa [World.setRow] using h.size,fun b hb=> ?_⟩
 rw [← h.block b hb]
 simp [World.setRow,Array.getElem?_modify,Nat.ne_of_gt hb]
set_option maxRecDepth 100000 in
set_option maxHeartbeats 4000000 in
theorem Ge(c:Nat)(hc:0 < c)(hc2:c≤1000000)(x:Int)(w:World)(b off cap:Nat)(hx:w.cell? ⟨b,off,none⟩=some (.int .i64 x)):
  Calls Try.prog 37 #[.slice (some ⟨b,off,none⟩) 1 cap,.int .i64 c] w fun e w'=>∃g,w.heap.size≤g∧e=.returned (.slice (some ⟨g,0,none⟩) c c)∧w'.heap[g]? =some (.cells (List.replicate c (.int .i64 x)).toArray 3 (0,0))∧Below w.heap.size w w':=by
 have hmk:=run_make_row' (P:=Try.prog) 38 3 (.int .i64 0) 8 Try.underlying38 NR rfl .i64 .i64 c (by omega) (by omega)
 rw [HQ c x] at hmk
 have hg0:(w.alloc (.cells (j9 c 0 x).toArray 3)).heap[w.heap.size]? =some (.cells (j9 c 0 x).toArray 3 (0,0)):=heap_alloc_new w _
 have b0:Below w.heap.size w (w.alloc (.cells (j9 c 0 x).toArray 3)):=(Below.refl _ w).alloc (Nat.le_refl _) _
 have hcp:=AM (c:=c) (k:=0) (m:=1) (x:=x) (sLen:=1) (a:=⟨b,off,none⟩) (sCap:=cap) (dCap:=c) (Nat.zero_le _) hg0 (Nat.min_eq_left (by omega)).symm (fun j hj=>by
  have:j=0:=by omega
  subst this
  exact gM b0 (jh hx) hx)
 rw [Nat.sub_zero,Nat.zero_add] at hcp
 have hg1:=setRow_heap _ w.heap.size _ (j9 c 1 x).toArray 3 (0,0) hg0
 go_enter Try.func37,Try.ntmps37
 go_wp2_with (go_at_call 54;refine(J4 c hc2 _).mono ?_;rintro e V ⟨rfl,rfl⟩)
 have bS:=Below.setRow_new b0 (Nat.le_refl _) (j9 c 1 x).toArray
 go_loopw [8] (fun n wr=>∃k:Nat,n=.int .i64 k∧0 < k∧k≤c∧wr.heap[V.heap.size]? =some (.cells (j9 c k x).toArray 3 (0,0))∧Below V.heap.size V wr) (fun n _=>c - (intOf n).toNat)
 case atStart=>exact⟨1,rfl,by omega,by omega,hg1,bS⟩
 case round=>
  obtain⟨k,rfl,hk0,hk,hg,hb⟩:=hrel
  by_cases hlt:k < c
  ·have hgd:wr.drew.heap[V.heap.size]? =some (.cells (j9 c k x).toArray 3 (0,0)):=hg
   have hck:¬c=k:=by omega
   have hcp2:=AM (w:=wr.drew) (c:=c) (k:=k) (m:=Nat.min k (c - k)) (x:=x) (sLen:=k) (a:=⟨V.heap.size,0,none⟩) (sCap:=c) (dCap:=c - k) hk hgd rfl (fun j hj=>FP hk hgd (Nat.lt_of_lt_of_le hj (Nat.min_le_left _ _)))
   have hg2:=setRow_heap _ V.heap.size _ (j9 c (k+Nat.min k (c - k)) x).toArray 3 (0,0) hgd
   go_wp2
   go_region
   have hwr:wrap64 ((k:Int)+ ((k.min (c - k):Nat):Int))=((k+k.min (c - k):Nat):Int):=by
    have:=Nat.min_le_right k (c - k)
    have h2:k.min (c - k)≤c - k:=this
    unfold wrap64;omega
   have hm0:0 < k.min (c - k):=Nat.lt_min.2 ⟨hk0,by omega⟩
   have hmk:k.min (c - k)≤c - k:=Nat.min_le_right k (c - k)
   rw [hwr]
   go_wp2
   refine⟨⟨k+k.min (c - k),rfl,by omega,by omega,hg2,Below.setRow_new hb.drew (Nat.le_refl _) _⟩,?_⟩
   simp [intOf]
   omega
  ·have hke:k=c:=by omega
   subst hke
   go_wp2
   go_ret
   refine⟨V.heap.size,Nat.le_refl _,rfl,?_,hb⟩
   rw [hg];simp [j9]
theorem uL{f:FuncId}{us:List AV}{ur:AV}{P:Program}(hf:GN P f)(hp:b7 (some ur)=none)
  (h:∀ (X:GW) (vs:Array Value),(∀b n,X.g b=some n→b < X.w.heap.size)→vs.size=us.length→(∀ (i:Nat) u,us[i]? =some u→Rel X u (vs.getD i undef))→Calls P f vs X.w fun e w'=>∃X' r,X'.w=w'∧e=.returned r∧Rel X' ur r∧Below X.w.heap.size X.w w'∧(∀b n,X'.g b=some n→b < w'.heap.size)∧∀b,b < X.w.heap.size→X'.g b=X.g b):aT P f us [] (fun out H=>out=.ret ur∧H=[]):=by
 refine⟨hf,fun F X xs hs=> ?_⟩
 refine(h X xs hs.gb (by simpa using hs.size) (fun i u hi=>hs.slot i u ?_)).mono fun e w' ⟨X',r,hw,he,hr,hb,hgb,hgo⟩=> ?_
 ·have:∀ (us:List AV) (k i:Nat) u,us[i]? =some u→look (slotsOf k us) (k+i)=some u:=by
   intro us
   induction us with
   |nil=>intro k i u h;simp at h
   |cons u0 us ih=>
    intro k i u h
    simp only [slotsOf,aj]
    cases i with
    |zero=>simp at h;subst h;simp
    |succ i=>rw [if_neg (by omega),show k+ (i+1)=(k+1)+i by omega];exact ih (k+1) i u (by simpa using h)
  have:=this us 0 i u hi
  simpa using this
 subst hw
 have hn:New X X':=⟨hb.os,hb.tape,hb.output,hb.size,fun b hlt=>⟨hb.block b hlt,hgo b hlt⟩⟩
 refine⟨X',.ret ur,[],rfl,⟨rfl,rfl⟩,⟨r,he,?_⟩,hn.ext hs.gb hs.fb⟩
 refine⟨⟨rfl,hgb,fun b hF=>Nat.lt_of_lt_of_le (hs.fb b hF) hb.size,fun t u hu=> ?_,fun k cs hk=>by simp [aP] at hk,fun x r hx=>by simp [aP] at hx,fun r sz l ho=> ?_,fun r r' sz l sz' l' a n c a' n' c' _ ho=> ?_⟩,fun p hp=>by cases hp⟩
 ·simp only [aj,aP] at hu
  split at hu
  ·rename_i e1;subst e1;cases hu;exact hr
  ·cases hu
 ·cases r with
  |s t=>obtain⟨_,h2⟩:=g6 ho;rw [hp] at h2;cases h2
  |c k o=>simp [AS.own,aP] at ho
 ·cases r with
  |s t=>obtain⟨_,h2⟩:=g6 ho;rw [hp] at h2;cases h2
  |c k o=>simp [AS.own,aP] at ho
theorem An{xs:Array Value}(h:xs.size=2):xs= #[xs.getD 0 undef,xs.getD 1 undef] :=by
 obtain⟨l⟩:=xs
 match l,h with
 | [a,b],_=>rfl
theorem Ff(c:Nat)(hc:0 < c)(hc2:c≤1000000)(x:Int):aT Try.prog 37 [.sl false 1 [[.v (.int .i64 x)]],.v (.int .i64 c)] [] (fun out H=>out=.ret (.sl false 1 ((List.replicate c x).map fun z=>[.v (.int .i64 z)]))∧H=[]):=by
 refine uL ⟨_,Try.func37,by kernel_rfl,rfl⟩ rfl fun X vs hX hv hr=> ?_
 have e1:=bK (hr 1 _ rfl)
 have e0:=hr 0 _ rfl
 rw [An hv,e1]
 generalize vs.getD 0 undef=v0 at e0
 cases e0 with
 |sl _ _ _ b off cap n cc hg hn hcap hs hm hri=>
  have h0:=bK (hri 0 0 _ _ rfl rfl)
  have h1:=hm 0 0 _ _ rfl rfl
  rw [h0] at h1
  refine(Ge c hc hc2 x X.w b off cap (by simpa using h1)).mono ?_
  rintro e w' ⟨g,hle,rfl,hgc,hb⟩
  have hlt:g < w'.heap.size:=(Array.getElem?_eq_some_iff.1 hgc).1
  refine⟨⟨w',fun q=>if q=g then some c else X.g q⟩,_,rfl,rfl,?_,hb,fun q n hq=> ?_,fun q hq=>if_neg (by omega)⟩
  ·have hl:((List.replicate c x).map fun z=>[AV.v (.int .i64 z)]).length=c:=by simp
   have:=Rel.sl (X:=⟨w',fun q=>if q=g then some c else X.g q⟩) false 1 ((List.replicate c x).map fun z=>[AV.v (.int .i64 z)]) g 0 c c (fun _ _=>.int .i64 x) (if_pos rfl) (by rw [hl];omega) (by rw [hl];exact Nat.le_refl _) (fun i r hi=>by
    simp only [List.getElem?_map,Option.map_eq_some_iff] at hi
    obtain⟨z,_,rfl⟩:=hi;rfl) (fun i j r u hi hj=>by
    simp only [List.getElem?_map,Option.map_eq_some_iff,List.getElem?_replicate] at hi
    obtain⟨z,hz,rfl⟩:=hi
    split at hz
    ·rename_i hic
     match j,hj with
     |0,_=>simp [World.cell?,hgc,List.getElem?_replicate,hic]
    ·cases hz) (fun i j r u hi hj=>by
    simp only [List.getElem?_map,Option.map_eq_some_iff,List.getElem?_replicate] at hi
    obtain⟨z,hz,rfl⟩:=hi
    split at hz
    ·cases hz
     match j,hj with
     |0,hj=>simp at hj;subst hj;exact .v _
    ·cases hz)
   rw [hl] at this
   exact this
  ·dsimp only at hq
   split at hq
   ·rename_i e;subst e;exact hlt
   ·exact Nat.lt_of_lt_of_le (hX q n hq) hb.size
def kW(N:Nat)(l:List Int)(c:Int):Option (List Int):=match l with
 | [x] =>if 0 < c∧c≤1000000 then some (List.replicate c.toNat x) else none
 |_=>none
theorem va{N:Nat}{l:List Int}{c:Int}{r:List Int}(h:kW N l c=some r):∃x,l=[x] ∧0 < c∧c≤1000000∧r=List.replicate c.toNat x:=by
 match l,h with
 | [x],h=>
   simp only [kW] at h
   split at h
   ·rename_i hc
    exact⟨x,rfl,hc.1,hc.2,(Option.some.inj h).symm⟩
   ·cases h
def AN(r:List Int):TV EE.T:=.a (.d (.sl (.int .i64)) r)
def mq(N:Nat):List (TV EE.T)→PV EE.T
 | [u0,u1] =>match iA (.sl (.int .i64)) u0,iA (.int .i64) u1 with
   |some x0,some x1=>.opt (kW N x0 x1) AN
   |_,_=>.bad
 |_=>.bad
theorem vi(N:Nat)(us:List (TV EE.T)):(mq N us).ok fun u=>∀ρ,aT Try.prog 37 (us.map (TV.to EE.toEnc ρ)) [] (fun out H=>out=.ret (u.to EE.toEnc ρ)∧H=[]):=by
 unfold mq
 split
 ·split
  ·rename_i u0 u1 x0 x1 h0 h1
   intro z hz ρ
   obtain⟨x,rfl,hc1,hc2,rfl⟩:=va hz
   refine eH (us':=([.a (.d (.sl (.int .i64)) [x]),.a (.d (.int .i64) x1)] :List (TV EE.T))) ⟨cN h0 ρ,cN h1 ρ,trivial⟩ ?_
   have h:=Ff x1.toNat (by omega) (by omega) x
   rw [show((x1.toNat:Nat):Int)=x1 by omega] at h
   exact h
  ·trivial
 ·trivial
end Go.Proofs.Ytlhjbhgkhpbnfaa
namespace Go.Proofs.Ytlhjbhgkhpbnfaa
open Go.RowKit P
set_option linter.unusedVariables false
set_option linter.unusedSimpArgs false
set_option maxRecDepth 100000
abbrev bn:=Nat × VMask × (List (Int × Bool)) × (List Vthread)
def ah(N:Nat)(n:Nat)(x1_n:Nat)(x4:Int)(b8:Vthread)(b11:Vstep)(b100000:VMask)(b100001:List (Int × Bool))(b700001:List Vthread):Option (PR bn):=
 bif b11.kind==2 then
  (cC N x1_n ({ at_:=b11.a,slots:=b8.slots }:Vthread) x4 b100000 b700001 b100001).bind fun z121=>
  match z121 with
  |.pan vz121=>
   some (.pan vz121)
  |.ok z122=>
   some (.ok (z122.1,z122.2.1,z122.2.2.2,z122.2.2.1))
 else
  bif b11.kind==1 then
   (cC N x1_n ({ at_:=b11.a,slots:=b8.slots }:Vthread) x4 b100000 b700001 b100001).bind fun z123=>
   match z123 with
   |.pan vz123=>
    some (.pan vz123)
   |.ok z124=>
    (cC N z124.1 ({ at_:=b11.b,slots:=b8.slots }:Vthread) x4 z124.2.1 z124.2.2.1 z124.2.2.2).bind fun z125=>
    match z125 with
    |.pan vz125=>
     some (.pan vz125)
    |.ok z126=>
     some (.ok (z126.1,z126.2.1,z126.2.2.2,z126.2.2.1))
  else
   bif b11.kind==3 then
    (jq N b8.slots).bind fun z127=>
    match z127 with
    |.pan vz127=>
     some (.pan vz127)
    |.ok z128=>
     (eW z128.1 b11.a).bind fun z129=>
     (z128.2[z129]?).bind fun z130=>
     (pV z128.1 (List.set z128.2 z129 x4)).bind fun z131=>
     (cC N x1_n ({ at_:=w64 (b8.at_+1),slots:=z131 }:Vthread) x4 b100000 b700001 b100001).bind fun z132=>
     match z132 with
     |.pan vz132=>
      some (.pan vz132)
     |.ok z133=>
      some (.ok (z133.1,z133.2.1,z133.2.2.2,z133.2.2.1))
   else
    (rp 32 x1_n b700001 ([b8] :List Vthread)).bind fun z134=>
    some (.ok (z134.length,b100000,b100001,z134))
def eV(N:Nat)(x3:Vthread)(x4:Int)(y0:VMask)(y1:List (Int × Bool)):Option (PR bn):=
 bif (sq y1 x3.at_).getD false then
  some (.ok (0,y0,y1,([] :List Vthread)))
 else
  (ap y0.steps x3.at_).bind fun z120=>
  ah N N 0 x4 x3 z120 y0 (aE y1 x3.at_ true) ([] :List Vthread)
abbrev ay:=Bool × (List (List UInt8)) × VMask
def cA(N:Nat)(k9:(List UInt8)→Int→Nat→Int→Int→Nat→Int→Int→(List (Int × Bool))→VMask→(List Vthread)→(List Vthread)→Option (PR ay))(k4:(List UInt8)→Nat→Int→Int→VMask→(List Vthread)→Option (PR ay))(n:Nat)(x1:List UInt8)(x8:Int)(x9_n:Nat)(x30:Int)(x31:Int)(x35_n:Nat)(x36:Int)(x37:Int)(b34:List (Int × Bool))(b100000:VMask)(b400448:List Vthread)(b700009:List Vthread):Option (PR ay):=
 k9 x1 x8 x9_n x30 x31 x35_n x36 (w64 (x37+1)) b34 b100000 b400448 b700009
def ab(N:Nat)(k9:(List UInt8)→Int→Nat→Int→Int→Nat→Int→Int→(List (Int × Bool))→VMask→(List Vthread)→(List Vthread)→Option (PR ay))(k4:(List UInt8)→Nat→Int→Int→VMask→(List Vthread)→Option (PR ay))(n:Nat)(x1:List UInt8)(x8:Int)(x9_n:Nat)(x30:Int)(x31:Int)(x35_n:Nat)(x36:Int)(x37:Int)(b12:Vthread)(b13:Vstep)(b34:List (Int × Bool))(b100000:VMask)(b400448:List Vthread)(b700009:List Vthread):Option (PR ay):=
 bif b13.kind==0 then
  (ap x1 x8).bind fun z130=>
  (b13.set_).bind fun z131=>
  (GR 256 (some z131) (b2i z130)).bind fun z132=>
  bif z132 then
   (cC N x9_n ({ at_:=w64 (b12.at_+1),slots:=b12.slots }:Vthread) (w64 (x8+1)) b100000 b700009 b34).bind fun z133=>
   match z133 with
   |.pan vz133=>
    some (.pan vz133)
   |.ok z134=>
    cA N k9 k4 n x1 x8 z134.1 x30 x31 x35_n x36 x37 z134.2.2.2 z134.2.1 b400448 z134.2.2.1
  else
   cA N k9 k4 n x1 x8 x9_n x30 x31 x35_n x36 x37 b34 b100000 b400448 b700009
 else
  cA N k9 k4 n x1 x8 x9_n x30 x31 x35_n x36 x37 b34 b100000 b400448 b700009
def ae(N:Nat)(k4:(List UInt8)→Nat→Int→Int→VMask→(List Vthread)→Option (PR ay)):Nat→(List UInt8)→Int→Nat→Int→Int→Nat→Int→Int→(List (Int × Bool))→VMask→(List Vthread)→(List Vthread)→Option (PR ay)
 |0,_,_,_,_,_,_,_,_,_,_,_,_=>none
 |n+1,x1,x8,x9_n,x30,x31,x35_n,x36,x37,b34,b100000,b400448,b700009=>
  bif decide (x37 < x36) then
   (eW x35_n x37).bind fun z4=>
   (b400448[z4]?).bind fun z5=>
   (ap b100000.steps z5.at_).bind fun z125=>
   ab N (ae N k4 n) k4 n x1 x8 x9_n x30 x31 x35_n x36 x37 z5 z125 b34 b100000 b400448 b700009
  else
   k4 x1 x9_n x30 (w64 (x31+1)) b100000 b700009
def dT(N:Nat):Nat→(List UInt8)→Nat→Int→Int→VMask→(List Vthread)→Option (PR ay)
 |0,_,_,_,_,_,_=>none
 |n+1,x1,x77_n,x78,x79,b100000,b400448=>
  bif decide (x79 < x78) then
   (eW x77_n x79).bind fun z126=>
   (b400448[z126]?).bind fun z127=>
   (ap b100000.steps z127.at_).bind fun z128=>
   bif z128.kind==4 then
    (ef N x1 z127.slots b100000).bind fun z129=>
    some (.ok (true,z129.1,z129.2))
   else
    dT N n x1 x77_n x78 (w64 (x79+1)) b100000 b400448
  else
   some (.ok (false,([] :List (List UInt8)),b100000))
def ee(N:Nat):Nat→(List UInt8)→Nat→Int→Int→VMask→(List Vthread)→Option (PR ay)
 |0,_,_,_,_,_,_=>none
 |n+1,x1,x7_n,x30,x31,b100000,b400448=>
  bif decide (x31 < x30) then
   ae N (ee N n) n x1 x31 0 x30 x31 x7_n (x7_n:Int) 0 ([] :List (Int × Bool)) b100000 b400448 ([] :List Vthread)
  else
   dT N n x1 x7_n (x7_n:Int) 0 b100000 b400448
def eT(N:Nat)(x1:List UInt8)(y0:VMask):Option (PR ay):=
 (kW N ([(-1)] :List Int) (w64 ((w64 (2 * y0.Groups))+2))).bind fun z1=>
 (eV N ({ at_:=0,slots:=z1 }:Vthread) 0 y0 ([] :List (Int × Bool))).bind fun z2=>
 match z2 with
 |.pan vz2=>
  some (.pan vz2)
 |.ok z3=>
  ee N N x1 z3.1 (x1.length:Int) 0 z3.2.1 z3.2.2.2
end Go.Proofs.Ytlhjbhgkhpbnfaa
namespace Go.Proofs.Ytlhjbhgkhpbnfaa
open Go.RowKit P
set_option linter.unusedVariables false
set_option linter.unusedSimpArgs false
set_option maxRecDepth 100000
def fB(i0:Nat)(i1:Nat)(r:bn):TV EE.T:=.a (.vec (.nam 10) 300000 r.1)
def tb(i0:Nat)(i1:Nat)(r:bn):List (Nat × TB EE.T):=[(i0,.cs (eK EE (.nam 8) r.2.1)),(i1,.imap .bool r.2.2.1),(300000,.vec 300000 (.nam 10) r.2.2.2)]
def eX(r:PR bn):RL EE.T:=mP (fB 100000 100001) (tb 100000 100001) r
def KE:Lvs:=⟨[(4,⟨[(0,false),(1,false),(2,false),(4,false),(8,false)],[],[(8,(some 10,[])),(100000,(some 8,[])),(100001,(none,[])),(700001,(none,[]))],[]⟩),(5,⟨[(0,false),(1,false),(2,false),(4,false),(8,false),(11,false)],[],[(8,(some 10,[])),(11,(some 7,[])),(100000,(some 8,[])),(100001,(none,[])),(700001,(none,[]))],[]⟩)],[],[5],[],false,[(100000,(some 8,[]))],[100000,100001,300000],[(0,[.nl (.s 1) 700001 (.nam 10)]),(14,[.cl 401104 (.v (.int .i64)) (.s 12)])],[(88,300000),(700001,300000)]⟩
def JC:List ResultVar:=[.tmp 10]
def F5(N:Nat):Gam EE:=⟨[],EQT,[⟨55,ng N⟩,⟨38,ip N⟩],[]⟩
theorem Et(N:Nat):GOk Try.prog TT EE (F5 N):=GOk.consx (oM N) (GOk.consx (je N) (GOk.nil dh))
def AJ(c:Code):List It2:=atR 5 c
def zN(x1_n:Nat)(x4:Int)(b8:Vthread)(b11:Vstep)(b100000:VMask)(b100001:List (Int × Bool))(b700001:List Vthread):TS EE.T:=⟨89,[(0,.a (.box 100000 0)),(1,.a (.vec (.nam 10) 700001 x1_n)),(2,.a (.mpr 100001)),(4,.a (.d (.int .i64) x4)),(8,.a (.box 8 0)),(11,.a (.box 11 0))],[(8,.cs (eK EE (.nam 10) b8)),(11,.cs (eK EE (.nam 7) b11)),(100000,.cs (eK EE (.nam 8) b100000)),(100001,.imap .bool b100001),(700001,.vec 700001 (.nam 10) b700001)],[]⟩
def Ip(c:Code):List It2:=[.c c]
def F0(x3:Vthread)(x4:Int)(y0:VMask)(y1:List (Int × Bool)):TS EE.T:=⟨89,[(0,.a (.box 100000 0)),(1,.a (.raw (.slice none 0 0))),(2,.a (.mpr 100001)),(3,.ag (eK EE (.nam 10) x3)),(4,.a (.d (.int .i64) x4))],[(100000,.cs (eK EE (.nam 8) y0)),(100001,.imap .bool y1)],[]⟩
def av(c:Code)(f:Nat→Int→Vthread→Vstep→VMask→(List (Int × Bool))→(List Vthread)→Option (PR bn))(x1_n:Nat)(x4:Int)(b8:Vthread)(b11:Vstep)(b100000:VMask)(b100001:List (Int × Bool))(b700001:List Vthread):Tree (Lf EE.T × Option (PR bn)):=.leaf (.go (AJ c) (zN x1_n x4 b8 b11 b100000 b100001 b700001),f x1_n x4 b8 b11 b100000 b100001 b700001)
abbrev CW(N:Nat)(r:PR bn)(k:List It2)(s:TS EE.T):Prop:=f8 (Y:=TT) EE (F5 N) KE JC (fun u=>u=eX r) k s
def iP(x:PR bn):Tree (Lf EE.T × Option (PR bn)):=.leaf (.done (eX x),some x)
theorem ar{N:Nat}{r:PR bn}(n:Nat)(x1_n:Nat)(x4:Int)(b8:Vthread)(b11:Vstep)(b100000:VMask)(b100001:List (Int × Bool))(b700001:List Vthread)(h:ah N n x1_n x4 b8 b11 b100000 b100001 b700001=some r):CW N r (AJ (aa 0 Try.f38)) (zN x1_n x4 b8 b11 b100000 b100001 b700001):=
 aJ (m:=4000) (t:=
 .cond (b11.kind==2)
 (
  .bnd (cC N x1_n ({ at_:=b11.a,slots:=b8.slots }:Vthread) x4 b100000 b700001 b100001) fun z121=>
  .sm z121 (fun z122=>
   iP (.ok (z122.1,z122.2.1,z122.2.2.2,z122.2.2.1))) (fun vz121=>
   iP (.pan vz121)))
 (
  .cond (b11.kind==1)
  (
   .bnd (cC N x1_n ({ at_:=b11.a,slots:=b8.slots }:Vthread) x4 b100000 b700001 b100001) fun z123=>
   .sm z123 (fun z124=>
    .bnd (cC N z124.1 ({ at_:=b11.b,slots:=b8.slots }:Vthread) x4 z124.2.1 z124.2.2.1 z124.2.2.2) fun z125=>
    .sm z125 (fun z126=>
     iP (.ok (z126.1,z126.2.1,z126.2.2.2,z126.2.2.1))) (fun vz125=>
     iP (.pan vz125))) (fun vz123=>
    iP (.pan vz123)))
  (
   .cond (b11.kind==3)
   (
    .bnd (jq N b8.slots) fun z127=>
    .sm z127 (fun z128=>
     .bnd (eW z128.1 b11.a) fun z129=>
     .bnd (z128.2[z129]?) fun z130=>
     .bnd (pV z128.1 (List.set z128.2 z129 x4)) fun z131=>
     .bnd (cC N x1_n ({ at_:=w64 (b8.at_+1),slots:=z131 }:Vthread) x4 b100000 b700001 b100001) fun z132=>
     .sm z132 (fun z133=>
      iP (.ok (z133.1,z133.2.1,z133.2.2.2,z133.2.2.1))) (fun vz132=>
      iP (.pan vz132))) (fun vz127=>
     iP (.pan vz127)))
   (
    .bnd (rp 32 x1_n b700001 ([b8] :List Vthread)) fun z134=>
    iP (.ok (z134.length,b100000,b100001,z134)))))) (by kernel_rfl) (by kernel_rfl) h (⟨fun _=>⟨fun _=>be (enc:=eX) rfl,fun _=>be (enc:=eX) rfl⟩,⟨fun _=>⟨fun _=>fun _=>⟨fun _=>be (enc:=eX) rfl,fun _=>be (enc:=eX) rfl⟩,fun _=>be (enc:=eX) rfl⟩,⟨fun _=>⟨fun _=>fun _=>fun _=>fun _=>fun _=>⟨fun _=>be (enc:=eX) rfl,fun _=>be (enc:=eX) rfl⟩,fun _=>be (enc:=eX) rfl⟩,fun _=>be (enc:=eX) rfl⟩⟩⟩)
theorem G2{N:Nat}{r:PR bn}(x3:Vthread)(x4:Int)(y0:VMask)(y1:List (Int × Bool))(h:eV N x3 x4 y0 y1=some r):CW N r (Ip (aa 0 Try.f38)) (F0 x3 x4 y0 y1):=
 aJ (m:=4000) (t:=
 .cond ((sq y1 x3.at_).getD false)
 (
  iP (.ok (0,y0,y1,([] :List Vthread))))
 (
  .nl (([] :List Nat))
  (
   .nl (([] :List Nat))
   (
    .nl (([] :List Nat))
    (
     .nl (([] :List Nat))
     (
      .nl (([] :List Nat))
      (
       .nl (([] :List Nat))
       (
        .nl (([] :List Nat))
        (
         .bnd (ap y0.steps x3.at_) fun z1=>
         .nl (([] :List Nat))
         (
          av (aa 0 Try.f38) (ah N N) 0 x4 x3 z1 y0 (aE y1 x3.at_ true) ([] :List Vthread))
         (
          av (aa 0 Try.f38) (ah N N) 0 x4 x3 z1 y0 (aE y1 x3.at_ true) ([] :List Vthread)))
        (
         .bnd (ap y0.steps x3.at_) fun z2=>
         av (aa 0 Try.f38) (ah N N) 0 x4 x3 z2 y0 (aE y1 x3.at_ true) ([] :List Vthread)))
       (
        .bnd (ap y0.steps x3.at_) fun z3=>
        av (aa 0 Try.f38) (ah N N) 0 x4 x3 z3 y0 (aE y1 x3.at_ true) ([] :List Vthread)))
      (
       .bnd (ap y0.steps x3.at_) fun z4=>
       av (aa 0 Try.f38) (ah N N) 0 x4 x3 z4 y0 (aE y1 x3.at_ true) ([] :List Vthread)))
     (
      .nl (([] :List Nat))
      (
       .nl (([] :List Nat))
       (
        .nl (([] :List Nat))
        (
         .nl (([] :List Nat))
         (
          .bnd (ap y0.steps x3.at_) fun z5=>
          .nl (([] :List Nat))
          (
           av (aa 0 Try.f38) (ah N N) 0 x4 x3 z5 y0 (aE y1 x3.at_ true) ([] :List Vthread))
          (
           av (aa 0 Try.f38) (ah N N) 0 x4 x3 z5 y0 (aE y1 x3.at_ true) ([] :List Vthread)))
         (
          .bnd (ap y0.steps x3.at_) fun z6=>
          av (aa 0 Try.f38) (ah N N) 0 x4 x3 z6 y0 (aE y1 x3.at_ true) ([] :List Vthread)))
        (
         .bnd (ap y0.steps x3.at_) fun z7=>
         av (aa 0 Try.f38) (ah N N) 0 x4 x3 z7 y0 (aE y1 x3.at_ true) ([] :List Vthread)))
       (
        .nl (([] :List Nat))
        (
         .nl (([] :List Nat))
         (
          .nl (([] :List Nat))
          (
           .bnd (ap y0.steps x3.at_) fun z8=>
           .nl (([] :List Nat))
           (
            av (aa 0 Try.f38) (ah N N) 0 x4 x3 z8 y0 (aE y1 x3.at_ true) ([] :List Vthread))
           (
            av (aa 0 Try.f38) (ah N N) 0 x4 x3 z8 y0 (aE y1 x3.at_ true) ([] :List Vthread)))
          (
           .bnd (ap y0.steps x3.at_) fun z9=>
           av (aa 0 Try.f38) (ah N N) 0 x4 x3 z9 y0 (aE y1 x3.at_ true) ([] :List Vthread)))
         (
          .bnd (ap y0.steps x3.at_) fun z10=>
          av (aa 0 Try.f38) (ah N N) 0 x4 x3 z10 y0 (aE y1 x3.at_ true) ([] :List Vthread)))
        (
         .nl (([] :List Nat))
         (
          .bnd (ap y0.steps x3.at_) fun z11=>
          av (aa 0 Try.f38) (ah N N) 0 x4 x3 z11 y0 (aE y1 x3.at_ true) ([] :List Vthread))
         (
          .bnd (ap y0.steps x3.at_) fun z12=>
          av (aa 0 Try.f38) (ah N N) 0 x4 x3 z12 y0 (aE y1 x3.at_ true) ([] :List Vthread)))))
      (
       .nl (([] :List Nat))
       (
        .bnd (ap y0.steps x3.at_) fun z13=>
        av (aa 0 Try.f38) (ah N N) 0 x4 x3 z13 y0 (aE y1 x3.at_ true) ([] :List Vthread))
       (
        .nl (([] :List Nat))
        (
         .bnd (ap y0.steps x3.at_) fun z14=>
         av (aa 0 Try.f38) (ah N N) 0 x4 x3 z14 y0 (aE y1 x3.at_ true) ([] :List Vthread))
        (
         .bnd (ap y0.steps x3.at_) fun z15=>
         av (aa 0 Try.f38) (ah N N) 0 x4 x3 z15 y0 (aE y1 x3.at_ true) ([] :List Vthread))))))
    (
     .nl (([] :List Nat))
     (
      .nl (([] :List Nat))
      (
       .nl (([] :List Nat))
       (
        .nl (([] :List Nat))
        (
         .nl (([] :List Nat))
         (
          .bnd (ap y0.steps x3.at_) fun z16=>
          .nl (([] :List Nat))
          (
           av (aa 0 Try.f38) (ah N N) 0 x4 x3 z16 y0 (aE y1 x3.at_ true) ([] :List Vthread))
          (
           av (aa 0 Try.f38) (ah N N) 0 x4 x3 z16 y0 (aE y1 x3.at_ true) ([] :List Vthread)))
         (
          .bnd (ap y0.steps x3.at_) fun z17=>
          av (aa 0 Try.f38) (ah N N) 0 x4 x3 z17 y0 (aE y1 x3.at_ true) ([] :List Vthread)))
        (
         .bnd (ap y0.steps x3.at_) fun z18=>
         av (aa 0 Try.f38) (ah N N) 0 x4 x3 z18 y0 (aE y1 x3.at_ true) ([] :List Vthread)))
       (
        .nl (([] :List Nat))
        (
         .nl (([] :List Nat))
         (
          .nl (([] :List Nat))
          (
           .bnd (ap y0.steps x3.at_) fun z19=>
           .nl (([] :List Nat))
           (
            av (aa 0 Try.f38) (ah N N) 0 x4 x3 z19 y0 (aE y1 x3.at_ true) ([] :List Vthread))
           (
            av (aa 0 Try.f38) (ah N N) 0 x4 x3 z19 y0 (aE y1 x3.at_ true) ([] :List Vthread)))
          (
           .bnd (ap y0.steps x3.at_) fun z20=>
           av (aa 0 Try.f38) (ah N N) 0 x4 x3 z20 y0 (aE y1 x3.at_ true) ([] :List Vthread)))
         (
          .bnd (ap y0.steps x3.at_) fun z21=>
          av (aa 0 Try.f38) (ah N N) 0 x4 x3 z21 y0 (aE y1 x3.at_ true) ([] :List Vthread)))
        (
         .nl (([] :List Nat))
         (
          .bnd (ap y0.steps x3.at_) fun z22=>
          av (aa 0 Try.f38) (ah N N) 0 x4 x3 z22 y0 (aE y1 x3.at_ true) ([] :List Vthread))
         (
          .bnd (ap y0.steps x3.at_) fun z23=>
          av (aa 0 Try.f38) (ah N N) 0 x4 x3 z23 y0 (aE y1 x3.at_ true) ([] :List Vthread)))))
      (
       .nl (([] :List Nat))
       (
        .nl (([] :List Nat))
        (
         .nl (([] :List Nat))
         (
          .nl (([] :List Nat))
          (
           .bnd (ap y0.steps x3.at_) fun z24=>
           .nl (([] :List Nat))
           (
            av (aa 0 Try.f38) (ah N N) 0 x4 x3 z24 y0 (aE y1 x3.at_ true) ([] :List Vthread))
           (
            av (aa 0 Try.f38) (ah N N) 0 x4 x3 z24 y0 (aE y1 x3.at_ true) ([] :List Vthread)))
          (
           .bnd (ap y0.steps x3.at_) fun z25=>
           av (aa 0 Try.f38) (ah N N) 0 x4 x3 z25 y0 (aE y1 x3.at_ true) ([] :List Vthread)))
         (
          .bnd (ap y0.steps x3.at_) fun z26=>
          av (aa 0 Try.f38) (ah N N) 0 x4 x3 z26 y0 (aE y1 x3.at_ true) ([] :List Vthread)))
        (
         .bnd (ap y0.steps x3.at_) fun z27=>
         av (aa 0 Try.f38) (ah N N) 0 x4 x3 z27 y0 (aE y1 x3.at_ true) ([] :List Vthread)))
       (
        .nl (([] :List Nat))
        (
         .nl (([] :List Nat))
         (
          .bnd (ap y0.steps x3.at_) fun z28=>
          av (aa 0 Try.f38) (ah N N) 0 x4 x3 z28 y0 (aE y1 x3.at_ true) ([] :List Vthread))
         (
          .bnd (ap y0.steps x3.at_) fun z29=>
          av (aa 0 Try.f38) (ah N N) 0 x4 x3 z29 y0 (aE y1 x3.at_ true) ([] :List Vthread)))
        (
         .bnd (ap y0.steps x3.at_) fun z30=>
         av (aa 0 Try.f38) (ah N N) 0 x4 x3 z30 y0 (aE y1 x3.at_ true) ([] :List Vthread)))))
     (
      .nl (([] :List Nat))
      (
       .nl (([] :List Nat))
       (
        .bnd (ap y0.steps x3.at_) fun z31=>
        av (aa 0 Try.f38) (ah N N) 0 x4 x3 z31 y0 (aE y1 x3.at_ true) ([] :List Vthread))
       (
        .nl (([] :List Nat))
        (
         .bnd (ap y0.steps x3.at_) fun z32=>
         av (aa 0 Try.f38) (ah N N) 0 x4 x3 z32 y0 (aE y1 x3.at_ true) ([] :List Vthread))
        (
         .bnd (ap y0.steps x3.at_) fun z33=>
         av (aa 0 Try.f38) (ah N N) 0 x4 x3 z33 y0 (aE y1 x3.at_ true) ([] :List Vthread))))
      (
       .nl (([] :List Nat))
       (
        .nl (([] :List Nat))
        (
         .bnd (ap y0.steps x3.at_) fun z34=>
         av (aa 0 Try.f38) (ah N N) 0 x4 x3 z34 y0 (aE y1 x3.at_ true) ([] :List Vthread))
        (
         .bnd (ap y0.steps x3.at_) fun z35=>
         av (aa 0 Try.f38) (ah N N) 0 x4 x3 z35 y0 (aE y1 x3.at_ true) ([] :List Vthread)))
       (
        .bnd (ap y0.steps x3.at_) fun z36=>
        av (aa 0 Try.f38) (ah N N) 0 x4 x3 z36 y0 (aE y1 x3.at_ true) ([] :List Vthread))))))
   (
    .nl (([] :List Nat))
    (
     .nl (([] :List Nat))
     (
      .nl (([] :List Nat))
      (
       .nl (([] :List Nat))
       (
        .nl (([] :List Nat))
        (
         .nl (([] :List Nat))
         (
          .bnd (ap y0.steps x3.at_) fun z37=>
          .nl (([] :List Nat))
          (
           av (aa 0 Try.f38) (ah N N) 0 x4 x3 z37 y0 (aE y1 x3.at_ true) ([] :List Vthread))
          (
           av (aa 0 Try.f38) (ah N N) 0 x4 x3 z37 y0 (aE y1 x3.at_ true) ([] :List Vthread)))
         (
          .bnd (ap y0.steps x3.at_) fun z38=>
          av (aa 0 Try.f38) (ah N N) 0 x4 x3 z38 y0 (aE y1 x3.at_ true) ([] :List Vthread)))
        (
         .bnd (ap y0.steps x3.at_) fun z39=>
         av (aa 0 Try.f38) (ah N N) 0 x4 x3 z39 y0 (aE y1 x3.at_ true) ([] :List Vthread)))
       (
        .nl (([] :List Nat))
        (
         .nl (([] :List Nat))
         (
          .nl (([] :List Nat))
          (
           .bnd (ap y0.steps x3.at_) fun z40=>
           .nl (([] :List Nat))
           (
            av (aa 0 Try.f38) (ah N N) 0 x4 x3 z40 y0 (aE y1 x3.at_ true) ([] :List Vthread))
           (
            av (aa 0 Try.f38) (ah N N) 0 x4 x3 z40 y0 (aE y1 x3.at_ true) ([] :List Vthread)))
          (
           .bnd (ap y0.steps x3.at_) fun z41=>
           av (aa 0 Try.f38) (ah N N) 0 x4 x3 z41 y0 (aE y1 x3.at_ true) ([] :List Vthread)))
         (
          .bnd (ap y0.steps x3.at_) fun z42=>
          av (aa 0 Try.f38) (ah N N) 0 x4 x3 z42 y0 (aE y1 x3.at_ true) ([] :List Vthread)))
        (
         .nl (([] :List Nat))
         (
          .bnd (ap y0.steps x3.at_) fun z43=>
          av (aa 0 Try.f38) (ah N N) 0 x4 x3 z43 y0 (aE y1 x3.at_ true) ([] :List Vthread))
         (
          .bnd (ap y0.steps x3.at_) fun z44=>
          av (aa 0 Try.f38) (ah N N) 0 x4 x3 z44 y0 (aE y1 x3.at_ true) ([] :List Vthread)))))
      (
       .nl (([] :List Nat))
       (
        .nl (([] :List Nat))
        (
         .nl (([] :List Nat))
         (
          .nl (([] :List Nat))
          (
           .bnd (ap y0.steps x3.at_) fun z45=>
           .nl (([] :List Nat))
           (
            av (aa 0 Try.f38) (ah N N) 0 x4 x3 z45 y0 (aE y1 x3.at_ true) ([] :List Vthread))
           (
            av (aa 0 Try.f38) (ah N N) 0 x4 x3 z45 y0 (aE y1 x3.at_ true) ([] :List Vthread)))
          (
           .bnd (ap y0.steps x3.at_) fun z46=>
           av (aa 0 Try.f38) (ah N N) 0 x4 x3 z46 y0 (aE y1 x3.at_ true) ([] :List Vthread)))
         (
          .bnd (ap y0.steps x3.at_) fun z47=>
          av (aa 0 Try.f38) (ah N N) 0 x4 x3 z47 y0 (aE y1 x3.at_ true) ([] :List Vthread)))
        (
         .bnd (ap y0.steps x3.at_) fun z48=>
         av (aa 0 Try.f38) (ah N N) 0 x4 x3 z48 y0 (aE y1 x3.at_ true) ([] :List Vthread)))
       (
        .nl (([] :List Nat))
        (
         .nl (([] :List Nat))
         (
          .bnd (ap y0.steps x3.at_) fun z49=>
          av (aa 0 Try.f38) (ah N N) 0 x4 x3 z49 y0 (aE y1 x3.at_ true) ([] :List Vthread))
         (
          .bnd (ap y0.steps x3.at_) fun z50=>
          av (aa 0 Try.f38) (ah N N) 0 x4 x3 z50 y0 (aE y1 x3.at_ true) ([] :List Vthread)))
        (
         .bnd (ap y0.steps x3.at_) fun z51=>
         av (aa 0 Try.f38) (ah N N) 0 x4 x3 z51 y0 (aE y1 x3.at_ true) ([] :List Vthread)))))
     (
      .nl (([] :List Nat))
      (
       .nl (([] :List Nat))
       (
        .nl (([] :List Nat))
        (
         .nl (([] :List Nat))
         (
          .nl (([] :List Nat))
          (
           .bnd (ap y0.steps x3.at_) fun z52=>
           .nl (([] :List Nat))
           (
            av (aa 0 Try.f38) (ah N N) 0 x4 x3 z52 y0 (aE y1 x3.at_ true) ([] :List Vthread))
           (
            av (aa 0 Try.f38) (ah N N) 0 x4 x3 z52 y0 (aE y1 x3.at_ true) ([] :List Vthread)))
          (
           .bnd (ap y0.steps x3.at_) fun z53=>
           av (aa 0 Try.f38) (ah N N) 0 x4 x3 z53 y0 (aE y1 x3.at_ true) ([] :List Vthread)))
         (
          .bnd (ap y0.steps x3.at_) fun z54=>
          av (aa 0 Try.f38) (ah N N) 0 x4 x3 z54 y0 (aE y1 x3.at_ true) ([] :List Vthread)))
        (
         .bnd (ap y0.steps x3.at_) fun z55=>
         av (aa 0 Try.f38) (ah N N) 0 x4 x3 z55 y0 (aE y1 x3.at_ true) ([] :List Vthread)))
       (
        .bnd (ap y0.steps x3.at_) fun z56=>
        av (aa 0 Try.f38) (ah N N) 0 x4 x3 z56 y0 (aE y1 x3.at_ true) ([] :List Vthread)))
      (
       .nl (([] :List Nat))
       (
        .nl (([] :List Nat))
        (
         .nl (([] :List Nat))
         (
          .bnd (ap y0.steps x3.at_) fun z57=>
          av (aa 0 Try.f38) (ah N N) 0 x4 x3 z57 y0 (aE y1 x3.at_ true) ([] :List Vthread))
         (
          .bnd (ap y0.steps x3.at_) fun z58=>
          av (aa 0 Try.f38) (ah N N) 0 x4 x3 z58 y0 (aE y1 x3.at_ true) ([] :List Vthread)))
        (
         .bnd (ap y0.steps x3.at_) fun z59=>
         av (aa 0 Try.f38) (ah N N) 0 x4 x3 z59 y0 (aE y1 x3.at_ true) ([] :List Vthread)))
       (
        .bnd (ap y0.steps x3.at_) fun z60=>
        av (aa 0 Try.f38) (ah N N) 0 x4 x3 z60 y0 (aE y1 x3.at_ true) ([] :List Vthread)))))
    (
     .nl (([] :List Nat))
     (
      .nl (([] :List Nat))
      (
       .nl (([] :List Nat))
       (
        .bnd (ap y0.steps x3.at_) fun z61=>
        av (aa 0 Try.f38) (ah N N) 0 x4 x3 z61 y0 (aE y1 x3.at_ true) ([] :List Vthread))
       (
        .nl (([] :List Nat))
        (
         .bnd (ap y0.steps x3.at_) fun z62=>
         av (aa 0 Try.f38) (ah N N) 0 x4 x3 z62 y0 (aE y1 x3.at_ true) ([] :List Vthread))
        (
         .bnd (ap y0.steps x3.at_) fun z63=>
         av (aa 0 Try.f38) (ah N N) 0 x4 x3 z63 y0 (aE y1 x3.at_ true) ([] :List Vthread))))
      (
       .nl (([] :List Nat))
       (
        .nl (([] :List Nat))
        (
         .bnd (ap y0.steps x3.at_) fun z64=>
         av (aa 0 Try.f38) (ah N N) 0 x4 x3 z64 y0 (aE y1 x3.at_ true) ([] :List Vthread))
        (
         .bnd (ap y0.steps x3.at_) fun z65=>
         av (aa 0 Try.f38) (ah N N) 0 x4 x3 z65 y0 (aE y1 x3.at_ true) ([] :List Vthread)))
       (
        .bnd (ap y0.steps x3.at_) fun z66=>
        av (aa 0 Try.f38) (ah N N) 0 x4 x3 z66 y0 (aE y1 x3.at_ true) ([] :List Vthread))))
     (
      .nl (([] :List Nat))
      (
       .nl (([] :List Nat))
       (
        .nl (([] :List Nat))
        (
         .bnd (ap y0.steps x3.at_) fun z67=>
         av (aa 0 Try.f38) (ah N N) 0 x4 x3 z67 y0 (aE y1 x3.at_ true) ([] :List Vthread))
        (
         .bnd (ap y0.steps x3.at_) fun z68=>
         av (aa 0 Try.f38) (ah N N) 0 x4 x3 z68 y0 (aE y1 x3.at_ true) ([] :List Vthread)))
       (
        .bnd (ap y0.steps x3.at_) fun z69=>
        av (aa 0 Try.f38) (ah N N) 0 x4 x3 z69 y0 (aE y1 x3.at_ true) ([] :List Vthread)))
      (
       .bnd (ap y0.steps x3.at_) fun z70=>
       av (aa 0 Try.f38) (ah N N) 0 x4 x3 z70 y0 (aE y1 x3.at_ true) ([] :List Vthread))))))
  (
   .nl (([] :List Nat))
   (
    .nl (([] :List Nat))
    (
     .nl (([] :List Nat))
     (
      .nl (([] :List Nat))
      (
       .nl (([] :List Nat))
       (
        .nl (([] :List Nat))
        (
         .nl (([] :List Nat))
         (
          .bnd (ap y0.steps x3.at_) fun z71=>
          .nl (([] :List Nat))
          (
           av (aa 0 Try.f38) (ah N N) 0 x4 x3 z71 y0 (aE y1 x3.at_ true) ([] :List Vthread))
          (
           av (aa 0 Try.f38) (ah N N) 0 x4 x3 z71 y0 (aE y1 x3.at_ true) ([] :List Vthread)))
         (
          .bnd (ap y0.steps x3.at_) fun z72=>
          av (aa 0 Try.f38) (ah N N) 0 x4 x3 z72 y0 (aE y1 x3.at_ true) ([] :List Vthread)))
        (
         .bnd (ap y0.steps x3.at_) fun z73=>
         av (aa 0 Try.f38) (ah N N) 0 x4 x3 z73 y0 (aE y1 x3.at_ true) ([] :List Vthread)))
       (
        .nl (([] :List Nat))
        (
         .nl (([] :List Nat))
         (
          .nl (([] :List Nat))
          (
           .bnd (ap y0.steps x3.at_) fun z74=>
           .nl (([] :List Nat))
           (
            av (aa 0 Try.f38) (ah N N) 0 x4 x3 z74 y0 (aE y1 x3.at_ true) ([] :List Vthread))
           (
            av (aa 0 Try.f38) (ah N N) 0 x4 x3 z74 y0 (aE y1 x3.at_ true) ([] :List Vthread)))
          (
           .bnd (ap y0.steps x3.at_) fun z75=>
           av (aa 0 Try.f38) (ah N N) 0 x4 x3 z75 y0 (aE y1 x3.at_ true) ([] :List Vthread)))
         (
          .bnd (ap y0.steps x3.at_) fun z76=>
          av (aa 0 Try.f38) (ah N N) 0 x4 x3 z76 y0 (aE y1 x3.at_ true) ([] :List Vthread)))
        (
         .nl (([] :List Nat))
         (
          .bnd (ap y0.steps x3.at_) fun z77=>
          av (aa 0 Try.f38) (ah N N) 0 x4 x3 z77 y0 (aE y1 x3.at_ true) ([] :List Vthread))
         (
          .bnd (ap y0.steps x3.at_) fun z78=>
          av (aa 0 Try.f38) (ah N N) 0 x4 x3 z78 y0 (aE y1 x3.at_ true) ([] :List Vthread)))))
      (
       .nl (([] :List Nat))
       (
        .nl (([] :List Nat))
        (
         .nl (([] :List Nat))
         (
          .nl (([] :List Nat))
          (
           .bnd (ap y0.steps x3.at_) fun z79=>
           .nl (([] :List Nat))
           (
            av (aa 0 Try.f38) (ah N N) 0 x4 x3 z79 y0 (aE y1 x3.at_ true) ([] :List Vthread))
           (
            av (aa 0 Try.f38) (ah N N) 0 x4 x3 z79 y0 (aE y1 x3.at_ true) ([] :List Vthread)))
          (
           .bnd (ap y0.steps x3.at_) fun z80=>
           av (aa 0 Try.f38) (ah N N) 0 x4 x3 z80 y0 (aE y1 x3.at_ true) ([] :List Vthread)))
         (
          .bnd (ap y0.steps x3.at_) fun z81=>
          av (aa 0 Try.f38) (ah N N) 0 x4 x3 z81 y0 (aE y1 x3.at_ true) ([] :List Vthread)))
        (
         .bnd (ap y0.steps x3.at_) fun z82=>
         av (aa 0 Try.f38) (ah N N) 0 x4 x3 z82 y0 (aE y1 x3.at_ true) ([] :List Vthread)))
       (
        .nl (([] :List Nat))
        (
         .nl (([] :List Nat))
         (
          .bnd (ap y0.steps x3.at_) fun z83=>
          av (aa 0 Try.f38) (ah N N) 0 x4 x3 z83 y0 (aE y1 x3.at_ true) ([] :List Vthread))
         (
          .bnd (ap y0.steps x3.at_) fun z84=>
          av (aa 0 Try.f38) (ah N N) 0 x4 x3 z84 y0 (aE y1 x3.at_ true) ([] :List Vthread)))
        (
         .bnd (ap y0.steps x3.at_) fun z85=>
         av (aa 0 Try.f38) (ah N N) 0 x4 x3 z85 y0 (aE y1 x3.at_ true) ([] :List Vthread)))))
     (
      .nl (([] :List Nat))
      (
       .nl (([] :List Nat))
       (
        .nl (([] :List Nat))
        (
         .nl (([] :List Nat))
         (
          .nl (([] :List Nat))
          (
           .bnd (ap y0.steps x3.at_) fun z86=>
           .nl (([] :List Nat))
           (
            av (aa 0 Try.f38) (ah N N) 0 x4 x3 z86 y0 (aE y1 x3.at_ true) ([] :List Vthread))
           (
            av (aa 0 Try.f38) (ah N N) 0 x4 x3 z86 y0 (aE y1 x3.at_ true) ([] :List Vthread)))
          (
           .bnd (ap y0.steps x3.at_) fun z87=>
           av (aa 0 Try.f38) (ah N N) 0 x4 x3 z87 y0 (aE y1 x3.at_ true) ([] :List Vthread)))
         (
          .bnd (ap y0.steps x3.at_) fun z88=>
          av (aa 0 Try.f38) (ah N N) 0 x4 x3 z88 y0 (aE y1 x3.at_ true) ([] :List Vthread)))
        (
         .bnd (ap y0.steps x3.at_) fun z89=>
         av (aa 0 Try.f38) (ah N N) 0 x4 x3 z89 y0 (aE y1 x3.at_ true) ([] :List Vthread)))
       (
        .bnd (ap y0.steps x3.at_) fun z90=>
        av (aa 0 Try.f38) (ah N N) 0 x4 x3 z90 y0 (aE y1 x3.at_ true) ([] :List Vthread)))
      (
       .nl (([] :List Nat))
       (
        .nl (([] :List Nat))
        (
         .nl (([] :List Nat))
         (
          .bnd (ap y0.steps x3.at_) fun z91=>
          av (aa 0 Try.f38) (ah N N) 0 x4 x3 z91 y0 (aE y1 x3.at_ true) ([] :List Vthread))
         (
          .bnd (ap y0.steps x3.at_) fun z92=>
          av (aa 0 Try.f38) (ah N N) 0 x4 x3 z92 y0 (aE y1 x3.at_ true) ([] :List Vthread)))
        (
         .bnd (ap y0.steps x3.at_) fun z93=>
         av (aa 0 Try.f38) (ah N N) 0 x4 x3 z93 y0 (aE y1 x3.at_ true) ([] :List Vthread)))
       (
        .bnd (ap y0.steps x3.at_) fun z94=>
        av (aa 0 Try.f38) (ah N N) 0 x4 x3 z94 y0 (aE y1 x3.at_ true) ([] :List Vthread)))))
    (
     .nl (([] :List Nat))
     (
      .nl (([] :List Nat))
      (
       .nl (([] :List Nat))
       (
        .nl (([] :List Nat))
        (
         .nl (([] :List Nat))
         (
          .nl (([] :List Nat))
          (
           .bnd (ap y0.steps x3.at_) fun z95=>
           .nl (([] :List Nat))
           (
            av (aa 0 Try.f38) (ah N N) 0 x4 x3 z95 y0 (aE y1 x3.at_ true) ([] :List Vthread))
           (
            av (aa 0 Try.f38) (ah N N) 0 x4 x3 z95 y0 (aE y1 x3.at_ true) ([] :List Vthread)))
          (
           .bnd (ap y0.steps x3.at_) fun z96=>
           av (aa 0 Try.f38) (ah N N) 0 x4 x3 z96 y0 (aE y1 x3.at_ true) ([] :List Vthread)))
         (
          .bnd (ap y0.steps x3.at_) fun z97=>
          av (aa 0 Try.f38) (ah N N) 0 x4 x3 z97 y0 (aE y1 x3.at_ true) ([] :List Vthread)))
        (
         .bnd (ap y0.steps x3.at_) fun z98=>
         av (aa 0 Try.f38) (ah N N) 0 x4 x3 z98 y0 (aE y1 x3.at_ true) ([] :List Vthread)))
       (
        .bnd (ap y0.steps x3.at_) fun z99=>
        av (aa 0 Try.f38) (ah N N) 0 x4 x3 z99 y0 (aE y1 x3.at_ true) ([] :List Vthread)))
      (
       .bnd (ap y0.steps x3.at_) fun z100=>
       av (aa 0 Try.f38) (ah N N) 0 x4 x3 z100 y0 (aE y1 x3.at_ true) ([] :List Vthread)))
     (
      .nl (([] :List Nat))
      (
       .nl (([] :List Nat))
       (
        .nl (([] :List Nat))
        (
         .nl (([] :List Nat))
         (
          .bnd (ap y0.steps x3.at_) fun z101=>
          av (aa 0 Try.f38) (ah N N) 0 x4 x3 z101 y0 (aE y1 x3.at_ true) ([] :List Vthread))
         (
          .bnd (ap y0.steps x3.at_) fun z102=>
          av (aa 0 Try.f38) (ah N N) 0 x4 x3 z102 y0 (aE y1 x3.at_ true) ([] :List Vthread)))
        (
         .bnd (ap y0.steps x3.at_) fun z103=>
         av (aa 0 Try.f38) (ah N N) 0 x4 x3 z103 y0 (aE y1 x3.at_ true) ([] :List Vthread)))
       (
        .bnd (ap y0.steps x3.at_) fun z104=>
        av (aa 0 Try.f38) (ah N N) 0 x4 x3 z104 y0 (aE y1 x3.at_ true) ([] :List Vthread)))
      (
       .bnd (ap y0.steps x3.at_) fun z105=>
       av (aa 0 Try.f38) (ah N N) 0 x4 x3 z105 y0 (aE y1 x3.at_ true) ([] :List Vthread)))))
   (
    .nl (([] :List Nat))
    (
     .nl (([] :List Nat))
     (
      .nl (([] :List Nat))
      (
       .nl (([] :List Nat))
       (
        .bnd (ap y0.steps x3.at_) fun z106=>
        av (aa 0 Try.f38) (ah N N) 0 x4 x3 z106 y0 (aE y1 x3.at_ true) ([] :List Vthread))
       (
        .nl (([] :List Nat))
        (
         .bnd (ap y0.steps x3.at_) fun z107=>
         av (aa 0 Try.f38) (ah N N) 0 x4 x3 z107 y0 (aE y1 x3.at_ true) ([] :List Vthread))
        (
         .bnd (ap y0.steps x3.at_) fun z108=>
         av (aa 0 Try.f38) (ah N N) 0 x4 x3 z108 y0 (aE y1 x3.at_ true) ([] :List Vthread))))
      (
       .nl (([] :List Nat))
       (
        .nl (([] :List Nat))
        (
         .bnd (ap y0.steps x3.at_) fun z109=>
         av (aa 0 Try.f38) (ah N N) 0 x4 x3 z109 y0 (aE y1 x3.at_ true) ([] :List Vthread))
        (
         .bnd (ap y0.steps x3.at_) fun z110=>
         av (aa 0 Try.f38) (ah N N) 0 x4 x3 z110 y0 (aE y1 x3.at_ true) ([] :List Vthread)))
       (
        .bnd (ap y0.steps x3.at_) fun z111=>
        av (aa 0 Try.f38) (ah N N) 0 x4 x3 z111 y0 (aE y1 x3.at_ true) ([] :List Vthread))))
     (
      .nl (([] :List Nat))
      (
       .nl (([] :List Nat))
       (
        .nl (([] :List Nat))
        (
         .bnd (ap y0.steps x3.at_) fun z112=>
         av (aa 0 Try.f38) (ah N N) 0 x4 x3 z112 y0 (aE y1 x3.at_ true) ([] :List Vthread))
        (
         .bnd (ap y0.steps x3.at_) fun z113=>
         av (aa 0 Try.f38) (ah N N) 0 x4 x3 z113 y0 (aE y1 x3.at_ true) ([] :List Vthread)))
       (
        .bnd (ap y0.steps x3.at_) fun z114=>
        av (aa 0 Try.f38) (ah N N) 0 x4 x3 z114 y0 (aE y1 x3.at_ true) ([] :List Vthread)))
      (
       .bnd (ap y0.steps x3.at_) fun z115=>
       av (aa 0 Try.f38) (ah N N) 0 x4 x3 z115 y0 (aE y1 x3.at_ true) ([] :List Vthread))))
    (
     .nl (([] :List Nat))
     (
      .nl (([] :List Nat))
      (
       .nl (([] :List Nat))
       (
        .nl (([] :List Nat))
        (
         .bnd (ap y0.steps x3.at_) fun z116=>
         av (aa 0 Try.f38) (ah N N) 0 x4 x3 z116 y0 (aE y1 x3.at_ true) ([] :List Vthread))
        (
         .bnd (ap y0.steps x3.at_) fun z117=>
         av (aa 0 Try.f38) (ah N N) 0 x4 x3 z117 y0 (aE y1 x3.at_ true) ([] :List Vthread)))
       (
        .bnd (ap y0.steps x3.at_) fun z118=>
        av (aa 0 Try.f38) (ah N N) 0 x4 x3 z118 y0 (aE y1 x3.at_ true) ([] :List Vthread)))
      (
       .bnd (ap y0.steps x3.at_) fun z119=>
       av (aa 0 Try.f38) (ah N N) 0 x4 x3 z119 y0 (aE y1 x3.at_ true) ([] :List Vthread)))
     (
      .bnd (ap y0.steps x3.at_) fun z120=>
      av (aa 0 Try.f38) (ah N N) 0 x4 x3 z120 y0 (aE y1 x3.at_ true) ([] :List Vthread))))))) (by kernel_rfl) (by kernel_rfl) h (⟨be (enc:=eX) rfl,⟨fun _ _ h=>Eq.trans (by kernel_rfl) h,⟨fun _ _ h=>Eq.trans (by kernel_rfl) h,⟨fun _ _ h=>Eq.trans (by kernel_rfl) h,⟨fun _ _ h=>Eq.trans (by kernel_rfl) h,⟨fun _ _ h=>Eq.trans (by kernel_rfl) h,⟨fun _ _ h=>Eq.trans (by kernel_rfl) h,⟨fun _ _ h=>Eq.trans (by kernel_rfl) h,fun _=>⟨fun _ _ h=>Eq.trans (by kernel_rfl) h,fun h=>ar N _ _ _ _ _ _ _ h,fun h=>ar N _ _ _ _ _ _ _ h⟩,fun _=>fun h=>ar N _ _ _ _ _ _ _ h⟩,fun _=>fun h=>ar N _ _ _ _ _ _ _ h⟩,fun _=>fun h=>ar N _ _ _ _ _ _ _ h⟩,⟨fun _ _ h=>Eq.trans (by kernel_rfl) h,⟨fun _ _ h=>Eq.trans (by kernel_rfl) h,⟨fun _ _ h=>Eq.trans (by kernel_rfl) h,⟨fun _ _ h=>Eq.trans (by kernel_rfl) h,fun _=>⟨fun _ _ h=>Eq.trans (by kernel_rfl) h,fun h=>ar N _ _ _ _ _ _ _ h,fun h=>ar N _ _ _ _ _ _ _ h⟩,fun _=>fun h=>ar N _ _ _ _ _ _ _ h⟩,fun _=>fun h=>ar N _ _ _ _ _ _ _ h⟩,⟨fun _ _ h=>Eq.trans (by kernel_rfl) h,⟨fun _ _ h=>Eq.trans (by kernel_rfl) h,⟨fun _ _ h=>Eq.trans (by kernel_rfl) h,fun _=>⟨fun _ _ h=>Eq.trans (by kernel_rfl) h,fun h=>ar N _ _ _ _ _ _ _ h,fun h=>ar N _ _ _ _ _ _ _ h⟩,fun _=>fun h=>ar N _ _ _ _ _ _ _ h⟩,fun _=>fun h=>ar N _ _ _ _ _ _ _ h⟩,⟨fun _ _ h=>Eq.trans (by kernel_rfl) h,fun _=>fun h=>ar N _ _ _ _ _ _ _ h,fun _=>fun h=>ar N _ _ _ _ _ _ _ h⟩⟩⟩,⟨fun _ _ h=>Eq.trans (by kernel_rfl) h,fun _=>fun h=>ar N _ _ _ _ _ _ _ h,⟨fun _ _ h=>Eq.trans (by kernel_rfl) h,fun _=>fun h=>ar N _ _ _ _ _ _ _ h,fun _=>fun h=>ar N _ _ _ _ _ _ _ h⟩⟩⟩⟩,⟨fun _ _ h=>Eq.trans (by kernel_rfl) h,⟨fun _ _ h=>Eq.trans (by kernel_rfl) h,⟨fun _ _ h=>Eq.trans (by kernel_rfl) h,⟨fun _ _ h=>Eq.trans (by kernel_rfl) h,⟨fun _ _ h=>Eq.trans (by kernel_rfl) h,fun _=>⟨fun _ _ h=>Eq.trans (by kernel_rfl) h,fun h=>ar N _ _ _ _ _ _ _ h,fun h=>ar N _ _ _ _ _ _ _ h⟩,fun _=>fun h=>ar N _ _ _ _ _ _ _ h⟩,fun _=>fun h=>ar N _ _ _ _ _ _ _ h⟩,⟨fun _ _ h=>Eq.trans (by kernel_rfl) h,⟨fun _ _ h=>Eq.trans (by kernel_rfl) h,⟨fun _ _ h=>Eq.trans (by kernel_rfl) h,fun _=>⟨fun _ _ h=>Eq.trans (by kernel_rfl) h,fun h=>ar N _ _ _ _ _ _ _ h,fun h=>ar N _ _ _ _ _ _ _ h⟩,fun _=>fun h=>ar N _ _ _ _ _ _ _ h⟩,fun _=>fun h=>ar N _ _ _ _ _ _ _ h⟩,⟨fun _ _ h=>Eq.trans (by kernel_rfl) h,fun _=>fun h=>ar N _ _ _ _ _ _ _ h,fun _=>fun h=>ar N _ _ _ _ _ _ _ h⟩⟩⟩,⟨fun _ _ h=>Eq.trans (by kernel_rfl) h,⟨fun _ _ h=>Eq.trans (by kernel_rfl) h,⟨fun _ _ h=>Eq.trans (by kernel_rfl) h,⟨fun _ _ h=>Eq.trans (by kernel_rfl) h,fun _=>⟨fun _ _ h=>Eq.trans (by kernel_rfl) h,fun h=>ar N _ _ _ _ _ _ _ h,fun h=>ar N _ _ _ _ _ _ _ h⟩,fun _=>fun h=>ar N _ _ _ _ _ _ _ h⟩,fun _=>fun h=>ar N _ _ _ _ _ _ _ h⟩,fun _=>fun h=>ar N _ _ _ _ _ _ _ h⟩,⟨fun _ _ h=>Eq.trans (by kernel_rfl) h,⟨fun _ _ h=>Eq.trans (by kernel_rfl) h,fun _=>fun h=>ar N _ _ _ _ _ _ _ h,fun _=>fun h=>ar N _ _ _ _ _ _ _ h⟩,fun _=>fun h=>ar N _ _ _ _ _ _ _ h⟩⟩⟩,⟨fun _ _ h=>Eq.trans (by kernel_rfl) h,⟨fun _ _ h=>Eq.trans (by kernel_rfl) h,fun _=>fun h=>ar N _ _ _ _ _ _ _ h,⟨fun _ _ h=>Eq.trans (by kernel_rfl) h,fun _=>fun h=>ar N _ _ _ _ _ _ _ h,fun _=>fun h=>ar N _ _ _ _ _ _ _ h⟩⟩,⟨fun _ _ h=>Eq.trans (by kernel_rfl) h,⟨fun _ _ h=>Eq.trans (by kernel_rfl) h,fun _=>fun h=>ar N _ _ _ _ _ _ _ h,fun _=>fun h=>ar N _ _ _ _ _ _ _ h⟩,fun _=>fun h=>ar N _ _ _ _ _ _ _ h⟩⟩⟩⟩,⟨fun _ _ h=>Eq.trans (by kernel_rfl) h,⟨fun _ _ h=>Eq.trans (by kernel_rfl) h,⟨fun _ _ h=>Eq.trans (by kernel_rfl) h,⟨fun _ _ h=>Eq.trans (by kernel_rfl) h,⟨fun _ _ h=>Eq.trans (by kernel_rfl) h,⟨fun _ _ h=>Eq.trans (by kernel_rfl) h,fun _=>⟨fun _ _ h=>Eq.trans (by kernel_rfl) h,fun h=>ar N _ _ _ _ _ _ _ h,fun h=>ar N _ _ _ _ _ _ _ h⟩,fun _=>fun h=>ar N _ _ _ _ _ _ _ h⟩,fun _=>fun h=>ar N _ _ _ _ _ _ _ h⟩,⟨fun _ _ h=>Eq.trans (by kernel_rfl) h,⟨fun _ _ h=>Eq.trans (by kernel_rfl) h,⟨fun _ _ h=>Eq.trans (by kernel_rfl) h,fun _=>⟨fun _ _ h=>Eq.trans (by kernel_rfl) h,fun h=>ar N _ _ _ _ _ _ _ h,fun h=>ar N _ _ _ _ _ _ _ h⟩,fun _=>fun h=>ar N _ _ _ _ _ _ _ h⟩,fun _=>fun h=>ar N _ _ _ _ _ _ _ h⟩,⟨fun _ _ h=>Eq.trans (by kernel_rfl) h,fun _=>fun h=>ar N _ _ _ _ _ _ _ h,fun _=>fun h=>ar N _ _ _ _ _ _ _ h⟩⟩⟩,⟨fun _ _ h=>Eq.trans (by kernel_rfl) h,⟨fun _ _ h=>Eq.trans (by kernel_rfl) h,⟨fun _ _ h=>Eq.trans (by kernel_rfl) h,⟨fun _ _ h=>Eq.trans (by kernel_rfl) h,fun _=>⟨fun _ _ h=>Eq.trans (by kernel_rfl) h,fun h=>ar N _ _ _ _ _ _ _ h,fun h=>ar N _ _ _ _ _ _ _ h⟩,fun _=>fun h=>ar N _ _ _ _ _ _ _ h⟩,fun _=>fun h=>ar N _ _ _ _ _ _ _ h⟩,fun _=>fun h=>ar N _ _ _ _ _ _ _ h⟩,⟨fun _ _ h=>Eq.trans (by kernel_rfl) h,⟨fun _ _ h=>Eq.trans (by kernel_rfl) h,fun _=>fun h=>ar N _ _ _ _ _ _ _ h,fun _=>fun h=>ar N _ _ _ _ _ _ _ h⟩,fun _=>fun h=>ar N _ _ _ _ _ _ _ h⟩⟩⟩,⟨fun _ _ h=>Eq.trans (by kernel_rfl) h,⟨fun _ _ h=>Eq.trans (by kernel_rfl) h,⟨fun _ _ h=>Eq.trans (by kernel_rfl) h,⟨fun _ _ h=>Eq.trans (by kernel_rfl) h,⟨fun _ _ h=>Eq.trans (by kernel_rfl) h,fun _=>⟨fun _ _ h=>Eq.trans (by kernel_rfl) h,fun h=>ar N _ _ _ _ _ _ _ h,fun h=>ar N _ _ _ _ _ _ _ h⟩,fun _=>fun h=>ar N _ _ _ _ _ _ _ h⟩,fun _=>fun h=>ar N _ _ _ _ _ _ _ h⟩,fun _=>fun h=>ar N _ _ _ _ _ _ _ h⟩,fun _=>fun h=>ar N _ _ _ _ _ _ _ h⟩,⟨fun _ _ h=>Eq.trans (by kernel_rfl) h,⟨fun _ _ h=>Eq.trans (by kernel_rfl) h,⟨fun _ _ h=>Eq.trans (by kernel_rfl) h,fun _=>fun h=>ar N _ _ _ _ _ _ _ h,fun _=>fun h=>ar N _ _ _ _ _ _ _ h⟩,fun _=>fun h=>ar N _ _ _ _ _ _ _ h⟩,fun _=>fun h=>ar N _ _ _ _ _ _ _ h⟩⟩⟩,⟨fun _ _ h=>Eq.trans (by kernel_rfl) h,⟨fun _ _ h=>Eq.trans (by kernel_rfl) h,⟨fun _ _ h=>Eq.trans (by kernel_rfl) h,fun _=>fun h=>ar N _ _ _ _ _ _ _ h,⟨fun _ _ h=>Eq.trans (by kernel_rfl) h,fun _=>fun h=>ar N _ _ _ _ _ _ _ h,fun _=>fun h=>ar N _ _ _ _ _ _ _ h⟩⟩,⟨fun _ _ h=>Eq.trans (by kernel_rfl) h,⟨fun _ _ h=>Eq.trans (by kernel_rfl) h,fun _=>fun h=>ar N _ _ _ _ _ _ _ h,fun _=>fun h=>ar N _ _ _ _ _ _ _ h⟩,fun _=>fun h=>ar N _ _ _ _ _ _ _ h⟩⟩,⟨fun _ _ h=>Eq.trans (by kernel_rfl) h,⟨fun _ _ h=>Eq.trans (by kernel_rfl) h,⟨fun _ _ h=>Eq.trans (by kernel_rfl) h,fun _=>fun h=>ar N _ _ _ _ _ _ _ h,fun _=>fun h=>ar N _ _ _ _ _ _ _ h⟩,fun _=>fun h=>ar N _ _ _ _ _ _ _ h⟩,fun _=>fun h=>ar N _ _ _ _ _ _ _ h⟩⟩⟩⟩,⟨fun _ _ h=>Eq.trans (by kernel_rfl) h,⟨fun _ _ h=>Eq.trans (by kernel_rfl) h,⟨fun _ _ h=>Eq.trans (by kernel_rfl) h,⟨fun _ _ h=>Eq.trans (by kernel_rfl) h,⟨fun _ _ h=>Eq.trans (by kernel_rfl) h,⟨fun _ _ h=>Eq.trans (by kernel_rfl) h,⟨fun _ _ h=>Eq.trans (by kernel_rfl) h,fun _=>⟨fun _ _ h=>Eq.trans (by kernel_rfl) h,fun h=>ar N _ _ _ _ _ _ _ h,fun h=>ar N _ _ _ _ _ _ _ h⟩,fun _=>fun h=>ar N _ _ _ _ _ _ _ h⟩,fun _=>fun h=>ar N _ _ _ _ _ _ _ h⟩,⟨fun _ _ h=>Eq.trans (by kernel_rfl) h,⟨fun _ _ h=>Eq.trans (by kernel_rfl) h,⟨fun _ _ h=>Eq.trans (by kernel_rfl) h,fun _=>⟨fun _ _ h=>Eq.trans (by kernel_rfl) h,fun h=>ar N _ _ _ _ _ _ _ h,fun h=>ar N _ _ _ _ _ _ _ h⟩,fun _=>fun h=>ar N _ _ _ _ _ _ _ h⟩,fun _=>fun h=>ar N _ _ _ _ _ _ _ h⟩,⟨fun _ _ h=>Eq.trans (by kernel_rfl) h,fun _=>fun h=>ar N _ _ _ _ _ _ _ h,fun _=>fun h=>ar N _ _ _ _ _ _ _ h⟩⟩⟩,⟨fun _ _ h=>Eq.trans (by kernel_rfl) h,⟨fun _ _ h=>Eq.trans (by kernel_rfl) h,⟨fun _ _ h=>Eq.trans (by kernel_rfl) h,⟨fun _ _ h=>Eq.trans (by kernel_rfl) h,fun _=>⟨fun _ _ h=>Eq.trans (by kernel_rfl) h,fun h=>ar N _ _ _ _ _ _ _ h,fun h=>ar N _ _ _ _ _ _ _ h⟩,fun _=>fun h=>ar N _ _ _ _ _ _ _ h⟩,fun _=>fun h=>ar N _ _ _ _ _ _ _ h⟩,fun _=>fun h=>ar N _ _ _ _ _ _ _ h⟩,⟨fun _ _ h=>Eq.trans (by kernel_rfl) h,⟨fun _ _ h=>Eq.trans (by kernel_rfl) h,fun _=>fun h=>ar N _ _ _ _ _ _ _ h,fun _=>fun h=>ar N _ _ _ _ _ _ _ h⟩,fun _=>fun h=>ar N _ _ _ _ _ _ _ h⟩⟩⟩,⟨fun _ _ h=>Eq.trans (by kernel_rfl) h,⟨fun _ _ h=>Eq.trans (by kernel_rfl) h,⟨fun _ _ h=>Eq.trans (by kernel_rfl) h,⟨fun _ _ h=>Eq.trans (by kernel_rfl) h,⟨fun _ _ h=>Eq.trans (by kernel_rfl) h,fun _=>⟨fun _ _ h=>Eq.trans (by kernel_rfl) h,fun h=>ar N _ _ _ _ _ _ _ h,fun h=>ar N _ _ _ _ _ _ _ h⟩,fun _=>fun h=>ar N _ _ _ _ _ _ _ h⟩,fun _=>fun h=>ar N _ _ _ _ _ _ _ h⟩,fun _=>fun h=>ar N _ _ _ _ _ _ _ h⟩,fun _=>fun h=>ar N _ _ _ _ _ _ _ h⟩,⟨fun _ _ h=>Eq.trans (by kernel_rfl) h,⟨fun _ _ h=>Eq.trans (by kernel_rfl) h,⟨fun _ _ h=>Eq.trans (by kernel_rfl) h,fun _=>fun h=>ar N _ _ _ _ _ _ _ h,fun _=>fun h=>ar N _ _ _ _ _ _ _ h⟩,fun _=>fun h=>ar N _ _ _ _ _ _ _ h⟩,fun _=>fun h=>ar N _ _ _ _ _ _ _ h⟩⟩⟩,⟨fun _ _ h=>Eq.trans (by kernel_rfl) h,⟨fun _ _ h=>Eq.trans (by kernel_rfl) h,⟨fun _ _ h=>Eq.trans (by kernel_rfl) h,⟨fun _ _ h=>Eq.trans (by kernel_rfl) h,⟨fun _ _ h=>Eq.trans (by kernel_rfl) h,⟨fun _ _ h=>Eq.trans (by kernel_rfl) h,fun _=>⟨fun _ _ h=>Eq.trans (by kernel_rfl) h,fun h=>ar N _ _ _ _ _ _ _ h,fun h=>ar N _ _ _ _ _ _ _ h⟩,fun _=>fun h=>ar N _ _ _ _ _ _ _ h⟩,fun _=>fun h=>ar N _ _ _ _ _ _ _ h⟩,fun _=>fun h=>ar N _ _ _ _ _ _ _ h⟩,fun _=>fun h=>ar N _ _ _ _ _ _ _ h⟩,fun _=>fun h=>ar N _ _ _ _ _ _ _ h⟩,⟨fun _ _ h=>Eq.trans (by kernel_rfl) h,⟨fun _ _ h=>Eq.trans (by kernel_rfl) h,⟨fun _ _ h=>Eq.trans (by kernel_rfl) h,⟨fun _ _ h=>Eq.trans (by kernel_rfl) h,fun _=>fun h=>ar N _ _ _ _ _ _ _ h,fun _=>fun h=>ar N _ _ _ _ _ _ _ h⟩,fun _=>fun h=>ar N _ _ _ _ _ _ _ h⟩,fun _=>fun h=>ar N _ _ _ _ _ _ _ h⟩,fun _=>fun h=>ar N _ _ _ _ _ _ _ h⟩⟩⟩,⟨fun _ _ h=>Eq.trans (by kernel_rfl) h,⟨fun _ _ h=>Eq.trans (by kernel_rfl) h,⟨fun _ _ h=>Eq.trans (by kernel_rfl) h,⟨fun _ _ h=>Eq.trans (by kernel_rfl) h,fun _=>fun h=>ar N _ _ _ _ _ _ _ h,⟨fun _ _ h=>Eq.trans (by kernel_rfl) h,fun _=>fun h=>ar N _ _ _ _ _ _ _ h,fun _=>fun h=>ar N _ _ _ _ _ _ _ h⟩⟩,⟨fun _ _ h=>Eq.trans (by kernel_rfl) h,⟨fun _ _ h=>Eq.trans (by kernel_rfl) h,fun _=>fun h=>ar N _ _ _ _ _ _ _ h,fun _=>fun h=>ar N _ _ _ _ _ _ _ h⟩,fun _=>fun h=>ar N _ _ _ _ _ _ _ h⟩⟩,⟨fun _ _ h=>Eq.trans (by kernel_rfl) h,⟨fun _ _ h=>Eq.trans (by kernel_rfl) h,⟨fun _ _ h=>Eq.trans (by kernel_rfl) h,fun _=>fun h=>ar N _ _ _ _ _ _ _ h,fun _=>fun h=>ar N _ _ _ _ _ _ _ h⟩,fun _=>fun h=>ar N _ _ _ _ _ _ _ h⟩,fun _=>fun h=>ar N _ _ _ _ _ _ _ h⟩⟩,⟨fun _ _ h=>Eq.trans (by kernel_rfl) h,⟨fun _ _ h=>Eq.trans (by kernel_rfl) h,⟨fun _ _ h=>Eq.trans (by kernel_rfl) h,⟨fun _ _ h=>Eq.trans (by kernel_rfl) h,fun _=>fun h=>ar N _ _ _ _ _ _ _ h,fun _=>fun h=>ar N _ _ _ _ _ _ _ h⟩,fun _=>fun h=>ar N _ _ _ _ _ _ _ h⟩,fun _=>fun h=>ar N _ _ _ _ _ _ _ h⟩,fun _=>fun h=>ar N _ _ _ _ _ _ _ h⟩⟩⟩⟩⟩)
def CR(x3:Vthread)(x4:Int)(y0:VMask)(y1:List (Int × Bool)):List (TV EE.T):=[.a (.box 100000 0),.a (.raw (.slice none 0 0)),.a (.mpr 100001),.ag (eK EE (.nam 10) x3),.a (.d (.int .i64) x4)]
def xg(x3:Vthread)(x4:Int)(y0:VMask)(y1:List (Int × Bool)):List (Nat × TB EE.T):=[(100000,.cs (eK EE (.nam 8) y0)),(100001,.imap .bool y1)]
theorem oy{N:Nat}(x3:Vthread)(x4:Int)(y0:VMask)(y1:List (Int × Bool)){r:PR bn}(h:eV N x3 x4 y0 y1=some r)(ρ:Rn)(hi:Inj ρ (xg x3 x4 y0 y1)):aT Try.prog 38 ((CR x3 x4 y0 y1).map (TV.to EE.toEnc ρ)) (hTo EE.toEnc ρ (xg x3 x4 y0 y1)) (cS EE ρ fun u=>u=eX r):=
 fA (aa 0 Try.f38) 89 mixed (Et N) Try.func38 (by kernel_rfl) rfl rfl rfl rfl (G2 x3 x4 y0 y1 h) ρ hi
def jz(N:Nat)(us:List (TV EE.T))(hs:List (Nat × TB EE.T)):XR EE.T:=
 gdX (fU us 5) <|
 bnX (aB us 0) fun i0=>
 gdX (aN us 1) <|
 bnX (aM us 2) fun i1=>
 bnX (aS EE 10 us 3) fun x3=>
 bnX (aD (.int .i64) us 4) fun x4=>
 bnX (bS EE 8 hs i0) fun y0=>
 bnX (bI .bool hs i1) fun y1=>
 gdX (bX hs [i0,i1]) <|
 gdX (iw [i0,i1,300000]) <|
 .mv (eV N x3 x4 y0 y1) [i0,i1] (mvL [i0,i1] [100000,100001]) 1 (fB i0 i1) (tb i0 i1)
theorem mA(N:Nat):XOk Try.prog EE 38 (jz N):=fun us hs=>
 a8 fun h1=>aA fun i0 h2=>a8 fun h3=>aA fun i1 h4=>aA fun x3 h5=>aA fun x4 h6=>aA fun y0 h7=>aA fun y1 h8=>a8 fun h9=>a8 fun h10=>fun p hz ρ hi=>gm (ex:=[(300000,300000)]) (ks:=[100000,100001]) (us':=CR x3 x4 y0 y1) (h0:=xg x3 x4 y0 y1) (ρ':=mT ρ [i0,i1]) (uc:=fB 100000 100001) (u:=fB i0 i1) (hc:=tb 100000 100001) (h:=tb i0 i1) hi h9 (by kernel_rfl) ⟨jf h2 (by kernel_rfl),NM h3,K7 h4 (by kernel_rfl),F4 h5,mo h6,cf h1⟩ ⟨(by kernel_rfl),GU h7,(by kernel_rfl),KY h8,trivial⟩ ⟨.inr rfl,.inr rfl,trivial⟩ h10 (fun hj=>oy x3 x4 y0 y1 hz _ hj) (fun z=>⟨by kernel_rfl,by kernel_rfl,by kernel_rfl,by kernel_rfl⟩)
def jE(r:ay):TV EE.T:=.tu [.a (.d .bool r.1),.a (.d (.sl .str) r.2.1)]
def CF(i0:Nat)(r:ay):List (Nat × TB EE.T):=[(i0,.cs (eK EE (.nam 8) r.2.2))]
def kY(r:PR ay):RL EE.T:=match r with
 |.ok z=>.ret (jE z) (CF 100000 z)
 |.pan v=>.pan v
def I5:Lvs:=⟨[(11,⟨[(0,false),(1,false),(8,false),(9,false),(10,false),(12,false),(30,false),(31,false),(35,false),(36,false),(37,false)],[],[(12,(some 10,[])),(34,(none,[])),(100000,(some 8,[])),(400448,(none,[])),(700009,(none,[]))],[]⟩),(12,⟨[(0,false),(1,false),(8,false),(9,false),(10,false),(12,false),(13,false),(30,false),(31,false),(35,false),(36,false),(37,false)],[],[(12,(some 10,[])),(13,(some 7,[])),(34,(none,[])),(100000,(some 8,[])),(400448,(none,[])),(700009,(none,[]))],[]⟩),(14,⟨[(0,false),(1,false),(8,false),(9,false),(10,false),(30,false),(31,false),(35,false),(36,false),(37,false)],[],[(34,(none,[])),(100000,(some 8,[])),(400448,(none,[])),(700009,(none,[]))],[]⟩),(20,⟨[(0,false),(1,false),(15,false),(77,false),(78,false),(79,false)],[],[(15,(some 10,[])),(100000,(some 8,[])),(400448,(none,[]))],[]⟩)],[(4,⟨[(0,false),(1,false),(7,false),(30,false),(31,false)],[],[(100000,(some 8,[])),(400448,(none,[]))],[(700009,400448)]⟩),(9,⟨[(0,false),(1,false),(8,false),(9,false),(10,false),(30,false),(31,false),(35,false),(36,false),(37,false)],[],[(34,(none,[])),(100000,(some 8,[])),(400448,(none,[])),(700009,(none,[]))],[]⟩),(18,⟨[(0,false),(1,false),(77,false),(78,false),(79,false)],[],[(100000,(some 8,[])),(400448,(none,[]))],[]⟩)],[12,14],[],false,[(100000,(some 8,[]))],[100000],[(7,[.nl (.s 9) 700009 (.nam 10)])],[]⟩
def IT:List ResultVar:=[.tmp 4,.tmp 5]
def GJ(N:Nat):Gam EE:=⟨[⟨37,mq N⟩],EQT,[⟨38,ip N⟩,⟨39,iC N⟩,⟨38,jz N⟩],[]⟩
theorem Hw(N:Nat):GOk Try.prog TT EE (GJ N):=GOk.cons (vi N) (GOk.consx (je N) (GOk.consx (lE N) (GOk.consx (mA N) (GOk.nil dh))))
def wq(c:Code):List It2:=atR 14 c
def wy(x1:List UInt8)(x8:Int)(x9_n:Nat)(x30:Int)(x31:Int)(x35_n:Nat)(x36:Int)(x37:Int)(b34:List (Int × Bool))(b100000:VMask)(b400448:List Vthread)(b700009:List Vthread):TS EE.T:=⟨99,[(0,.a (.box 100000 0)),(1,.a (.d .str x1)),(8,.a (.d (.int .i64) x8)),(9,.a (.vec (.nam 10) 700009 x9_n)),(10,.a (.mpr 34)),(30,.a (.d (.int .i64) x30)),(31,.a (.d (.int .i64) x31)),(35,.a (.vec (.nam 10) 400448 x35_n)),(36,.a (.d (.int .i64) x36)),(37,.a (.d (.int .i64) x37))],[(34,.imap .bool b34),(100000,.cs (eK EE (.nam 8) b100000)),(400448,.vec 400448 (.nam 10) b400448),(700009,.vec 700009 (.nam 10) b700009)],[]⟩
def wb(c:Code):List It2:=atR 12 c
def w5(x1:List UInt8)(x8:Int)(x9_n:Nat)(x30:Int)(x31:Int)(x35_n:Nat)(x36:Int)(x37:Int)(b12:Vthread)(b13:Vstep)(b34:List (Int × Bool))(b100000:VMask)(b400448:List Vthread)(b700009:List Vthread):TS EE.T:=⟨99,[(0,.a (.box 100000 0)),(1,.a (.d .str x1)),(8,.a (.d (.int .i64) x8)),(9,.a (.vec (.nam 10) 700009 x9_n)),(10,.a (.mpr 34)),(12,.a (.box 12 0)),(13,.a (.box 13 0)),(30,.a (.d (.int .i64) x30)),(31,.a (.d (.int .i64) x31)),(35,.a (.vec (.nam 10) 400448 x35_n)),(36,.a (.d (.int .i64) x36)),(37,.a (.d (.int .i64) x37))],[(12,.cs (eK EE (.nam 10) b12)),(13,.cs (eK EE (.nam 7) b13)),(34,.imap .bool b34),(100000,.cs (eK EE (.nam 8) b100000)),(400448,.vec 400448 (.nam 10) b400448),(700009,.vec 700009 (.nam 10) b700009)],[]⟩
def qd(c:Code):List It2:=atL 9 c
def ql(x1:List UInt8)(x8:Int)(x9_n:Nat)(x30:Int)(x31:Int)(x35_n:Nat)(x36:Int)(x37:Int)(b34:List (Int × Bool))(b100000:VMask)(b400448:List Vthread)(b700009:List Vthread):TS EE.T:=⟨99,[(0,.a (.box 100000 0)),(1,.a (.d .str x1)),(8,.a (.d (.int .i64) x8)),(9,.a (.vec (.nam 10) 700009 x9_n)),(10,.a (.mpr 34)),(30,.a (.d (.int .i64) x30)),(31,.a (.d (.int .i64) x31)),(35,.a (.vec (.nam 10) 400448 x35_n)),(36,.a (.d (.int .i64) x36)),(37,.a (.d (.int .i64) x37))],[(34,.imap .bool b34),(100000,.cs (eK EE (.nam 8) b100000)),(400448,.vec 400448 (.nam 10) b400448),(700009,.vec 700009 (.nam 10) b700009)],[]⟩
def vW(c:Code):List It2:=atL 18 c
def vQ(x1:List UInt8)(x77_n:Nat)(x78:Int)(x79:Int)(b100000:VMask)(b400448:List Vthread):TS EE.T:=⟨99,[(0,.a (.box 100000 0)),(1,.a (.d .str x1)),(77,.a (.vec (.nam 10) 400448 x77_n)),(78,.a (.d (.int .i64) x78)),(79,.a (.d (.int .i64) x79))],[(100000,.cs (eK EE (.nam 8) b100000)),(400448,.vec 400448 (.nam 10) b400448)],[]⟩
def na(c:Code):List It2:=atL 4 c
def ne(x1:List UInt8)(x7_n:Nat)(x30:Int)(x31:Int)(b100000:VMask)(b400448:List Vthread):TS EE.T:=⟨99,[(0,.a (.box 100000 0)),(1,.a (.d .str x1)),(7,.a (.vec (.nam 10) 400448 x7_n)),(30,.a (.d (.int .i64) x30)),(31,.a (.d (.int .i64) x31))],[(100000,.cs (eK EE (.nam 8) b100000)),(400448,.vec 400448 (.nam 10) b400448)],[]⟩
def FL(c:Code):List It2:=[.c c]
def Gu(x1:List UInt8)(y0:VMask):TS EE.T:=⟨99,[(0,.a (.box 100000 0)),(1,.a (.d .str x1))],[(100000,.cs (eK EE (.nam 8) y0))],[]⟩
def qH(c:Code)(f:(List UInt8)→Int→Nat→Int→Int→Nat→Int→Int→(List (Int × Bool))→VMask→(List Vthread)→(List Vthread)→Option (PR ay))(x1:List UInt8)(x8:Int)(x9_n:Nat)(x30:Int)(x31:Int)(x35_n:Nat)(x36:Int)(x37:Int)(b34:List (Int × Bool))(b100000:VMask)(b400448:List Vthread)(b700009:List Vthread):Tree (Lf EE.T × Option (PR ay)):=.leaf (.go (wq c) (wy x1 x8 x9_n x30 x31 x35_n x36 x37 b34 b100000 b400448 b700009),f x1 x8 x9_n x30 x31 x35_n x36 x37 b34 b100000 b400448 b700009)
def ak(c:Code)(f:(List UInt8)→Int→Nat→Int→Int→Nat→Int→Int→Vthread→Vstep→(List (Int × Bool))→VMask→(List Vthread)→(List Vthread)→Option (PR ay))(x1:List UInt8)(x8:Int)(x9_n:Nat)(x30:Int)(x31:Int)(x35_n:Nat)(x36:Int)(x37:Int)(b12:Vthread)(b13:Vstep)(b34:List (Int × Bool))(b100000:VMask)(b400448:List Vthread)(b700009:List Vthread):Tree (Lf EE.T × Option (PR ay)):=.leaf (.go (wb c) (w5 x1 x8 x9_n x30 x31 x35_n x36 x37 b12 b13 b34 b100000 b400448 b700009),f x1 x8 x9_n x30 x31 x35_n x36 x37 b12 b13 b34 b100000 b400448 b700009)
def zA(c:Code)(f:(List UInt8)→Int→Nat→Int→Int→Nat→Int→Int→(List (Int × Bool))→VMask→(List Vthread)→(List Vthread)→Option (PR ay))(x1:List UInt8)(x8:Int)(x9_n:Nat)(x30:Int)(x31:Int)(x35_n:Nat)(x36:Int)(x37:Int)(b34:List (Int × Bool))(b100000:VMask)(b400448:List Vthread)(b700009:List Vthread):Tree (Lf EE.T × Option (PR ay)):=.leaf (.go (qd c) (ql x1 x8 x9_n x30 x31 x35_n x36 x37 b34 b100000 b400448 b700009),f x1 x8 x9_n x30 x31 x35_n x36 x37 b34 b100000 b400448 b700009)
def wz(c:Code)(f:(List UInt8)→Nat→Int→Int→VMask→(List Vthread)→Option (PR ay))(x1:List UInt8)(x77_n:Nat)(x78:Int)(x79:Int)(b100000:VMask)(b400448:List Vthread):Tree (Lf EE.T × Option (PR ay)):=.leaf (.go (vW c) (vQ x1 x77_n x78 x79 b100000 b400448),f x1 x77_n x78 x79 b100000 b400448)
def AT(c:Code)(f:(List UInt8)→Nat→Int→Int→VMask→(List Vthread)→Option (PR ay))(x1:List UInt8)(x7_n:Nat)(x30:Int)(x31:Int)(b100000:VMask)(b400448:List Vthread):Tree (Lf EE.T × Option (PR ay)):=.leaf (.go (na c) (ne x1 x7_n x30 x31 b100000 b400448),f x1 x7_n x30 x31 b100000 b400448)
abbrev g8(N:Nat)(r:PR ay)(k:List It2)(s:TS EE.T):Prop:=f8 (Y:=TT) EE (GJ N) I5 IT (fun u=>u=kY r) k s
def sL(x:PR ay):Tree (Lf EE.T × Option (PR ay)):=.leaf (.done (kY x),some x)
theorem qE{N:Nat}{r:PR ay}{k9:(List UInt8)→Int→Nat→Int→Int→Nat→Int→Int→(List (Int × Bool))→VMask→(List Vthread)→(List Vthread)→Option (PR ay)}{k4:(List UInt8)→Nat→Int→Int→VMask→(List Vthread)→Option (PR ay)}(hk9:∀x1 x8 x9_n x30 x31 x35_n x36 x37 b34 b100000 b400448 b700009,k9 x1 x8 x9_n x30 x31 x35_n x36 x37 b34 b100000 b400448 b700009=some r→g8 N r (qd (aa 0 Try.f22)) (ql x1 x8 x9_n x30 x31 x35_n x36 x37 b34 b100000 b400448 b700009))(hk4:∀x1 x7_n x30 x31 b100000 b400448,k4 x1 x7_n x30 x31 b100000 b400448=some r→g8 N r (na (aa 0 Try.f22)) (ne x1 x7_n x30 x31 b100000 b400448))(n:Nat)(x1:List UInt8)(x8:Int)(x9_n:Nat)(x30:Int)(x31:Int)(x35_n:Nat)(x36:Int)(x37:Int)(b34:List (Int × Bool))(b100000:VMask)(b400448:List Vthread)(b700009:List Vthread)(h:cA N k9 k4 n x1 x8 x9_n x30 x31 x35_n x36 x37 b34 b100000 b400448 b700009=some r):g8 N r (wq (aa 0 Try.f22)) (wy x1 x8 x9_n x30 x31 x35_n x36 x37 b34 b100000 b400448 b700009):=
 aJ (m:=4000) (t:=
 zA (aa 0 Try.f22) k9 x1 x8 x9_n x30 x31 x35_n x36 (w64 (x37+1)) b34 b100000 b400448 b700009) (by kernel_rfl) (by kernel_rfl) h (fun h=>hk9 _ _ _ _ _ _ _ _ _ _ _ _ h)
theorem am{N:Nat}{r:PR ay}{k9:(List UInt8)→Int→Nat→Int→Int→Nat→Int→Int→(List (Int × Bool))→VMask→(List Vthread)→(List Vthread)→Option (PR ay)}{k4:(List UInt8)→Nat→Int→Int→VMask→(List Vthread)→Option (PR ay)}(hk9:∀x1 x8 x9_n x30 x31 x35_n x36 x37 b34 b100000 b400448 b700009,k9 x1 x8 x9_n x30 x31 x35_n x36 x37 b34 b100000 b400448 b700009=some r→g8 N r (qd (aa 0 Try.f22)) (ql x1 x8 x9_n x30 x31 x35_n x36 x37 b34 b100000 b400448 b700009))(hk4:∀x1 x7_n x30 x31 b100000 b400448,k4 x1 x7_n x30 x31 b100000 b400448=some r→g8 N r (na (aa 0 Try.f22)) (ne x1 x7_n x30 x31 b100000 b400448))(n:Nat)(x1:List UInt8)(x8:Int)(x9_n:Nat)(x30:Int)(x31:Int)(x35_n:Nat)(x36:Int)(x37:Int)(b12:Vthread)(b13:Vstep)(b34:List (Int × Bool))(b100000:VMask)(b400448:List Vthread)(b700009:List Vthread)(h:ab N k9 k4 n x1 x8 x9_n x30 x31 x35_n x36 x37 b12 b13 b34 b100000 b400448 b700009=some r):g8 N r (wb (aa 0 Try.f22)) (w5 x1 x8 x9_n x30 x31 x35_n x36 x37 b12 b13 b34 b100000 b400448 b700009):=
 aJ (m:=4000) (t:=
 .cond (b13.kind==0)
 (
  .bnd (ap x1 x8) fun z130=>
  .bnd (b13.set_) fun z131=>
  .bnd (GR 256 (some z131) (b2i z130)) fun z132=>
  .cond (z132)
  (
   .bnd (cC N x9_n ({ at_:=w64 (b12.at_+1),slots:=b12.slots }:Vthread) (w64 (x8+1)) b100000 b700009 b34) fun z133=>
   .sm z133 (fun z134=>
    qH (aa 0 Try.f22) (cA N k9 k4 n) x1 x8 z134.1 x30 x31 x35_n x36 x37 z134.2.2.2 z134.2.1 b400448 z134.2.2.1) (fun vz133=>
    sL (.pan vz133)))
  (
   qH (aa 0 Try.f22) (cA N k9 k4 n) x1 x8 x9_n x30 x31 x35_n x36 x37 b34 b100000 b400448 b700009))
 (
  qH (aa 0 Try.f22) (cA N k9 k4 n) x1 x8 x9_n x30 x31 x35_n x36 x37 b34 b100000 b400448 b700009)) (by kernel_rfl) (by kernel_rfl) h (⟨fun _=>fun _=>fun _=>⟨fun _=>⟨fun _=>fun h=>qE hk9 hk4 n _ _ _ _ _ _ _ _ _ _ _ _ h,fun _=>be (enc:=kY) rfl⟩,fun h=>qE hk9 hk4 n _ _ _ _ _ _ _ _ _ _ _ _ h⟩,fun h=>qE hk9 hk4 n _ _ _ _ _ _ _ _ _ _ _ _ h⟩)
theorem aq{N:Nat}{r:PR ay}{k4:(List UInt8)→Nat→Int→Int→VMask→(List Vthread)→Option (PR ay)}(hk4:∀x1 x7_n x30 x31 b100000 b400448,k4 x1 x7_n x30 x31 b100000 b400448=some r→g8 N r (na (aa 0 Try.f22)) (ne x1 x7_n x30 x31 b100000 b400448)):∀ (n:Nat) (x1:List UInt8) (x8:Int) (x9_n:Nat) (x30:Int) (x31:Int) (x35_n:Nat) (x36:Int) (x37:Int) (b34:List (Int × Bool)) (b100000:VMask) (b400448:List Vthread) (b700009:List Vthread),ae N k4 n x1 x8 x9_n x30 x31 x35_n x36 x37 b34 b100000 b400448 b700009=some r→g8 N r (qd (aa 0 Try.f22)) (ql x1 x8 x9_n x30 x31 x35_n x36 x37 b34 b100000 b400448 b700009)
 |0,_,_,_,_,_,_,_,_,_,_,_,_,h=>by cases h
 |n+1,x1,x8,x9_n,x30,x31,x35_n,x36,x37,b34,b100000,b400448,b700009,h=>aJ (m:=4000) (t:=
  .cond (decide (x37 < x36))
  (
   .bnd (eW x35_n x37) fun z4=>
   .bnd (b400448[z4]?) fun z5=>
   .nl (([] :List Nat))
   (
    .nl (([] :List Nat))
    (
     .nl (([] :List Nat))
     (
      .nl (([] :List Nat))
      (
       .nl (([] :List Nat))
       (
        .nl (([] :List Nat))
        (
         .nl (([] :List Nat))
         (
          .bnd (ap b100000.steps z5.at_) fun z6=>
          .nl (([] :List Nat))
          (
           ak (aa 0 Try.f22) (ab N (ae N k4 n) k4 n) x1 x8 x9_n x30 x31 x35_n x36 x37 z5 z6 b34 b100000 b400448 b700009)
          (
           ak (aa 0 Try.f22) (ab N (ae N k4 n) k4 n) x1 x8 x9_n x30 x31 x35_n x36 x37 z5 z6 b34 b100000 b400448 b700009))
         (
          .bnd (ap b100000.steps z5.at_) fun z7=>
          ak (aa 0 Try.f22) (ab N (ae N k4 n) k4 n) x1 x8 x9_n x30 x31 x35_n x36 x37 z5 z7 b34 b100000 b400448 b700009))
        (
         .bnd (ap b100000.steps z5.at_) fun z8=>
         ak (aa 0 Try.f22) (ab N (ae N k4 n) k4 n) x1 x8 x9_n x30 x31 x35_n x36 x37 z5 z8 b34 b100000 b400448 b700009))
       (
        .bnd (ap b100000.steps z5.at_) fun z9=>
        ak (aa 0 Try.f22) (ab N (ae N k4 n) k4 n) x1 x8 x9_n x30 x31 x35_n x36 x37 z5 z9 b34 b100000 b400448 b700009))
      (
       .nl (([] :List Nat))
       (
        .nl (([] :List Nat))
        (
         .nl (([] :List Nat))
         (
          .nl (([] :List Nat))
          (
           .bnd (ap b100000.steps z5.at_) fun z10=>
           .nl (([] :List Nat))
           (
            ak (aa 0 Try.f22) (ab N (ae N k4 n) k4 n) x1 x8 x9_n x30 x31 x35_n x36 x37 z5 z10 b34 b100000 b400448 b700009)
           (
            ak (aa 0 Try.f22) (ab N (ae N k4 n) k4 n) x1 x8 x9_n x30 x31 x35_n x36 x37 z5 z10 b34 b100000 b400448 b700009))
          (
           .bnd (ap b100000.steps z5.at_) fun z11=>
           ak (aa 0 Try.f22) (ab N (ae N k4 n) k4 n) x1 x8 x9_n x30 x31 x35_n x36 x37 z5 z11 b34 b100000 b400448 b700009))
         (
          .bnd (ap b100000.steps z5.at_) fun z12=>
          ak (aa 0 Try.f22) (ab N (ae N k4 n) k4 n) x1 x8 x9_n x30 x31 x35_n x36 x37 z5 z12 b34 b100000 b400448 b700009))
        (
         .nl (([] :List Nat))
         (
          .nl (([] :List Nat))
          (
           .nl (([] :List Nat))
           (
            .bnd (ap b100000.steps z5.at_) fun z13=>
            .nl (([] :List Nat))
            (
             ak (aa 0 Try.f22) (ab N (ae N k4 n) k4 n) x1 x8 x9_n x30 x31 x35_n x36 x37 z5 z13 b34 b100000 b400448 b700009)
            (
             ak (aa 0 Try.f22) (ab N (ae N k4 n) k4 n) x1 x8 x9_n x30 x31 x35_n x36 x37 z5 z13 b34 b100000 b400448 b700009))
           (
            .bnd (ap b100000.steps z5.at_) fun z14=>
            ak (aa 0 Try.f22) (ab N (ae N k4 n) k4 n) x1 x8 x9_n x30 x31 x35_n x36 x37 z5 z14 b34 b100000 b400448 b700009))
          (
           .bnd (ap b100000.steps z5.at_) fun z15=>
           ak (aa 0 Try.f22) (ab N (ae N k4 n) k4 n) x1 x8 x9_n x30 x31 x35_n x36 x37 z5 z15 b34 b100000 b400448 b700009))
         (
          .nl (([] :List Nat))
          (
           .bnd (ap b100000.steps z5.at_) fun z16=>
           ak (aa 0 Try.f22) (ab N (ae N k4 n) k4 n) x1 x8 x9_n x30 x31 x35_n x36 x37 z5 z16 b34 b100000 b400448 b700009)
          (
           .bnd (ap b100000.steps z5.at_) fun z17=>
           ak (aa 0 Try.f22) (ab N (ae N k4 n) k4 n) x1 x8 x9_n x30 x31 x35_n x36 x37 z5 z17 b34 b100000 b400448 b700009))))
       (
        .nl (([] :List Nat))
        (
         .bnd (ap b100000.steps z5.at_) fun z18=>
         ak (aa 0 Try.f22) (ab N (ae N k4 n) k4 n) x1 x8 x9_n x30 x31 x35_n x36 x37 z5 z18 b34 b100000 b400448 b700009)
        (
         .nl (([] :List Nat))
         (
          .bnd (ap b100000.steps z5.at_) fun z19=>
          ak (aa 0 Try.f22) (ab N (ae N k4 n) k4 n) x1 x8 x9_n x30 x31 x35_n x36 x37 z5 z19 b34 b100000 b400448 b700009)
         (
          .bnd (ap b100000.steps z5.at_) fun z20=>
          ak (aa 0 Try.f22) (ab N (ae N k4 n) k4 n) x1 x8 x9_n x30 x31 x35_n x36 x37 z5 z20 b34 b100000 b400448 b700009)))))
     (
      .nl (([] :List Nat))
      (
       .nl (([] :List Nat))
       (
        .nl (([] :List Nat))
        (
         .nl (([] :List Nat))
         (
          .nl (([] :List Nat))
          (
           .bnd (ap b100000.steps z5.at_) fun z21=>
           .nl (([] :List Nat))
           (
            ak (aa 0 Try.f22) (ab N (ae N k4 n) k4 n) x1 x8 x9_n x30 x31 x35_n x36 x37 z5 z21 b34 b100000 b400448 b700009)
           (
            ak (aa 0 Try.f22) (ab N (ae N k4 n) k4 n) x1 x8 x9_n x30 x31 x35_n x36 x37 z5 z21 b34 b100000 b400448 b700009))
          (
           .bnd (ap b100000.steps z5.at_) fun z22=>
           ak (aa 0 Try.f22) (ab N (ae N k4 n) k4 n) x1 x8 x9_n x30 x31 x35_n x36 x37 z5 z22 b34 b100000 b400448 b700009))
         (
          .bnd (ap b100000.steps z5.at_) fun z23=>
          ak (aa 0 Try.f22) (ab N (ae N k4 n) k4 n) x1 x8 x9_n x30 x31 x35_n x36 x37 z5 z23 b34 b100000 b400448 b700009))
        (
         .nl (([] :List Nat))
         (
          .nl (([] :List Nat))
          (
           .nl (([] :List Nat))
           (
            .bnd (ap b100000.steps z5.at_) fun z24=>
            .nl (([] :List Nat))
            (
             ak (aa 0 Try.f22) (ab N (ae N k4 n) k4 n) x1 x8 x9_n x30 x31 x35_n x36 x37 z5 z24 b34 b100000 b400448 b700009)
            (
             ak (aa 0 Try.f22) (ab N (ae N k4 n) k4 n) x1 x8 x9_n x30 x31 x35_n x36 x37 z5 z24 b34 b100000 b400448 b700009))
           (
            .bnd (ap b100000.steps z5.at_) fun z25=>
            ak (aa 0 Try.f22) (ab N (ae N k4 n) k4 n) x1 x8 x9_n x30 x31 x35_n x36 x37 z5 z25 b34 b100000 b400448 b700009))
          (
           .bnd (ap b100000.steps z5.at_) fun z26=>
           ak (aa 0 Try.f22) (ab N (ae N k4 n) k4 n) x1 x8 x9_n x30 x31 x35_n x36 x37 z5 z26 b34 b100000 b400448 b700009))
         (
          .nl (([] :List Nat))
          (
           .bnd (ap b100000.steps z5.at_) fun z27=>
           ak (aa 0 Try.f22) (ab N (ae N k4 n) k4 n) x1 x8 x9_n x30 x31 x35_n x36 x37 z5 z27 b34 b100000 b400448 b700009)
          (
           .bnd (ap b100000.steps z5.at_) fun z28=>
           ak (aa 0 Try.f22) (ab N (ae N k4 n) k4 n) x1 x8 x9_n x30 x31 x35_n x36 x37 z5 z28 b34 b100000 b400448 b700009))))
       (
        .nl (([] :List Nat))
        (
         .nl (([] :List Nat))
         (
          .nl (([] :List Nat))
          (
           .nl (([] :List Nat))
           (
            .bnd (ap b100000.steps z5.at_) fun z29=>
            .nl (([] :List Nat))
            (
             ak (aa 0 Try.f22) (ab N (ae N k4 n) k4 n) x1 x8 x9_n x30 x31 x35_n x36 x37 z5 z29 b34 b100000 b400448 b700009)
            (
             ak (aa 0 Try.f22) (ab N (ae N k4 n) k4 n) x1 x8 x9_n x30 x31 x35_n x36 x37 z5 z29 b34 b100000 b400448 b700009))
           (
            .bnd (ap b100000.steps z5.at_) fun z30=>
            ak (aa 0 Try.f22) (ab N (ae N k4 n) k4 n) x1 x8 x9_n x30 x31 x35_n x36 x37 z5 z30 b34 b100000 b400448 b700009))
          (
           .bnd (ap b100000.steps z5.at_) fun z31=>
           ak (aa 0 Try.f22) (ab N (ae N k4 n) k4 n) x1 x8 x9_n x30 x31 x35_n x36 x37 z5 z31 b34 b100000 b400448 b700009))
         (
          .bnd (ap b100000.steps z5.at_) fun z32=>
          ak (aa 0 Try.f22) (ab N (ae N k4 n) k4 n) x1 x8 x9_n x30 x31 x35_n x36 x37 z5 z32 b34 b100000 b400448 b700009))
        (
         .nl (([] :List Nat))
         (
          .nl (([] :List Nat))
          (
           .bnd (ap b100000.steps z5.at_) fun z33=>
           ak (aa 0 Try.f22) (ab N (ae N k4 n) k4 n) x1 x8 x9_n x30 x31 x35_n x36 x37 z5 z33 b34 b100000 b400448 b700009)
          (
           .bnd (ap b100000.steps z5.at_) fun z34=>
           ak (aa 0 Try.f22) (ab N (ae N k4 n) k4 n) x1 x8 x9_n x30 x31 x35_n x36 x37 z5 z34 b34 b100000 b400448 b700009))
         (
          .bnd (ap b100000.steps z5.at_) fun z35=>
          ak (aa 0 Try.f22) (ab N (ae N k4 n) k4 n) x1 x8 x9_n x30 x31 x35_n x36 x37 z5 z35 b34 b100000 b400448 b700009))))
      (
       .nl (([] :List Nat))
       (
        .nl (([] :List Nat))
        (
         .bnd (ap b100000.steps z5.at_) fun z36=>
         ak (aa 0 Try.f22) (ab N (ae N k4 n) k4 n) x1 x8 x9_n x30 x31 x35_n x36 x37 z5 z36 b34 b100000 b400448 b700009)
        (
         .nl (([] :List Nat))
         (
          .bnd (ap b100000.steps z5.at_) fun z37=>
          ak (aa 0 Try.f22) (ab N (ae N k4 n) k4 n) x1 x8 x9_n x30 x31 x35_n x36 x37 z5 z37 b34 b100000 b400448 b700009)
         (
          .bnd (ap b100000.steps z5.at_) fun z38=>
          ak (aa 0 Try.f22) (ab N (ae N k4 n) k4 n) x1 x8 x9_n x30 x31 x35_n x36 x37 z5 z38 b34 b100000 b400448 b700009)))
       (
        .nl (([] :List Nat))
        (
         .nl (([] :List Nat))
         (
          .bnd (ap b100000.steps z5.at_) fun z39=>
          ak (aa 0 Try.f22) (ab N (ae N k4 n) k4 n) x1 x8 x9_n x30 x31 x35_n x36 x37 z5 z39 b34 b100000 b400448 b700009)
         (
          .bnd (ap b100000.steps z5.at_) fun z40=>
          ak (aa 0 Try.f22) (ab N (ae N k4 n) k4 n) x1 x8 x9_n x30 x31 x35_n x36 x37 z5 z40 b34 b100000 b400448 b700009))
        (
         .bnd (ap b100000.steps z5.at_) fun z41=>
         ak (aa 0 Try.f22) (ab N (ae N k4 n) k4 n) x1 x8 x9_n x30 x31 x35_n x36 x37 z5 z41 b34 b100000 b400448 b700009)))))
    (
     .nl (([] :List Nat))
     (
      .nl (([] :List Nat))
      (
       .nl (([] :List Nat))
       (
        .nl (([] :List Nat))
        (
         .nl (([] :List Nat))
         (
          .nl (([] :List Nat))
          (
           .bnd (ap b100000.steps z5.at_) fun z42=>
           .nl (([] :List Nat))
           (
            ak (aa 0 Try.f22) (ab N (ae N k4 n) k4 n) x1 x8 x9_n x30 x31 x35_n x36 x37 z5 z42 b34 b100000 b400448 b700009)
           (
            ak (aa 0 Try.f22) (ab N (ae N k4 n) k4 n) x1 x8 x9_n x30 x31 x35_n x36 x37 z5 z42 b34 b100000 b400448 b700009))
          (
           .bnd (ap b100000.steps z5.at_) fun z43=>
           ak (aa 0 Try.f22) (ab N (ae N k4 n) k4 n) x1 x8 x9_n x30 x31 x35_n x36 x37 z5 z43 b34 b100000 b400448 b700009))
         (
          .bnd (ap b100000.steps z5.at_) fun z44=>
          ak (aa 0 Try.f22) (ab N (ae N k4 n) k4 n) x1 x8 x9_n x30 x31 x35_n x36 x37 z5 z44 b34 b100000 b400448 b700009))
        (
         .nl (([] :List Nat))
         (
          .nl (([] :List Nat))
          (
           .nl (([] :List Nat))
           (
            .bnd (ap b100000.steps z5.at_) fun z45=>
            .nl (([] :List Nat))
            (
             ak (aa 0 Try.f22) (ab N (ae N k4 n) k4 n) x1 x8 x9_n x30 x31 x35_n x36 x37 z5 z45 b34 b100000 b400448 b700009)
            (
             ak (aa 0 Try.f22) (ab N (ae N k4 n) k4 n) x1 x8 x9_n x30 x31 x35_n x36 x37 z5 z45 b34 b100000 b400448 b700009))
           (
            .bnd (ap b100000.steps z5.at_) fun z46=>
            ak (aa 0 Try.f22) (ab N (ae N k4 n) k4 n) x1 x8 x9_n x30 x31 x35_n x36 x37 z5 z46 b34 b100000 b400448 b700009))
          (
           .bnd (ap b100000.steps z5.at_) fun z47=>
           ak (aa 0 Try.f22) (ab N (ae N k4 n) k4 n) x1 x8 x9_n x30 x31 x35_n x36 x37 z5 z47 b34 b100000 b400448 b700009))
         (
          .nl (([] :List Nat))
          (
           .bnd (ap b100000.steps z5.at_) fun z48=>
           ak (aa 0 Try.f22) (ab N (ae N k4 n) k4 n) x1 x8 x9_n x30 x31 x35_n x36 x37 z5 z48 b34 b100000 b400448 b700009)
          (
           .bnd (ap b100000.steps z5.at_) fun z49=>
           ak (aa 0 Try.f22) (ab N (ae N k4 n) k4 n) x1 x8 x9_n x30 x31 x35_n x36 x37 z5 z49 b34 b100000 b400448 b700009))))
       (
        .nl (([] :List Nat))
        (
         .nl (([] :List Nat))
         (
          .nl (([] :List Nat))
          (
           .nl (([] :List Nat))
           (
            .bnd (ap b100000.steps z5.at_) fun z50=>
            .nl (([] :List Nat))
            (
             ak (aa 0 Try.f22) (ab N (ae N k4 n) k4 n) x1 x8 x9_n x30 x31 x35_n x36 x37 z5 z50 b34 b100000 b400448 b700009)
            (
             ak (aa 0 Try.f22) (ab N (ae N k4 n) k4 n) x1 x8 x9_n x30 x31 x35_n x36 x37 z5 z50 b34 b100000 b400448 b700009))
           (
            .bnd (ap b100000.steps z5.at_) fun z51=>
            ak (aa 0 Try.f22) (ab N (ae N k4 n) k4 n) x1 x8 x9_n x30 x31 x35_n x36 x37 z5 z51 b34 b100000 b400448 b700009))
          (
           .bnd (ap b100000.steps z5.at_) fun z52=>
           ak (aa 0 Try.f22) (ab N (ae N k4 n) k4 n) x1 x8 x9_n x30 x31 x35_n x36 x37 z5 z52 b34 b100000 b400448 b700009))
         (
          .bnd (ap b100000.steps z5.at_) fun z53=>
          ak (aa 0 Try.f22) (ab N (ae N k4 n) k4 n) x1 x8 x9_n x30 x31 x35_n x36 x37 z5 z53 b34 b100000 b400448 b700009))
        (
         .nl (([] :List Nat))
         (
          .nl (([] :List Nat))
          (
           .bnd (ap b100000.steps z5.at_) fun z54=>
           ak (aa 0 Try.f22) (ab N (ae N k4 n) k4 n) x1 x8 x9_n x30 x31 x35_n x36 x37 z5 z54 b34 b100000 b400448 b700009)
          (
           .bnd (ap b100000.steps z5.at_) fun z55=>
           ak (aa 0 Try.f22) (ab N (ae N k4 n) k4 n) x1 x8 x9_n x30 x31 x35_n x36 x37 z5 z55 b34 b100000 b400448 b700009))
         (
          .bnd (ap b100000.steps z5.at_) fun z56=>
          ak (aa 0 Try.f22) (ab N (ae N k4 n) k4 n) x1 x8 x9_n x30 x31 x35_n x36 x37 z5 z56 b34 b100000 b400448 b700009))))
      (
       .nl (([] :List Nat))
       (
        .nl (([] :List Nat))
        (
         .nl (([] :List Nat))
         (
          .nl (([] :List Nat))
          (
           .nl (([] :List Nat))
           (
            .bnd (ap b100000.steps z5.at_) fun z57=>
            .nl (([] :List Nat))
            (
             ak (aa 0 Try.f22) (ab N (ae N k4 n) k4 n) x1 x8 x9_n x30 x31 x35_n x36 x37 z5 z57 b34 b100000 b400448 b700009)
            (
             ak (aa 0 Try.f22) (ab N (ae N k4 n) k4 n) x1 x8 x9_n x30 x31 x35_n x36 x37 z5 z57 b34 b100000 b400448 b700009))
           (
            .bnd (ap b100000.steps z5.at_) fun z58=>
            ak (aa 0 Try.f22) (ab N (ae N k4 n) k4 n) x1 x8 x9_n x30 x31 x35_n x36 x37 z5 z58 b34 b100000 b400448 b700009))
          (
           .bnd (ap b100000.steps z5.at_) fun z59=>
           ak (aa 0 Try.f22) (ab N (ae N k4 n) k4 n) x1 x8 x9_n x30 x31 x35_n x36 x37 z5 z59 b34 b100000 b400448 b700009))
         (
          .bnd (ap b100000.steps z5.at_) fun z60=>
          ak (aa 0 Try.f22) (ab N (ae N k4 n) k4 n) x1 x8 x9_n x30 x31 x35_n x36 x37 z5 z60 b34 b100000 b400448 b700009))
        (
         .bnd (ap b100000.steps z5.at_) fun z61=>
         ak (aa 0 Try.f22) (ab N (ae N k4 n) k4 n) x1 x8 x9_n x30 x31 x35_n x36 x37 z5 z61 b34 b100000 b400448 b700009))
       (
        .nl (([] :List Nat))
        (
         .nl (([] :List Nat))
         (
          .nl (([] :List Nat))
          (
           .bnd (ap b100000.steps z5.at_) fun z62=>
           ak (aa 0 Try.f22) (ab N (ae N k4 n) k4 n) x1 x8 x9_n x30 x31 x35_n x36 x37 z5 z62 b34 b100000 b400448 b700009)
          (
           .bnd (ap b100000.steps z5.at_) fun z63=>
           ak (aa 0 Try.f22) (ab N (ae N k4 n) k4 n) x1 x8 x9_n x30 x31 x35_n x36 x37 z5 z63 b34 b100000 b400448 b700009))
         (
          .bnd (ap b100000.steps z5.at_) fun z64=>
          ak (aa 0 Try.f22) (ab N (ae N k4 n) k4 n) x1 x8 x9_n x30 x31 x35_n x36 x37 z5 z64 b34 b100000 b400448 b700009))
        (
         .bnd (ap b100000.steps z5.at_) fun z65=>
         ak (aa 0 Try.f22) (ab N (ae N k4 n) k4 n) x1 x8 x9_n x30 x31 x35_n x36 x37 z5 z65 b34 b100000 b400448 b700009))))
     (
      .nl (([] :List Nat))
      (
       .nl (([] :List Nat))
       (
        .nl (([] :List Nat))
        (
         .bnd (ap b100000.steps z5.at_) fun z66=>
         ak (aa 0 Try.f22) (ab N (ae N k4 n) k4 n) x1 x8 x9_n x30 x31 x35_n x36 x37 z5 z66 b34 b100000 b400448 b700009)
        (
         .nl (([] :List Nat))
         (
          .bnd (ap b100000.steps z5.at_) fun z67=>
          ak (aa 0 Try.f22) (ab N (ae N k4 n) k4 n) x1 x8 x9_n x30 x31 x35_n x36 x37 z5 z67 b34 b100000 b400448 b700009)
         (
          .bnd (ap b100000.steps z5.at_) fun z68=>
          ak (aa 0 Try.f22) (ab N (ae N k4 n) k4 n) x1 x8 x9_n x30 x31 x35_n x36 x37 z5 z68 b34 b100000 b400448 b700009)))
       (
        .nl (([] :List Nat))
        (
         .nl (([] :List Nat))
         (
          .bnd (ap b100000.steps z5.at_) fun z69=>
          ak (aa 0 Try.f22) (ab N (ae N k4 n) k4 n) x1 x8 x9_n x30 x31 x35_n x36 x37 z5 z69 b34 b100000 b400448 b700009)
         (
          .bnd (ap b100000.steps z5.at_) fun z70=>
          ak (aa 0 Try.f22) (ab N (ae N k4 n) k4 n) x1 x8 x9_n x30 x31 x35_n x36 x37 z5 z70 b34 b100000 b400448 b700009))
        (
         .bnd (ap b100000.steps z5.at_) fun z71=>
         ak (aa 0 Try.f22) (ab N (ae N k4 n) k4 n) x1 x8 x9_n x30 x31 x35_n x36 x37 z5 z71 b34 b100000 b400448 b700009)))
      (
       .nl (([] :List Nat))
       (
        .nl (([] :List Nat))
        (
         .nl (([] :List Nat))
         (
          .bnd (ap b100000.steps z5.at_) fun z72=>
          ak (aa 0 Try.f22) (ab N (ae N k4 n) k4 n) x1 x8 x9_n x30 x31 x35_n x36 x37 z5 z72 b34 b100000 b400448 b700009)
         (
          .bnd (ap b100000.steps z5.at_) fun z73=>
          ak (aa 0 Try.f22) (ab N (ae N k4 n) k4 n) x1 x8 x9_n x30 x31 x35_n x36 x37 z5 z73 b34 b100000 b400448 b700009))
        (
         .bnd (ap b100000.steps z5.at_) fun z74=>
         ak (aa 0 Try.f22) (ab N (ae N k4 n) k4 n) x1 x8 x9_n x30 x31 x35_n x36 x37 z5 z74 b34 b100000 b400448 b700009))
       (
        .bnd (ap b100000.steps z5.at_) fun z75=>
        ak (aa 0 Try.f22) (ab N (ae N k4 n) k4 n) x1 x8 x9_n x30 x31 x35_n x36 x37 z5 z75 b34 b100000 b400448 b700009)))))
   (
    .nl (([] :List Nat))
    (
     .nl (([] :List Nat))
     (
      .nl (([] :List Nat))
      (
       .nl (([] :List Nat))
       (
        .nl (([] :List Nat))
        (
         .nl (([] :List Nat))
         (
          .nl (([] :List Nat))
          (
           .bnd (ap b100000.steps z5.at_) fun z76=>
           .nl (([] :List Nat))
           (
            ak (aa 0 Try.f22) (ab N (ae N k4 n) k4 n) x1 x8 x9_n x30 x31 x35_n x36 x37 z5 z76 b34 b100000 b400448 b700009)
           (
            ak (aa 0 Try.f22) (ab N (ae N k4 n) k4 n) x1 x8 x9_n x30 x31 x35_n x36 x37 z5 z76 b34 b100000 b400448 b700009))
          (
           .bnd (ap b100000.steps z5.at_) fun z77=>
           ak (aa 0 Try.f22) (ab N (ae N k4 n) k4 n) x1 x8 x9_n x30 x31 x35_n x36 x37 z5 z77 b34 b100000 b400448 b700009))
         (
          .bnd (ap b100000.steps z5.at_) fun z78=>
          ak (aa 0 Try.f22) (ab N (ae N k4 n) k4 n) x1 x8 x9_n x30 x31 x35_n x36 x37 z5 z78 b34 b100000 b400448 b700009))
        (
         .nl (([] :List Nat))
         (
          .nl (([] :List Nat))
          (
           .nl (([] :List Nat))
           (
            .bnd (ap b100000.steps z5.at_) fun z79=>
            .nl (([] :List Nat))
            (
             ak (aa 0 Try.f22) (ab N (ae N k4 n) k4 n) x1 x8 x9_n x30 x31 x35_n x36 x37 z5 z79 b34 b100000 b400448 b700009)
            (
             ak (aa 0 Try.f22) (ab N (ae N k4 n) k4 n) x1 x8 x9_n x30 x31 x35_n x36 x37 z5 z79 b34 b100000 b400448 b700009))
           (
            .bnd (ap b100000.steps z5.at_) fun z80=>
            ak (aa 0 Try.f22) (ab N (ae N k4 n) k4 n) x1 x8 x9_n x30 x31 x35_n x36 x37 z5 z80 b34 b100000 b400448 b700009))
          (
           .bnd (ap b100000.steps z5.at_) fun z81=>
           ak (aa 0 Try.f22) (ab N (ae N k4 n) k4 n) x1 x8 x9_n x30 x31 x35_n x36 x37 z5 z81 b34 b100000 b400448 b700009))
         (
          .nl (([] :List Nat))
          (
           .bnd (ap b100000.steps z5.at_) fun z82=>
           ak (aa 0 Try.f22) (ab N (ae N k4 n) k4 n) x1 x8 x9_n x30 x31 x35_n x36 x37 z5 z82 b34 b100000 b400448 b700009)
          (
           .bnd (ap b100000.steps z5.at_) fun z83=>
           ak (aa 0 Try.f22) (ab N (ae N k4 n) k4 n) x1 x8 x9_n x30 x31 x35_n x36 x37 z5 z83 b34 b100000 b400448 b700009))))
       (
        .nl (([] :List Nat))
        (
         .nl (([] :List Nat))
         (
          .nl (([] :List Nat))
          (
           .nl (([] :List Nat))
           (
            .bnd (ap b100000.steps z5.at_) fun z84=>
            .nl (([] :List Nat))
            (
             ak (aa 0 Try.f22) (ab N (ae N k4 n) k4 n) x1 x8 x9_n x30 x31 x35_n x36 x37 z5 z84 b34 b100000 b400448 b700009)
            (
             ak (aa 0 Try.f22) (ab N (ae N k4 n) k4 n) x1 x8 x9_n x30 x31 x35_n x36 x37 z5 z84 b34 b100000 b400448 b700009))
           (
            .bnd (ap b100000.steps z5.at_) fun z85=>
            ak (aa 0 Try.f22) (ab N (ae N k4 n) k4 n) x1 x8 x9_n x30 x31 x35_n x36 x37 z5 z85 b34 b100000 b400448 b700009))
          (
           .bnd (ap b100000.steps z5.at_) fun z86=>
           ak (aa 0 Try.f22) (ab N (ae N k4 n) k4 n) x1 x8 x9_n x30 x31 x35_n x36 x37 z5 z86 b34 b100000 b400448 b700009))
         (
          .bnd (ap b100000.steps z5.at_) fun z87=>
          ak (aa 0 Try.f22) (ab N (ae N k4 n) k4 n) x1 x8 x9_n x30 x31 x35_n x36 x37 z5 z87 b34 b100000 b400448 b700009))
        (
         .nl (([] :List Nat))
         (
          .nl (([] :List Nat))
          (
           .bnd (ap b100000.steps z5.at_) fun z88=>
           ak (aa 0 Try.f22) (ab N (ae N k4 n) k4 n) x1 x8 x9_n x30 x31 x35_n x36 x37 z5 z88 b34 b100000 b400448 b700009)
          (
           .bnd (ap b100000.steps z5.at_) fun z89=>
           ak (aa 0 Try.f22) (ab N (ae N k4 n) k4 n) x1 x8 x9_n x30 x31 x35_n x36 x37 z5 z89 b34 b100000 b400448 b700009))
         (
          .bnd (ap b100000.steps z5.at_) fun z90=>
          ak (aa 0 Try.f22) (ab N (ae N k4 n) k4 n) x1 x8 x9_n x30 x31 x35_n x36 x37 z5 z90 b34 b100000 b400448 b700009))))
      (
       .nl (([] :List Nat))
       (
        .nl (([] :List Nat))
        (
         .nl (([] :List Nat))
         (
          .nl (([] :List Nat))
          (
           .nl (([] :List Nat))
           (
            .bnd (ap b100000.steps z5.at_) fun z91=>
            .nl (([] :List Nat))
            (
             ak (aa 0 Try.f22) (ab N (ae N k4 n) k4 n) x1 x8 x9_n x30 x31 x35_n x36 x37 z5 z91 b34 b100000 b400448 b700009)
            (
             ak (aa 0 Try.f22) (ab N (ae N k4 n) k4 n) x1 x8 x9_n x30 x31 x35_n x36 x37 z5 z91 b34 b100000 b400448 b700009))
           (
            .bnd (ap b100000.steps z5.at_) fun z92=>
            ak (aa 0 Try.f22) (ab N (ae N k4 n) k4 n) x1 x8 x9_n x30 x31 x35_n x36 x37 z5 z92 b34 b100000 b400448 b700009))
          (
           .bnd (ap b100000.steps z5.at_) fun z93=>
           ak (aa 0 Try.f22) (ab N (ae N k4 n) k4 n) x1 x8 x9_n x30 x31 x35_n x36 x37 z5 z93 b34 b100000 b400448 b700009))
         (
          .bnd (ap b100000.steps z5.at_) fun z94=>
          ak (aa 0 Try.f22) (ab N (ae N k4 n) k4 n) x1 x8 x9_n x30 x31 x35_n x36 x37 z5 z94 b34 b100000 b400448 b700009))
        (
         .bnd (ap b100000.steps z5.at_) fun z95=>
         ak (aa 0 Try.f22) (ab N (ae N k4 n) k4 n) x1 x8 x9_n x30 x31 x35_n x36 x37 z5 z95 b34 b100000 b400448 b700009))
       (
        .nl (([] :List Nat))
        (
         .nl (([] :List Nat))
         (
          .nl (([] :List Nat))
          (
           .bnd (ap b100000.steps z5.at_) fun z96=>
           ak (aa 0 Try.f22) (ab N (ae N k4 n) k4 n) x1 x8 x9_n x30 x31 x35_n x36 x37 z5 z96 b34 b100000 b400448 b700009)
          (
           .bnd (ap b100000.steps z5.at_) fun z97=>
           ak (aa 0 Try.f22) (ab N (ae N k4 n) k4 n) x1 x8 x9_n x30 x31 x35_n x36 x37 z5 z97 b34 b100000 b400448 b700009))
         (
          .bnd (ap b100000.steps z5.at_) fun z98=>
          ak (aa 0 Try.f22) (ab N (ae N k4 n) k4 n) x1 x8 x9_n x30 x31 x35_n x36 x37 z5 z98 b34 b100000 b400448 b700009))
        (
         .bnd (ap b100000.steps z5.at_) fun z99=>
         ak (aa 0 Try.f22) (ab N (ae N k4 n) k4 n) x1 x8 x9_n x30 x31 x35_n x36 x37 z5 z99 b34 b100000 b400448 b700009))))
     (
      .nl (([] :List Nat))
      (
       .nl (([] :List Nat))
       (
        .nl (([] :List Nat))
        (
         .nl (([] :List Nat))
         (
          .nl (([] :List Nat))
          (
           .nl (([] :List Nat))
           (
            .bnd (ap b100000.steps z5.at_) fun z100=>
            .nl (([] :List Nat))
            (
             ak (aa 0 Try.f22) (ab N (ae N k4 n) k4 n) x1 x8 x9_n x30 x31 x35_n x36 x37 z5 z100 b34 b100000 b400448 b700009)
            (
             ak (aa 0 Try.f22) (ab N (ae N k4 n) k4 n) x1 x8 x9_n x30 x31 x35_n x36 x37 z5 z100 b34 b100000 b400448 b700009))
           (
            .bnd (ap b100000.steps z5.at_) fun z101=>
            ak (aa 0 Try.f22) (ab N (ae N k4 n) k4 n) x1 x8 x9_n x30 x31 x35_n x36 x37 z5 z101 b34 b100000 b400448 b700009))
          (
           .bnd (ap b100000.steps z5.at_) fun z102=>
           ak (aa 0 Try.f22) (ab N (ae N k4 n) k4 n) x1 x8 x9_n x30 x31 x35_n x36 x37 z5 z102 b34 b100000 b400448 b700009))
         (
          .bnd (ap b100000.steps z5.at_) fun z103=>
          ak (aa 0 Try.f22) (ab N (ae N k4 n) k4 n) x1 x8 x9_n x30 x31 x35_n x36 x37 z5 z103 b34 b100000 b400448 b700009))
        (
         .bnd (ap b100000.steps z5.at_) fun z104=>
         ak (aa 0 Try.f22) (ab N (ae N k4 n) k4 n) x1 x8 x9_n x30 x31 x35_n x36 x37 z5 z104 b34 b100000 b400448 b700009))
       (
        .bnd (ap b100000.steps z5.at_) fun z105=>
        ak (aa 0 Try.f22) (ab N (ae N k4 n) k4 n) x1 x8 x9_n x30 x31 x35_n x36 x37 z5 z105 b34 b100000 b400448 b700009))
      (
       .nl (([] :List Nat))
       (
        .nl (([] :List Nat))
        (
         .nl (([] :List Nat))
         (
          .nl (([] :List Nat))
          (
           .bnd (ap b100000.steps z5.at_) fun z106=>
           ak (aa 0 Try.f22) (ab N (ae N k4 n) k4 n) x1 x8 x9_n x30 x31 x35_n x36 x37 z5 z106 b34 b100000 b400448 b700009)
          (
           .bnd (ap b100000.steps z5.at_) fun z107=>
           ak (aa 0 Try.f22) (ab N (ae N k4 n) k4 n) x1 x8 x9_n x30 x31 x35_n x36 x37 z5 z107 b34 b100000 b400448 b700009))
         (
          .bnd (ap b100000.steps z5.at_) fun z108=>
          ak (aa 0 Try.f22) (ab N (ae N k4 n) k4 n) x1 x8 x9_n x30 x31 x35_n x36 x37 z5 z108 b34 b100000 b400448 b700009))
        (
         .bnd (ap b100000.steps z5.at_) fun z109=>
         ak (aa 0 Try.f22) (ab N (ae N k4 n) k4 n) x1 x8 x9_n x30 x31 x35_n x36 x37 z5 z109 b34 b100000 b400448 b700009))
       (
        .bnd (ap b100000.steps z5.at_) fun z110=>
        ak (aa 0 Try.f22) (ab N (ae N k4 n) k4 n) x1 x8 x9_n x30 x31 x35_n x36 x37 z5 z110 b34 b100000 b400448 b700009))))
    (
     .nl (([] :List Nat))
     (
      .nl (([] :List Nat))
      (
       .nl (([] :List Nat))
       (
        .nl (([] :List Nat))
        (
         .bnd (ap b100000.steps z5.at_) fun z111=>
         ak (aa 0 Try.f22) (ab N (ae N k4 n) k4 n) x1 x8 x9_n x30 x31 x35_n x36 x37 z5 z111 b34 b100000 b400448 b700009)
        (
         .nl (([] :List Nat))
         (
          .bnd (ap b100000.steps z5.at_) fun z112=>
          ak (aa 0 Try.f22) (ab N (ae N k4 n) k4 n) x1 x8 x9_n x30 x31 x35_n x36 x37 z5 z112 b34 b100000 b400448 b700009)
         (
          .bnd (ap b100000.steps z5.at_) fun z113=>
          ak (aa 0 Try.f22) (ab N (ae N k4 n) k4 n) x1 x8 x9_n x30 x31 x35_n x36 x37 z5 z113 b34 b100000 b400448 b700009)))
       (
        .nl (([] :List Nat))
        (
         .nl (([] :List Nat))
         (
          .bnd (ap b100000.steps z5.at_) fun z114=>
          ak (aa 0 Try.f22) (ab N (ae N k4 n) k4 n) x1 x8 x9_n x30 x31 x35_n x36 x37 z5 z114 b34 b100000 b400448 b700009)
         (
          .bnd (ap b100000.steps z5.at_) fun z115=>
          ak (aa 0 Try.f22) (ab N (ae N k4 n) k4 n) x1 x8 x9_n x30 x31 x35_n x36 x37 z5 z115 b34 b100000 b400448 b700009))
        (
         .bnd (ap b100000.steps z5.at_) fun z116=>
         ak (aa 0 Try.f22) (ab N (ae N k4 n) k4 n) x1 x8 x9_n x30 x31 x35_n x36 x37 z5 z116 b34 b100000 b400448 b700009)))
      (
       .nl (([] :List Nat))
       (
        .nl (([] :List Nat))
        (
         .nl (([] :List Nat))
         (
          .bnd (ap b100000.steps z5.at_) fun z117=>
          ak (aa 0 Try.f22) (ab N (ae N k4 n) k4 n) x1 x8 x9_n x30 x31 x35_n x36 x37 z5 z117 b34 b100000 b400448 b700009)
         (
          .bnd (ap b100000.steps z5.at_) fun z118=>
          ak (aa 0 Try.f22) (ab N (ae N k4 n) k4 n) x1 x8 x9_n x30 x31 x35_n x36 x37 z5 z118 b34 b100000 b400448 b700009))
        (
         .bnd (ap b100000.steps z5.at_) fun z119=>
         ak (aa 0 Try.f22) (ab N (ae N k4 n) k4 n) x1 x8 x9_n x30 x31 x35_n x36 x37 z5 z119 b34 b100000 b400448 b700009))
       (
        .bnd (ap b100000.steps z5.at_) fun z120=>
        ak (aa 0 Try.f22) (ab N (ae N k4 n) k4 n) x1 x8 x9_n x30 x31 x35_n x36 x37 z5 z120 b34 b100000 b400448 b700009)))
     (
      .nl (([] :List Nat))
      (
       .nl (([] :List Nat))
       (
        .nl (([] :List Nat))
        (
         .nl (([] :List Nat))
         (
          .bnd (ap b100000.steps z5.at_) fun z121=>
          ak (aa 0 Try.f22) (ab N (ae N k4 n) k4 n) x1 x8 x9_n x30 x31 x35_n x36 x37 z5 z121 b34 b100000 b400448 b700009)
         (
          .bnd (ap b100000.steps z5.at_) fun z122=>
          ak (aa 0 Try.f22) (ab N (ae N k4 n) k4 n) x1 x8 x9_n x30 x31 x35_n x36 x37 z5 z122 b34 b100000 b400448 b700009))
        (
         .bnd (ap b100000.steps z5.at_) fun z123=>
         ak (aa 0 Try.f22) (ab N (ae N k4 n) k4 n) x1 x8 x9_n x30 x31 x35_n x36 x37 z5 z123 b34 b100000 b400448 b700009))
       (
        .bnd (ap b100000.steps z5.at_) fun z124=>
        ak (aa 0 Try.f22) (ab N (ae N k4 n) k4 n) x1 x8 x9_n x30 x31 x35_n x36 x37 z5 z124 b34 b100000 b400448 b700009))
      (
       .bnd (ap b100000.steps z5.at_) fun z125=>
       ak (aa 0 Try.f22) (ab N (ae N k4 n) k4 n) x1 x8 x9_n x30 x31 x35_n x36 x37 z5 z125 b34 b100000 b400448 b700009)))))
  (
   AT (aa 0 Try.f22) k4 x1 x9_n x30 (w64 (x31+1)) b100000 b700009)) (by kernel_rfl) (by kernel_rfl) h (⟨fun _=>fun _=>⟨fun _ _ h=>Eq.trans (by kernel_rfl) h,⟨fun _ _ h=>Eq.trans (by kernel_rfl) h,⟨fun _ _ h=>Eq.trans (by kernel_rfl) h,⟨fun _ _ h=>Eq.trans (by kernel_rfl) h,⟨fun _ _ h=>Eq.trans (by kernel_rfl) h,⟨fun _ _ h=>Eq.trans (by kernel_rfl) h,⟨fun _ _ h=>Eq.trans (by kernel_rfl) h,fun _=>⟨fun _ _ h=>Eq.trans (by kernel_rfl) h,fun h=>am (aq hk4 n) hk4 n _ _ _ _ _ _ _ _ _ _ _ _ _ _ h,fun h=>am (aq hk4 n) hk4 n _ _ _ _ _ _ _ _ _ _ _ _ _ _ h⟩,fun _=>fun h=>am (aq hk4 n) hk4 n _ _ _ _ _ _ _ _ _ _ _ _ _ _ h⟩,fun _=>fun h=>am (aq hk4 n) hk4 n _ _ _ _ _ _ _ _ _ _ _ _ _ _ h⟩,fun _=>fun h=>am (aq hk4 n) hk4 n _ _ _ _ _ _ _ _ _ _ _ _ _ _ h⟩,⟨fun _ _ h=>Eq.trans (by kernel_rfl) h,⟨fun _ _ h=>Eq.trans (by kernel_rfl) h,⟨fun _ _ h=>Eq.trans (by kernel_rfl) h,⟨fun _ _ h=>Eq.trans (by kernel_rfl) h,fun _=>⟨fun _ _ h=>Eq.trans (by kernel_rfl) h,fun h=>am (aq hk4 n) hk4 n _ _ _ _ _ _ _ _ _ _ _ _ _ _ h,fun h=>am (aq hk4 n) hk4 n _ _ _ _ _ _ _ _ _ _ _ _ _ _ h⟩,fun _=>fun h=>am (aq hk4 n) hk4 n _ _ _ _ _ _ _ _ _ _ _ _ _ _ h⟩,fun _=>fun h=>am (aq hk4 n) hk4 n _ _ _ _ _ _ _ _ _ _ _ _ _ _ h⟩,⟨fun _ _ h=>Eq.trans (by kernel_rfl) h,⟨fun _ _ h=>Eq.trans (by kernel_rfl) h,⟨fun _ _ h=>Eq.trans (by kernel_rfl) h,fun _=>⟨fun _ _ h=>Eq.trans (by kernel_rfl) h,fun h=>am (aq hk4 n) hk4 n _ _ _ _ _ _ _ _ _ _ _ _ _ _ h,fun h=>am (aq hk4 n) hk4 n _ _ _ _ _ _ _ _ _ _ _ _ _ _ h⟩,fun _=>fun h=>am (aq hk4 n) hk4 n _ _ _ _ _ _ _ _ _ _ _ _ _ _ h⟩,fun _=>fun h=>am (aq hk4 n) hk4 n _ _ _ _ _ _ _ _ _ _ _ _ _ _ h⟩,⟨fun _ _ h=>Eq.trans (by kernel_rfl) h,fun _=>fun h=>am (aq hk4 n) hk4 n _ _ _ _ _ _ _ _ _ _ _ _ _ _ h,fun _=>fun h=>am (aq hk4 n) hk4 n _ _ _ _ _ _ _ _ _ _ _ _ _ _ h⟩⟩⟩,⟨fun _ _ h=>Eq.trans (by kernel_rfl) h,fun _=>fun h=>am (aq hk4 n) hk4 n _ _ _ _ _ _ _ _ _ _ _ _ _ _ h,⟨fun _ _ h=>Eq.trans (by kernel_rfl) h,fun _=>fun h=>am (aq hk4 n) hk4 n _ _ _ _ _ _ _ _ _ _ _ _ _ _ h,fun _=>fun h=>am (aq hk4 n) hk4 n _ _ _ _ _ _ _ _ _ _ _ _ _ _ h⟩⟩⟩⟩,⟨fun _ _ h=>Eq.trans (by kernel_rfl) h,⟨fun _ _ h=>Eq.trans (by kernel_rfl) h,⟨fun _ _ h=>Eq.trans (by kernel_rfl) h,⟨fun _ _ h=>Eq.trans (by kernel_rfl) h,⟨fun _ _ h=>Eq.trans (by kernel_rfl) h,fun _=>⟨fun _ _ h=>Eq.trans (by kernel_rfl) h,fun h=>am (aq hk4 n) hk4 n _ _ _ _ _ _ _ _ _ _ _ _ _ _ h,fun h=>am (aq hk4 n) hk4 n _ _ _ _ _ _ _ _ _ _ _ _ _ _ h⟩,fun _=>fun h=>am (aq hk4 n) hk4 n _ _ _ _ _ _ _ _ _ _ _ _ _ _ h⟩,fun _=>fun h=>am (aq hk4 n) hk4 n _ _ _ _ _ _ _ _ _ _ _ _ _ _ h⟩,⟨fun _ _ h=>Eq.trans (by kernel_rfl) h,⟨fun _ _ h=>Eq.trans (by kernel_rfl) h,⟨fun _ _ h=>Eq.trans (by kernel_rfl) h,fun _=>⟨fun _ _ h=>Eq.trans (by kernel_rfl) h,fun h=>am (aq hk4 n) hk4 n _ _ _ _ _ _ _ _ _ _ _ _ _ _ h,fun h=>am (aq hk4 n) hk4 n _ _ _ _ _ _ _ _ _ _ _ _ _ _ h⟩,fun _=>fun h=>am (aq hk4 n) hk4 n _ _ _ _ _ _ _ _ _ _ _ _ _ _ h⟩,fun _=>fun h=>am (aq hk4 n) hk4 n _ _ _ _ _ _ _ _ _ _ _ _ _ _ h⟩,⟨fun _ _ h=>Eq.trans (by kernel_rfl) h,fun _=>fun h=>am (aq hk4 n) hk4 n _ _ _ _ _ _ _ _ _ _ _ _ _ _ h,fun _=>fun h=>am (aq hk4 n) hk4 n _ _ _ _ _ _ _ _ _ _ _ _ _ _ h⟩⟩⟩,⟨fun _ _ h=>Eq.trans (by kernel_rfl) h,⟨fun _ _ h=>Eq.trans (by kernel_rfl) h,⟨fun _ _ h=>Eq.trans (by kernel_rfl) h,⟨fun _ _ h=>Eq.trans (by kernel_rfl) h,fun _=>⟨fun _ _ h=>Eq.trans (by kernel_rfl) h,fun h=>am (aq hk4 n) hk4 n _ _ _ _ _ _ _ _ _ _ _ _ _ _ h,fun h=>am (aq hk4 n) hk4 n _ _ _ _ _ _ _ _ _ _ _ _ _ _ h⟩,fun _=>fun h=>am (aq hk4 n) hk4 n _ _ _ _ _ _ _ _ _ _ _ _ _ _ h⟩,fun _=>fun h=>am (aq hk4 n) hk4 n _ _ _ _ _ _ _ _ _ _ _ _ _ _ h⟩,fun _=>fun h=>am (aq hk4 n) hk4 n _ _ _ _ _ _ _ _ _ _ _ _ _ _ h⟩,⟨fun _ _ h=>Eq.trans (by kernel_rfl) h,⟨fun _ _ h=>Eq.trans (by kernel_rfl) h,fun _=>fun h=>am (aq hk4 n) hk4 n _ _ _ _ _ _ _ _ _ _ _ _ _ _ h,fun _=>fun h=>am (aq hk4 n) hk4 n _ _ _ _ _ _ _ _ _ _ _ _ _ _ h⟩,fun _=>fun h=>am (aq hk4 n) hk4 n _ _ _ _ _ _ _ _ _ _ _ _ _ _ h⟩⟩⟩,⟨fun _ _ h=>Eq.trans (by kernel_rfl) h,⟨fun _ _ h=>Eq.trans (by kernel_rfl) h,fun _=>fun h=>am (aq hk4 n) hk4 n _ _ _ _ _ _ _ _ _ _ _ _ _ _ h,⟨fun _ _ h=>Eq.trans (by kernel_rfl) h,fun _=>fun h=>am (aq hk4 n) hk4 n _ _ _ _ _ _ _ _ _ _ _ _ _ _ h,fun _=>fun h=>am (aq hk4 n) hk4 n _ _ _ _ _ _ _ _ _ _ _ _ _ _ h⟩⟩,⟨fun _ _ h=>Eq.trans (by kernel_rfl) h,⟨fun _ _ h=>Eq.trans (by kernel_rfl) h,fun _=>fun h=>am (aq hk4 n) hk4 n _ _ _ _ _ _ _ _ _ _ _ _ _ _ h,fun _=>fun h=>am (aq hk4 n) hk4 n _ _ _ _ _ _ _ _ _ _ _ _ _ _ h⟩,fun _=>fun h=>am (aq hk4 n) hk4 n _ _ _ _ _ _ _ _ _ _ _ _ _ _ h⟩⟩⟩⟩,⟨fun _ _ h=>Eq.trans (by kernel_rfl) h,⟨fun _ _ h=>Eq.trans (by kernel_rfl) h,⟨fun _ _ h=>Eq.trans (by kernel_rfl) h,⟨fun _ _ h=>Eq.trans (by kernel_rfl) h,⟨fun _ _ h=>Eq.trans (by kernel_rfl) h,⟨fun _ _ h=>Eq.trans (by kernel_rfl) h,fun _=>⟨fun _ _ h=>Eq.trans (by kernel_rfl) h,fun h=>am (aq hk4 n) hk4 n _ _ _ _ _ _ _ _ _ _ _ _ _ _ h,fun h=>am (aq hk4 n) hk4 n _ _ _ _ _ _ _ _ _ _ _ _ _ _ h⟩,fun _=>fun h=>am (aq hk4 n) hk4 n _ _ _ _ _ _ _ _ _ _ _ _ _ _ h⟩,fun _=>fun h=>am (aq hk4 n) hk4 n _ _ _ _ _ _ _ _ _ _ _ _ _ _ h⟩,⟨fun _ _ h=>Eq.trans (by kernel_rfl) h,⟨fun _ _ h=>Eq.trans (by kernel_rfl) h,⟨fun _ _ h=>Eq.trans (by kernel_rfl) h,fun _=>⟨fun _ _ h=>Eq.trans (by kernel_rfl) h,fun h=>am (aq hk4 n) hk4 n _ _ _ _ _ _ _ _ _ _ _ _ _ _ h,fun h=>am (aq hk4 n) hk4 n _ _ _ _ _ _ _ _ _ _ _ _ _ _ h⟩,fun _=>fun h=>am (aq hk4 n) hk4 n _ _ _ _ _ _ _ _ _ _ _ _ _ _ h⟩,fun _=>fun h=>am (aq hk4 n) hk4 n _ _ _ _ _ _ _ _ _ _ _ _ _ _ h⟩,⟨fun _ _ h=>Eq.trans (by kernel_rfl) h,fun _=>fun h=>am (aq hk4 n) hk4 n _ _ _ _ _ _ _ _ _ _ _ _ _ _ h,fun _=>fun h=>am (aq hk4 n) hk4 n _ _ _ _ _ _ _ _ _ _ _ _ _ _ h⟩⟩⟩,⟨fun _ _ h=>Eq.trans (by kernel_rfl) h,⟨fun _ _ h=>Eq.trans (by kernel_rfl) h,⟨fun _ _ h=>Eq.trans (by kernel_rfl) h,⟨fun _ _ h=>Eq.trans (by kernel_rfl) h,fun _=>⟨fun _ _ h=>Eq.trans (by kernel_rfl) h,fun h=>am (aq hk4 n) hk4 n _ _ _ _ _ _ _ _ _ _ _ _ _ _ h,fun h=>am (aq hk4 n) hk4 n _ _ _ _ _ _ _ _ _ _ _ _ _ _ h⟩,fun _=>fun h=>am (aq hk4 n) hk4 n _ _ _ _ _ _ _ _ _ _ _ _ _ _ h⟩,fun _=>fun h=>am (aq hk4 n) hk4 n _ _ _ _ _ _ _ _ _ _ _ _ _ _ h⟩,fun _=>fun h=>am (aq hk4 n) hk4 n _ _ _ _ _ _ _ _ _ _ _ _ _ _ h⟩,⟨fun _ _ h=>Eq.trans (by kernel_rfl) h,⟨fun _ _ h=>Eq.trans (by kernel_rfl) h,fun _=>fun h=>am (aq hk4 n) hk4 n _ _ _ _ _ _ _ _ _ _ _ _ _ _ h,fun _=>fun h=>am (aq hk4 n) hk4 n _ _ _ _ _ _ _ _ _ _ _ _ _ _ h⟩,fun _=>fun h=>am (aq hk4 n) hk4 n _ _ _ _ _ _ _ _ _ _ _ _ _ _ h⟩⟩⟩,⟨fun _ _ h=>Eq.trans (by kernel_rfl) h,⟨fun _ _ h=>Eq.trans (by kernel_rfl) h,⟨fun _ _ h=>Eq.trans (by kernel_rfl) h,⟨fun _ _ h=>Eq.trans (by kernel_rfl) h,⟨fun _ _ h=>Eq.trans (by kernel_rfl) h,fun _=>⟨fun _ _ h=>Eq.trans (by kernel_rfl) h,fun h=>am (aq hk4 n) hk4 n _ _ _ _ _ _ _ _ _ _ _ _ _ _ h,fun h=>am (aq hk4 n) hk4 n _ _ _ _ _ _ _ _ _ _ _ _ _ _ h⟩,fun _=>fun h=>am (aq hk4 n) hk4 n _ _ _ _ _ _ _ _ _ _ _ _ _ _ h⟩,fun _=>fun h=>am (aq hk4 n) hk4 n _ _ _ _ _ _ _ _ _ _ _ _ _ _ h⟩,fun _=>fun h=>am (aq hk4 n) hk4 n _ _ _ _ _ _ _ _ _ _ _ _ _ _ h⟩,fun _=>fun h=>am (aq hk4 n) hk4 n _ _ _ _ _ _ _ _ _ _ _ _ _ _ h⟩,⟨fun _ _ h=>Eq.trans (by kernel_rfl) h,⟨fun _ _ h=>Eq.trans (by kernel_rfl) h,⟨fun _ _ h=>Eq.trans (by kernel_rfl) h,fun _=>fun h=>am (aq hk4 n) hk4 n _ _ _ _ _ _ _ _ _ _ _ _ _ _ h,fun _=>fun h=>am (aq hk4 n) hk4 n _ _ _ _ _ _ _ _ _ _ _ _ _ _ h⟩,fun _=>fun h=>am (aq hk4 n) hk4 n _ _ _ _ _ _ _ _ _ _ _ _ _ _ h⟩,fun _=>fun h=>am (aq hk4 n) hk4 n _ _ _ _ _ _ _ _ _ _ _ _ _ _ h⟩⟩⟩,⟨fun _ _ h=>Eq.trans (by kernel_rfl) h,⟨fun _ _ h=>Eq.trans (by kernel_rfl) h,⟨fun _ _ h=>Eq.trans (by kernel_rfl) h,fun _=>fun h=>am (aq hk4 n) hk4 n _ _ _ _ _ _ _ _ _ _ _ _ _ _ h,⟨fun _ _ h=>Eq.trans (by kernel_rfl) h,fun _=>fun h=>am (aq hk4 n) hk4 n _ _ _ _ _ _ _ _ _ _ _ _ _ _ h,fun _=>fun h=>am (aq hk4 n) hk4 n _ _ _ _ _ _ _ _ _ _ _ _ _ _ h⟩⟩,⟨fun _ _ h=>Eq.trans (by kernel_rfl) h,⟨fun _ _ h=>Eq.trans (by kernel_rfl) h,fun _=>fun h=>am (aq hk4 n) hk4 n _ _ _ _ _ _ _ _ _ _ _ _ _ _ h,fun _=>fun h=>am (aq hk4 n) hk4 n _ _ _ _ _ _ _ _ _ _ _ _ _ _ h⟩,fun _=>fun h=>am (aq hk4 n) hk4 n _ _ _ _ _ _ _ _ _ _ _ _ _ _ h⟩⟩,⟨fun _ _ h=>Eq.trans (by kernel_rfl) h,⟨fun _ _ h=>Eq.trans (by kernel_rfl) h,⟨fun _ _ h=>Eq.trans (by kernel_rfl) h,fun _=>fun h=>am (aq hk4 n) hk4 n _ _ _ _ _ _ _ _ _ _ _ _ _ _ h,fun _=>fun h=>am (aq hk4 n) hk4 n _ _ _ _ _ _ _ _ _ _ _ _ _ _ h⟩,fun _=>fun h=>am (aq hk4 n) hk4 n _ _ _ _ _ _ _ _ _ _ _ _ _ _ h⟩,fun _=>fun h=>am (aq hk4 n) hk4 n _ _ _ _ _ _ _ _ _ _ _ _ _ _ h⟩⟩⟩⟩,⟨fun _ _ h=>Eq.trans (by kernel_rfl) h,⟨fun _ _ h=>Eq.trans (by kernel_rfl) h,⟨fun _ _ h=>Eq.trans (by kernel_rfl) h,⟨fun _ _ h=>Eq.trans (by kernel_rfl) h,⟨fun _ _ h=>Eq.trans (by kernel_rfl) h,⟨fun _ _ h=>Eq.trans (by kernel_rfl) h,⟨fun _ _ h=>Eq.trans (by kernel_rfl) h,fun _=>⟨fun _ _ h=>Eq.trans (by kernel_rfl) h,fun h=>am (aq hk4 n) hk4 n _ _ _ _ _ _ _ _ _ _ _ _ _ _ h,fun h=>am (aq hk4 n) hk4 n _ _ _ _ _ _ _ _ _ _ _ _ _ _ h⟩,fun _=>fun h=>am (aq hk4 n) hk4 n _ _ _ _ _ _ _ _ _ _ _ _ _ _ h⟩,fun _=>fun h=>am (aq hk4 n) hk4 n _ _ _ _ _ _ _ _ _ _ _ _ _ _ h⟩,⟨fun _ _ h=>Eq.trans (by kernel_rfl) h,⟨fun _ _ h=>Eq.trans (by kernel_rfl) h,⟨fun _ _ h=>Eq.trans (by kernel_rfl) h,fun _=>⟨fun _ _ h=>Eq.trans (by kernel_rfl) h,fun h=>am (aq hk4 n) hk4 n _ _ _ _ _ _ _ _ _ _ _ _ _ _ h,fun h=>am (aq hk4 n) hk4 n _ _ _ _ _ _ _ _ _ _ _ _ _ _ h⟩,fun _=>fun h=>am (aq hk4 n) hk4 n _ _ _ _ _ _ _ _ _ _ _ _ _ _ h⟩,fun _=>fun h=>am (aq hk4 n) hk4 n _ _ _ _ _ _ _ _ _ _ _ _ _ _ h⟩,⟨fun _ _ h=>Eq.trans (by kernel_rfl) h,fun _=>fun h=>am (aq hk4 n) hk4 n _ _ _ _ _ _ _ _ _ _ _ _ _ _ h,fun _=>fun h=>am (aq hk4 n) hk4 n _ _ _ _ _ _ _ _ _ _ _ _ _ _ h⟩⟩⟩,⟨fun _ _ h=>Eq.trans (by kernel_rfl) h,⟨fun _ _ h=>Eq.trans (by kernel_rfl) h,⟨fun _ _ h=>Eq.trans (by kernel_rfl) h,⟨fun _ _ h=>Eq.trans (by kernel_rfl) h,fun _=>⟨fun _ _ h=>Eq.trans (by kernel_rfl) h,fun h=>am (aq hk4 n) hk4 n _ _ _ _ _ _ _ _ _ _ _ _ _ _ h,fun h=>am (aq hk4 n) hk4 n _ _ _ _ _ _ _ _ _ _ _ _ _ _ h⟩,fun _=>fun h=>am (aq hk4 n) hk4 n _ _ _ _ _ _ _ _ _ _ _ _ _ _ h⟩,fun _=>fun h=>am (aq hk4 n) hk4 n _ _ _ _ _ _ _ _ _ _ _ _ _ _ h⟩,fun _=>fun h=>am (aq hk4 n) hk4 n _ _ _ _ _ _ _ _ _ _ _ _ _ _ h⟩,⟨fun _ _ h=>Eq.trans (by kernel_rfl) h,⟨fun _ _ h=>Eq.trans (by kernel_rfl) h,fun _=>fun h=>am (aq hk4 n) hk4 n _ _ _ _ _ _ _ _ _ _ _ _ _ _ h,fun _=>fun h=>am (aq hk4 n) hk4 n _ _ _ _ _ _ _ _ _ _ _ _ _ _ h⟩,fun _=>fun h=>am (aq hk4 n) hk4 n _ _ _ _ _ _ _ _ _ _ _ _ _ _ h⟩⟩⟩,⟨fun _ _ h=>Eq.trans (by kernel_rfl) h,⟨fun _ _ h=>Eq.trans (by kernel_rfl) h,⟨fun _ _ h=>Eq.trans (by kernel_rfl) h,⟨fun _ _ h=>Eq.trans (by kernel_rfl) h,⟨fun _ _ h=>Eq.trans (by kernel_rfl) h,fun _=>⟨fun _ _ h=>Eq.trans (by kernel_rfl) h,fun h=>am (aq hk4 n) hk4 n _ _ _ _ _ _ _ _ _ _ _ _ _ _ h,fun h=>am (aq hk4 n) hk4 n _ _ _ _ _ _ _ _ _ _ _ _ _ _ h⟩,fun _=>fun h=>am (aq hk4 n) hk4 n _ _ _ _ _ _ _ _ _ _ _ _ _ _ h⟩,fun _=>fun h=>am (aq hk4 n) hk4 n _ _ _ _ _ _ _ _ _ _ _ _ _ _ h⟩,fun _=>fun h=>am (aq hk4 n) hk4 n _ _ _ _ _ _ _ _ _ _ _ _ _ _ h⟩,fun _=>fun h=>am (aq hk4 n) hk4 n _ _ _ _ _ _ _ _ _ _ _ _ _ _ h⟩,⟨fun _ _ h=>Eq.trans (by kernel_rfl) h,⟨fun _ _ h=>Eq.trans (by kernel_rfl) h,⟨fun _ _ h=>Eq.trans (by kernel_rfl) h,fun _=>fun h=>am (aq hk4 n) hk4 n _ _ _ _ _ _ _ _ _ _ _ _ _ _ h,fun _=>fun h=>am (aq hk4 n) hk4 n _ _ _ _ _ _ _ _ _ _ _ _ _ _ h⟩,fun _=>fun h=>am (aq hk4 n) hk4 n _ _ _ _ _ _ _ _ _ _ _ _ _ _ h⟩,fun _=>fun h=>am (aq hk4 n) hk4 n _ _ _ _ _ _ _ _ _ _ _ _ _ _ h⟩⟩⟩,⟨fun _ _ h=>Eq.trans (by kernel_rfl) h,⟨fun _ _ h=>Eq.trans (by kernel_rfl) h,⟨fun _ _ h=>Eq.trans (by kernel_rfl) h,⟨fun _ _ h=>Eq.trans (by kernel_rfl) h,⟨fun _ _ h=>Eq.trans (by kernel_rfl) h,⟨fun _ _ h=>Eq.trans (by kernel_rfl) h,fun _=>⟨fun _ _ h=>Eq.trans (by kernel_rfl) h,fun h=>am (aq hk4 n) hk4 n _ _ _ _ _ _ _ _ _ _ _ _ _ _ h,fun h=>am (aq hk4 n) hk4 n _ _ _ _ _ _ _ _ _ _ _ _ _ _ h⟩,fun _=>fun h=>am (aq hk4 n) hk4 n _ _ _ _ _ _ _ _ _ _ _ _ _ _ h⟩,fun _=>fun h=>am (aq hk4 n) hk4 n _ _ _ _ _ _ _ _ _ _ _ _ _ _ h⟩,fun _=>fun h=>am (aq hk4 n) hk4 n _ _ _ _ _ _ _ _ _ _ _ _ _ _ h⟩,fun _=>fun h=>am (aq hk4 n) hk4 n _ _ _ _ _ _ _ _ _ _ _ _ _ _ h⟩,fun _=>fun h=>am (aq hk4 n) hk4 n _ _ _ _ _ _ _ _ _ _ _ _ _ _ h⟩,⟨fun _ _ h=>Eq.trans (by kernel_rfl) h,⟨fun _ _ h=>Eq.trans (by kernel_rfl) h,⟨fun _ _ h=>Eq.trans (by kernel_rfl) h,⟨fun _ _ h=>Eq.trans (by kernel_rfl) h,fun _=>fun h=>am (aq hk4 n) hk4 n _ _ _ _ _ _ _ _ _ _ _ _ _ _ h,fun _=>fun h=>am (aq hk4 n) hk4 n _ _ _ _ _ _ _ _ _ _ _ _ _ _ h⟩,fun _=>fun h=>am (aq hk4 n) hk4 n _ _ _ _ _ _ _ _ _ _ _ _ _ _ h⟩,fun _=>fun h=>am (aq hk4 n) hk4 n _ _ _ _ _ _ _ _ _ _ _ _ _ _ h⟩,fun _=>fun h=>am (aq hk4 n) hk4 n _ _ _ _ _ _ _ _ _ _ _ _ _ _ h⟩⟩⟩,⟨fun _ _ h=>Eq.trans (by kernel_rfl) h,⟨fun _ _ h=>Eq.trans (by kernel_rfl) h,⟨fun _ _ h=>Eq.trans (by kernel_rfl) h,⟨fun _ _ h=>Eq.trans (by kernel_rfl) h,fun _=>fun h=>am (aq hk4 n) hk4 n _ _ _ _ _ _ _ _ _ _ _ _ _ _ h,⟨fun _ _ h=>Eq.trans (by kernel_rfl) h,fun _=>fun h=>am (aq hk4 n) hk4 n _ _ _ _ _ _ _ _ _ _ _ _ _ _ h,fun _=>fun h=>am (aq hk4 n) hk4 n _ _ _ _ _ _ _ _ _ _ _ _ _ _ h⟩⟩,⟨fun _ _ h=>Eq.trans (by kernel_rfl) h,⟨fun _ _ h=>Eq.trans (by kernel_rfl) h,fun _=>fun h=>am (aq hk4 n) hk4 n _ _ _ _ _ _ _ _ _ _ _ _ _ _ h,fun _=>fun h=>am (aq hk4 n) hk4 n _ _ _ _ _ _ _ _ _ _ _ _ _ _ h⟩,fun _=>fun h=>am (aq hk4 n) hk4 n _ _ _ _ _ _ _ _ _ _ _ _ _ _ h⟩⟩,⟨fun _ _ h=>Eq.trans (by kernel_rfl) h,⟨fun _ _ h=>Eq.trans (by kernel_rfl) h,⟨fun _ _ h=>Eq.trans (by kernel_rfl) h,fun _=>fun h=>am (aq hk4 n) hk4 n _ _ _ _ _ _ _ _ _ _ _ _ _ _ h,fun _=>fun h=>am (aq hk4 n) hk4 n _ _ _ _ _ _ _ _ _ _ _ _ _ _ h⟩,fun _=>fun h=>am (aq hk4 n) hk4 n _ _ _ _ _ _ _ _ _ _ _ _ _ _ h⟩,fun _=>fun h=>am (aq hk4 n) hk4 n _ _ _ _ _ _ _ _ _ _ _ _ _ _ h⟩⟩,⟨fun _ _ h=>Eq.trans (by kernel_rfl) h,⟨fun _ _ h=>Eq.trans (by kernel_rfl) h,⟨fun _ _ h=>Eq.trans (by kernel_rfl) h,⟨fun _ _ h=>Eq.trans (by kernel_rfl) h,fun _=>fun h=>am (aq hk4 n) hk4 n _ _ _ _ _ _ _ _ _ _ _ _ _ _ h,fun _=>fun h=>am (aq hk4 n) hk4 n _ _ _ _ _ _ _ _ _ _ _ _ _ _ h⟩,fun _=>fun h=>am (aq hk4 n) hk4 n _ _ _ _ _ _ _ _ _ _ _ _ _ _ h⟩,fun _=>fun h=>am (aq hk4 n) hk4 n _ _ _ _ _ _ _ _ _ _ _ _ _ _ h⟩,fun _=>fun h=>am (aq hk4 n) hk4 n _ _ _ _ _ _ _ _ _ _ _ _ _ _ h⟩⟩⟩⟩,fun h=>hk4 _ _ _ _ _ _ h⟩)
theorem wG{N:Nat}{r:PR ay}:∀ (n:Nat) (x1:List UInt8) (x77_n:Nat) (x78:Int) (x79:Int) (b100000:VMask) (b400448:List Vthread),dT N n x1 x77_n x78 x79 b100000 b400448=some r→g8 N r (vW (aa 0 Try.f22)) (vQ x1 x77_n x78 x79 b100000 b400448)
 |0,_,_,_,_,_,_,h=>by cases h
 |n+1,x1,x77_n,x78,x79,b100000,b400448,h=>aJ (m:=4000) (t:=
  .cond (decide (x79 < x78))
  (
   .bnd (eW x77_n x79) fun z126=>
   .bnd (b400448[z126]?) fun z127=>
   .bnd (ap b100000.steps z127.at_) fun z128=>
   .cond (z128.kind==4)
   (
    .bnd (ef N x1 z127.slots b100000) fun z129=>
    sL (.ok (true,z129.1,z129.2)))
   (
    wz (aa 0 Try.f22) (dT N n) x1 x77_n x78 (w64 (x79+1)) b100000 b400448))
  (
   sL (.ok (false,([] :List (List UInt8)),b100000)))) (by kernel_rfl) (by kernel_rfl) h (⟨fun _=>fun _=>fun _=>⟨fun _=>be (enc:=kY) rfl,fun h=>(wG n) _ _ _ _ _ _ h⟩,be (enc:=kY) rfl⟩)
theorem AA{N:Nat}{r:PR ay}:∀ (n:Nat) (x1:List UInt8) (x7_n:Nat) (x30:Int) (x31:Int) (b100000:VMask) (b400448:List Vthread),ee N n x1 x7_n x30 x31 b100000 b400448=some r→g8 N r (na (aa 0 Try.f22)) (ne x1 x7_n x30 x31 b100000 b400448)
 |0,_,_,_,_,_,_,h=>by cases h
 |n+1,x1,x7_n,x30,x31,b100000,b400448,h=>aJ (m:=4000) (t:=
  .cond (decide (x31 < x30))
  (
   zA (aa 0 Try.f22) (ae N (ee N n) n) x1 x31 0 x30 x31 x7_n (x7_n:Int) 0 ([] :List (Int × Bool)) b100000 b400448 ([] :List Vthread))
  (
   wz (aa 0 Try.f22) (dT N n) x1 x7_n (x7_n:Int) 0 b100000 b400448)) (by kernel_rfl) (by kernel_rfl) h (⟨fun h=>aq (AA n) n _ _ _ _ _ _ _ _ _ _ _ _ h,fun h=>wG n _ _ _ _ _ _ h⟩)
theorem E8{N:Nat}{r:PR ay}(x1:List UInt8)(y0:VMask)(h:eT N x1 y0=some r):g8 N r (FL (aa 0 Try.f22)) (Gu x1 y0):=
 aJ (m:=4000) (t:=
 .bnd (kW N ([(-1)] :List Int) (w64 ((w64 (2 * y0.Groups))+2))) fun z1=>
 .bnd (eV N ({ at_:=0,slots:=z1 }:Vthread) 0 y0 ([] :List (Int × Bool))) fun z2=>
 .sm z2 (fun z3=>
  AT (aa 0 Try.f22) (ee N N) x1 z3.1 (x1.length:Int) 0 z3.2.1 z3.2.2.2) (fun vz2=>
  sL (.pan vz2))) (by kernel_rfl) (by kernel_rfl) h (fun _=>fun _=>⟨fun _=>fun h=>AA N _ _ _ _ _ _ h,fun _=>be (enc:=kY) rfl⟩)
def JJ(x1:List UInt8)(y0:VMask):List (TV EE.T):=[.a (.box 100000 0),.a (.d .str x1)]
def sI(x1:List UInt8)(y0:VMask):List (Nat × TB EE.T):=[(100000,.cs (eK EE (.nam 8) y0))]
theorem ou{N:Nat}(x1:List UInt8)(y0:VMask){r:PR ay}(h:eT N x1 y0=some r)(ρ:Rn)(hi:Inj ρ (sI x1 y0)):aT Try.prog 22 ((JJ x1 y0).map (TV.to EE.toEnc ρ)) (hTo EE.toEnc ρ (sI x1 y0)) (fun out H=>match r with|.ok z=>out=.ret ((jE z).to EE.toEnc ρ)∧H=hTo EE.toEnc ρ (CF 100000 z)|.pan v=>out=.pan v):=
 (fA (aa 0 Try.f22) 99 mixed (Hw N) Try.func22 (by kernel_rfl) rfl rfl rfl rfl (E8 x1 y0 h) ρ hi).mono fun out H h=>by cases r with|ok z=>exact cS.retH rfl rfl h|pan v=>exact cS.pan h
end Go.Proofs.Ytlhjbhgkhpbnfaa
namespace Go.Proofs.Ytlhjbhgkhpbnfaa
open Go.RowKit P
set_option linter.unusedSimpArgs false
set_option linter.unusedVariables false
def yC:Value→Option (Int × Int)
 |.iface t (.agg ⟨[.int .i64 e,.int .i64 a]⟩)=>if t=28 then some (e,a) else none
 |_=>none
theorem yf{v:Value}{p:Int × Int}(h:yC v=some p):v=faultV p.1 p.2:=by
 unfold yC at h
 split at h
 ·split at h
  ·rename_i e
   cases h
   rw [e];rfl
  ·cases h
 ·cases h
def rK(N:Nat)(m:List UInt8):Option (Except (Int × Int) VMask):=
 if 60 < m.length then some (.error (2,0)) else
 match yW N m with
 |none=>none
 |some (.pan v)=>(yC v).map .error
 |some (.ok (_,_,at_,gr,k,l))=>if at_ < (m.length:Int) then some (.error (1,at_)) else(rp 32 k l [CH]).map fun l'=>.ok ⟨gr,l'⟩
theorem DH{N:Nat}{m:List UInt8}{p:Int × Int}(h:rK N m=some (.error p))(w:World):Calls Try.prog 21 #[.string (mkB m)] w fun x w'=>x=.returned (.tuple #[.pointer none,.agg #[.int .i64 p.1,.int .i64 p.2]])∧Below w.heap.size w w':=by
 unfold rK at h
 split at h
 ·rename_i hm
  cases h
  exact yO m hm w
 ·rename_i hm
  split at h
  ·cases h
  ·rename_i v hc
   obtain⟨q,hq,e⟩:=Option.map_eq_some_iff.1 h
   cases e
   have:=yf hq
   subst this
   exact yT m (by omega) _ _ hc w
  ·rename_i hc
   split at h
   ·rename_i hat
    cases h
    exact xy m (by omega) hc hat w
   ·obtain⟨q,hq,e⟩:=Option.map_eq_some_iff.1 h
    cases e
theorem zV{N:Nat}{m:List UInt8}{mk:VMask}(h:rK N m=some (.ok mk))(w:World):Calls Try.prog 21 #[.string (mkB m)] w fun x w'=>∃ (X':GW) (km:Nat),x=.returned (.tuple #[.pointer (some ⟨km,0,none⟩),.agg #[.int .i64 0,.int .i64 0]])∧X'.w=w'∧Ext (fun b=>b < w.heap.size) ⟨w,fun _=>none⟩ X'∧SimE (fun b=>b < w.heap.size) X' ⟨1,[],[(km,cells EE.toEnc (.nam 8) mk)],[]⟩ #[undef] :=by
 unfold rK at h
 split at h
 ·cases h
 ·rename_i hm
  split at h
  ·cases h
  ·obtain⟨q,hq,e⟩:=Option.map_eq_some_iff.1 h
   cases e
  ·rename_i hc
   split at h
   ·cases h
   ·rename_i hat
    obtain⟨l',hv,e⟩:=Option.map_eq_some_iff.1 h
    cases e
    refine Bv m (by omega) hc hat hv ?_ w
    unfold rp at hv
    split at hv
    ·cases hv
     simp
    ·cases hv
set_option maxRecDepth 100000 in
set_option maxHeartbeats 4000000 in
theorem Ei{N:Nat}{m:List UInt8}{p:Int × Int}(h:rK N m=some (.error p))(hp:p.1≠0)(text:List UInt8)(w:World):Calls Try.prog 9 #[.string (mkB m),.string (mkB text)] w fun x w'=>x=.returned (.tuple #[.bool false,.slice none 0 0,.int .i64 p.1])∧Below w.heap.size w w':=by
 have hc:=DH h w
 obtain⟨e,a⟩:=p
 dsimp only at hp hc ⊢
 have hne:(e==0)=false:=by simpa using hp
 go_enter Try.func9,Try.ntmps9
 go_wp2_with (go_at_call 21;refine hc.mono ?_)
 rintro x W1 ⟨rfl,b1⟩
 go_wp2
 go_region
 go_wp2
 simp [bodyPost,Leaves,settle,results,Try.results9,go_sem]
 exact b1.trans (((Below.refl _ W1).alloc (Nat.le_refl _) _).drew.mono b1.size)
set_option maxRecDepth 100000 in
set_option maxHeartbeats 4000000 in
theorem Bz{N:Nat}{m:List UInt8}{mk:VMask}(h:rK N m=some (.ok mk))(text:List UInt8)(ht:2000 < text.length)(w:World):Calls Try.prog 9 #[.string (mkB m),.string (mkB text)] w fun x w'=>x=.returned (.tuple #[.bool false,.slice none 0 0,.int .i64 2])∧Below w.heap.size w w':=by
 have hc:=zV h w
 have hsize:= @jF
 go_enter Try.func9,Try.ntmps9
 go_wp2_with (go_at_call 21;refine hc.mono ?_)
 rintro x w' ⟨X1,km,hx,hw,hx1,hs⟩
 subst hw hx
 have hz:=gl (B:=w.heap.size) hx1 fun b hb=>hb
 go_wp2
 simp [bodyPost,Leaves,settle,results,Try.results9,go_sem]
 exact hz.trans (((Below.refl _ X1.w).alloc (Nat.le_refl _) _).mono hz.size)
theorem DR{X:GW}(o:Obj):New X ⟨X.w.alloc o,X.g⟩:=by
 have h:=(Below.refl X.w.heap.size X.w).alloc (Nat.le_refl _) o
 exact⟨h.os,h.tape,h.output,h.size,fun b hb=>⟨h.block b hb,rfl⟩⟩
theorem Nh{N:Nat}{text:List UInt8}{mk:VMask}{b:Bool}{ls:List (List UInt8)}{mk2:VMask}(h:eT N text mk=some (.ok (b,ls,mk2))){F:Nat→Prop}{X:GW}{n:Nat}{t:List (Nat × AV)}{tm:Array Value}{km:Nat}(hs:SimE F X ⟨n,t,[(km,cells EE.toEnc (.nam 8) mk)],[]⟩ tm):
  Calls Try.prog 22 #[.pointer (some ⟨km,0,none⟩),.string (mkB text)] X.w fun x w'=>∃ (X':GW) (lv:Value),x=.returned (.tuple #[.bool b,lv])∧X'.w=w'∧Ext F X X'∧Rel X' (.sl false 1 (ls.map uu)) lv∧(∀q n,X'.g q=some n→q < X'.w.heap.size):=by
 have hi:Inj (⟨fun _=>⟨km,false,[]⟩⟩:Rn) (sI text mk):=by
  intro p hp q hq
  simp only [sI,List.mem_singleton] at hp hq
  subst hp hq
  exact⟨fun _ _ _=>rfl,fun _=>rfl⟩
 have hc:=ou text mk h ⟨fun _=>⟨km,false,[]⟩⟩ hi
 refine(hc.2 F X #[.pointer (some ⟨km,0,none⟩),.string (mkB text)] (hs.args rfl fun i u hu=> ?_)).mono ?_
 ·match i,hu with
  |0,hu=>cases hu;exact⟨.v _,rfl⟩
  |1,hu=>cases hu;exact⟨.v _,rfl⟩
  |n+2,hu=>cases hu
 ·rintro x w' ⟨X',out,H',rfl,⟨rfl,rfl⟩,⟨v,rfl,hs'⟩,hx⟩
  have h1:Rel X' (.tu [.v (.bool b),.sl false 1 (ls.map uu)]) (#[v].getD 0 undef):=hs'.slot 0 _ bY
  have hr:Rel X' (.tu [.v (.bool b),.sl false 1 (ls.map uu)]) v:=by simpa using h1
  clear h1
  cases hr with
  |tu _ xs hl hr=>
   obtain⟨a0,a1,rfl⟩:=xm (by simpa using hl.symm:xs.size=2)
   have e0:=bK (hr 0 _ _ rfl rfl)
   subst e0
   exact⟨X',a1,rfl,rfl,hx,hr 1 _ _ rfl rfl,hs'.gb⟩
set_option maxRecDepth 100000 in
set_option maxHeartbeats 4000000 in
theorem Gl{N:Nat}{m:List UInt8}{mk:VMask}(h:rK N m=some (.ok mk))(text:List UInt8)(ht:text.length≤2000){b:Bool}{ls:List (List UInt8)}{mk2:VMask}(hf:eT N text mk=some (.ok (b,ls,mk2)))(w:World):Calls Try.prog 9 #[.string (mkB m),.string (mkB text)] w fun x w'=>∃ (X':GW) (lv:Value),x=.returned (.tuple #[.bool b,lv,.int .i64 0])∧X'.w=w'∧Ext (fun b=>b < w.heap.size) ⟨w,fun _=>none⟩ X'∧Rel X' (.sl false 1 (ls.map uu)) lv∧(∀q n,X'.g q=some n→q < X'.w.heap.size):=by
 have hc:=zV h w
 have hsize:= @jF
 go_enter Try.func9,Try.ntmps9
 go_wp2_with (go_at_call 21;refine hc.mono ?_)
 rintro x w' ⟨X1,km,hx,hw,hx1,hs⟩
 subst hw hx
 have hn:=DR (X:=X1) (.cells #[.int .i64 0,.int .i64 0] 28)
 have hg2:∀q n,X1.g q=some n→q < (X1.w.alloc (.cells #[.int .i64 0,.int .i64 0] 28)).heap.size:=fun q n hq=>Nat.lt_of_lt_of_le (hs.gb q n hq) hn.size
 have hfw:=Nh hf (hs.new hn hg2)
 have hx2:=hx1.trans (hn.ext hs.gb hs.fb)
 go_wp2_with (go_at_call 22;refine hfw.mono ?_)
 rintro x w' ⟨X2,lv,hx,hw,hx3,hr,hgb⟩
 subst hw hx
 go_wp2
 simp [bodyPost,Leaves,settle,results,Try.results9,go_sem]
 exact⟨X2,rfl,hx2.trans hx3,hr,hgb⟩
def jD(N:Nat)(m text:List UInt8):Option (Bool × List (List UInt8) × Int):=match rK N m with
 |none=>none
 |some (.error p)=>if p.1=0 then none else some (false,[],p.1)
 |some (.ok mk)=>if 2000 < text.length then some (false,[],2) else match eT N text mk with
  |some (.ok (b,ls,_))=>some (b,ls,0)
  |_=>none
def yE(r:Bool × List (List UInt8) × Int):TV EE.T:=.tu [.a (.d .bool r.1),.a (.d (.sl .str) r.2.1),.a (.d (.int .i64) r.2.2)]
theorem A6{X:GW}{b:Bool}{u:AV}{v:Value}{n:Int}(h:Rel X u v):Rel X (.tu [.v (.bool b),u,.v (.int .i64 n)]) (.tuple #[.bool b,v,.int .i64 n]):=by
 refine .tu _ _ rfl ?_
 intro i u x hu hx
 match i,hu,hx with
 |0,hu,hx=>simp at hu hx;subst hu hx;exact .v _
 |1,hu,hx=>simp at hu hx;subst hu hx;exact h
 |2,hu,hx=>simp at hu hx;subst hu hx;exact .v _
theorem Jk{N:Nat}(m text:List UInt8){r:Bool × List (List UInt8) × Int}(h:jD N m text=some r):aT Try.prog 9 [.v (.string (mkB m)),.v (.string (mkB text))] [] (fun out H=>out=.ret (.tu [.v (.bool r.1),.sl false 1 (r.2.1.map uu),.v (.int .i64 r.2.2)])∧H=[]):=by
 refine uL ⟨_,Try.func9,by kernel_rfl,rfl⟩ rfl fun X vs hX hv hr=> ?_
 have e0:=bK (hr 0 _ rfl)
 have e1:=bK (hr 1 _ rfl)
 rw [An hv,e0,e1]
 have hnil:∀ {n:Int} {w':World} {X:GW},Below X.w.heap.size X.w w'→(∀b n,X.g b=some n→b < X.w.heap.size)→∃X' r,X'.w=w'∧Ending.returned (.tuple #[.bool false,.slice none 0 0,.int .i64 n])=.returned r∧Rel X' (.tu [.v (.bool false),.sl false 1 (([] :List (List UInt8)).map uu),.v (.int .i64 n)]) r∧Below X.w.heap.size X.w w'∧(∀b n,X'.g b=some n→b < w'.heap.size)∧∀b,b < X.w.heap.size→X'.g b=X.g b:=fun {n w' X} hb hX=>⟨⟨w',X.g⟩,_,rfl,rfl,A6 (.nil false 1),hb,fun b n hq=>Nat.lt_of_lt_of_le (hX b n hq) hb.size,fun b _=>rfl⟩
 unfold jD at h
 split at h
 ·cases h
 ·rename_i p hc
  split at h
  ·cases h
  ·rename_i hp
   cases h
   refine(Ei hc hp text X.w).mono ?_
   rintro e w' ⟨rfl,hb⟩
   exact hnil hb hX
 ·rename_i mk hc
  split at h
  ·rename_i ht
   cases h
   refine(Bz hc text ht X.w).mono ?_
   rintro e w' ⟨rfl,hb⟩
   exact hnil hb hX
  ·rename_i ht
   split at h
   ·rename_i b ls mk2 hf
    cases h
    refine(Gl hc text (by omega) hf X.w).mono ?_
    rintro e w' ⟨X',lv,rfl,rfl,hx,hrl,hgb⟩
    have hb:=gl (B:=X.w.heap.size) hx fun b hb=>hb
    refine⟨⟨X'.w,fun q=>match X.g q with|some n=>some n|none=>X'.g q⟩,_,rfl,rfl,A6 (hrl.mono fun q n hq=>⟨n,Nat.le_refl _,?_,fun j _=>rfl⟩),hb,fun q n hq=> ?_,fun q hq=> ?_⟩
    ·show(match X.g q with|some n=>some n|none=>X'.g q)=some n
     cases hg:X.g q with
     |none=>exact hq
     |some k=>
      have h1:=(hx.frame q (hX q k hg)).2
      rw [hq] at h1
      cases h1
    ·have hq':(match X.g q with|some n=>some n|none=>X'.g q)=some n:=hq
     cases hg:X.g q with
     |none=>rw [hg] at hq';exact hgb q n hq'
     |some k=>exact Nat.lt_of_lt_of_le (hX q k hg) hb.size
    ·show(match X.g q with|some n=>some n|none=>X'.g q)=X.g q
     cases hg:X.g q with
     |none=>exact(hx.frame q hq).2
     |some k=>rfl
   ·cases h
def lL(N:Nat):List (TV EE.T)→PV EE.T
 | [u0,u1] =>match iA .str u0,iA .str u1 with
   |some x0,some x1=>.opt (jD N x0 x1) yE
   |_,_=>.bad
 |_=>.bad
theorem uC(N:Nat)(us:List (TV EE.T)):(lL N us).ok fun u=>∀ρ,aT Try.prog 9 (us.map (TV.to EE.toEnc ρ)) [] (fun out H=>out=.ret (u.to EE.toEnc ρ)∧H=[]):=by
 unfold lL
 split
 ·split
  ·rename_i u0 u1 x0 x1 h0 h1
   intro z hz ρ
   refine eH (us':=([.a (.d .str x0),.a (.d .str x1)] :List (TV EE.T))) ⟨cN h0 ρ,cN h1 ρ,trivial⟩ ?_
   exact Jk x0 x1 hz
  ·trivial
 ·trivial
end Go.Proofs.Ytlhjbhgkhpbnfaa
namespace Go.Proofs.Ytlhjbhgkhpbnfaa
open Go.RowKit P
set_option linter.unusedVariables false
set_option linter.unusedSimpArgs false
set_option maxRecDepth 100000
def fe(N:Nat):Nat→(List (List UInt8))→(List (List UInt8))→Int→Option Bool
 |0,_,_,_=>none
 |n+1,x0,x1,x5=>
  bif decide (x5 < (x0.length:Int)) then
   (ap x0 x5).bind fun z1=>
   (ap x1 x5).bind fun z2=>
   bif !decide (z1=z2) then
    some false
   else
    fe N n x0 x1 (w64 (x5+1))
  else
   some true
def gG(N:Nat)(x0:List (List UInt8))(x1:List (List UInt8)):Option Bool:=
 bif (x0.length:Int) != (x1.length:Int) then
  some false
 else
  fe N N x0 x1 0
def fK(N:Nat):Option Bool:=
 (jD N ([40,97,124,98,41,43,99] :List UInt8) ([97,98,99] :List UInt8)).bind fun z1=>
 (fh N ([60,36,49,62] :List UInt8) ([97,98,99] :List UInt8) z1.2.1).bind fun z2=>
 bif z1.2.2==0 then
  bif z1.1 then
   (gG N z1.2.1 ([([98] :List UInt8)] :List (List UInt8))).bind fun z3=>
   bif z3 then
    bif z2.2==0 then
     some (decide (z2.1=([60,98,62] :List UInt8)))
    else
     some false
   else
    some false
  else
   some false
 else
  some false
end Go.Proofs.Ytlhjbhgkhpbnfaa
namespace Go.Proofs.Ytlhjbhgkhpbnfaa
open Go.RowKit P
set_option linter.unusedVariables false
set_option linter.unusedSimpArgs false
set_option maxRecDepth 100000
def ja(r:Bool):TV EE.T:=.a (.d .bool r)
def tW(r:Bool):RL EE.T:=.ret (ja r) []
def Na:Lvs:=⟨[(6,⟨[(0,false),(1,false),(5,false)],[],[],[]⟩)],[(4,⟨[(0,false),(1,false),(5,false)],[],[],[]⟩)],[],[],false,[],[],[],[]⟩
def No:List ResultVar:=[.tmp 4]
def MC(N:Nat):Gam EE:=⟨[],EQT,[],[]⟩
theorem Lp(N:Nat):GOk Try.prog TT EE (MC N):=GOk.nil dh
def E0(c:Code):List It2:=atL 4 c
def IC(x0:List (List UInt8))(x1:List (List UInt8))(x5:Int):TS EE.T:=⟨26,[(0,.a (.d (.sl .str) x0)),(1,.a (.d (.sl .str) x1)),(5,.a (.d (.int .i64) x5))],[],[]⟩
def LE(c:Code):List It2:=[.c c]
def Mw(x0:List (List UInt8))(x1:List (List UInt8)):TS EE.T:=⟨26,[(0,.a (.d (.sl .str) x0)),(1,.a (.d (.sl .str) x1))],[],[]⟩
def IG(c:Code)(f:(List (List UInt8))→(List (List UInt8))→Int→Option Bool)(x0:List (List UInt8))(x1:List (List UInt8))(x5:Int):Tree (Lf EE.T × Option Bool):=.leaf (.go (E0 c) (IC x0 x1 x5),f x0 x1 x5)
abbrev K8(N:Nat)(r:Bool)(k:List It2)(s:TS EE.T):Prop:=f8 (Y:=TT) EE (MC N) Na No (fun u=>u=tW r) k s
def GM(x:Bool):Tree (Lf EE.T × Option Bool):=.leaf (.done (tW x),some x)
theorem EX{N:Nat}{r:Bool}:∀ (n:Nat) (x0:List (List UInt8)) (x1:List (List UInt8)) (x5:Int),fe N n x0 x1 x5=some r→K8 N r (E0 (aa 0 Try.f13)) (IC x0 x1 x5)
 |0,_,_,_,h=>by cases h
 |n+1,x0,x1,x5,h=>aJ (m:=4000) (t:=
  .cond (decide (x5 < (x0.length:Int)))
  (
   .bnd (ap x0 x5) fun z1=>
   .bnd (ap x1 x5) fun z2=>
   .cond (!decide (z1=z2))
   (
    GM false)
   (
    IG (aa 0 Try.f13) (fe N n) x0 x1 (w64 (x5+1))))
  (
   GM true)) (by kernel_rfl) (by kernel_rfl) h (⟨fun _=>fun _=>⟨be (enc:=tW) rfl,fun h=>(EX n) _ _ _ h⟩,be (enc:=tW) rfl⟩)
theorem Lg{N:Nat}{r:Bool}(x0:List (List UInt8))(x1:List (List UInt8))(h:gG N x0 x1=some r):K8 N r (LE (aa 0 Try.f13)) (Mw x0 x1):=
 aJ (m:=4000) (t:=
 .cond ((x0.length:Int) != (x1.length:Int))
 (
  GM false)
 (
  IG (aa 0 Try.f13) (fe N N) x0 x1 0)) (by kernel_rfl) (by kernel_rfl) h (⟨be (enc:=tW) rfl,fun h=>EX N _ _ _ h⟩)
theorem rD{N:Nat}(x0:List (List UInt8))(x1:List (List UInt8)){r:Bool}(h:gG N x0 x1=some r)(ρ:Rn):aT Try.prog 13 (([.a (.d (.sl .str) x0),.a (.d (.sl .str) x1)] :List (TV EE.T)).map (TV.to EE.toEnc ρ)) [] (fun out H=>out=.ret ((ja r).to EE.toEnc ρ)∧H=[]):=
 (mF (aa 0 Try.f13) 26 mixed (Lp N) Try.func13 (by kernel_rfl) rfl rfl rfl rfl (Lg x0 x1 h) ρ).mono fun out H h=>cS.ret rfl h
def jc(N:Nat):List (TV EE.T)→PV EE.T
 | [u0,u1] =>match iA (.sl .str) u0,iA (.sl .str) u1 with
   |some x0,some x1=>.opt (gG N x0 x1) ja
   |_,_=>.bad
 |_=>.bad
theorem pE(N:Nat)(us:List (TV EE.T)):(jc N us).ok fun u=>∀ρ,aT Try.prog 13 (us.map (TV.to EE.toEnc ρ)) [] (fun out H=>out=.ret (u.to EE.toEnc ρ)∧H=[]):=by
 unfold jc
 split
 ·split
  ·rename_i h0 h1
   intro z hz ρ;refine eH ?_ (rD _ _ hz ρ);exact⟨cN h0 ρ,cN h1 ρ,trivial⟩
  ·trivial
 ·trivial
def jd(r:Bool):TV EE.T:=.a (.d .bool r)
def pr(r:Bool):RL EE.T:=.ret (jd r) []
def NB:Lvs:=⟨[],[],[],[],false,[],[],[],[]⟩
def MU:List ResultVar:=[.tmp 0]
def MR(N:Nat):Gam EE:=⟨[⟨13,jc N⟩,⟨14,iQ N⟩,⟨9,lL N⟩],EQT,[],[]⟩
theorem L9(N:Nat):GOk Try.prog TT EE (MR N):=GOk.cons (pE N) (GOk.cons (mi N) (GOk.cons (uC N) (GOk.nil dh)))
def LK(c:Code):List It2:=[.c c]
def Lx:TS EE.T:=⟨34,[],[],[]⟩
abbrev M6(N:Nat)(r:Bool)(k:List It2)(s:TS EE.T):Prop:=f8 (Y:=TT) EE (MR N) NB MU (fun u=>u=pr r) k s
def Af(x:Bool):Tree (Lf EE.T × Option Bool):=.leaf (.done (pr x),some x)
theorem LG{N:Nat}{r:Bool}(h:fK N=some r):M6 N r (LK (aa 0 Try.f11)) (Lx):=
 aJ (m:=4000) (t:=
 .bnd (jD N ([40,97,124,98,41,43,99] :List UInt8) ([97,98,99] :List UInt8)) fun z1=>
 .bnd (fh N ([60,36,49,62] :List UInt8) ([97,98,99] :List UInt8) z1.2.1) fun z2=>
 .cond (z1.2.2==0)
 (
  .cond (z1.1)
  (
   .bnd (gG N z1.2.1 ([([98] :List UInt8)] :List (List UInt8))) fun z3=>
   .cond (z3)
   (
    .cond (z2.2==0)
    (
     Af (decide (z2.1=([60,98,62] :List UInt8))))
    (
     Af false))
   (
    Af false))
  (
   Af false))
 (
  Af false)) (by kernel_rfl) (by kernel_rfl) h (fun _=>fun _=>⟨⟨fun _=>⟨⟨be (enc:=pr) rfl,be (enc:=pr) rfl⟩,be (enc:=pr) rfl⟩,be (enc:=pr) rfl⟩,be (enc:=pr) rfl⟩)
theorem qX{N:Nat}{r:Bool}(h:fK N=some r)(ρ:Rn):aT Try.prog 11 (([] :List (TV EE.T)).map (TV.to EE.toEnc ρ)) [] (fun out H=>out=.ret ((jd r).to EE.toEnc ρ)∧H=[]):=
 (mF (aa 0 Try.f11) 34 mixed (L9 N) Try.func11 (by kernel_rfl) rfl rfl rfl rfl (LG h) ρ).mono fun out H h=>cS.ret rfl h
def i7(N:Nat):List (TV EE.T)→PV EE.T
 | [] =>.opt (fK N) jd
 |_=>.bad
theorem qr(N:Nat)(us:List (TV EE.T)):(i7 N us).ok fun u=>∀ρ,aT Try.prog 11 (us.map (TV.to EE.toEnc ρ)) [] (fun out H=>out=.ret (u.to EE.toEnc ρ)∧H=[]):=by
 unfold i7
 split
 ·intro z hz ρ;exact qX hz ρ
 ·trivial
end Go.Proofs.Ytlhjbhgkhpbnfaa
namespace Go.Proofs.Ytlhjbhgkhpbnfaa
open Go.RowKit P
set_option linter.unusedVariables false
set_option linter.unusedSimpArgs false
set_option maxRecDepth 100000
end Go.Proofs.Ytlhjbhgkhpbnfaa
namespace Go.Proofs.Ytlhjbhgkhpbnfaa
open Go.RowKit P
set_option linter.unusedVariables false
set_option linter.unusedSimpArgs false
set_option maxRecDepth 100000
end Go.Proofs.Ytlhjbhgkhpbnfaa
namespace Go.Proofs.Ytlhjbhgkhpbnfaa
open Go.RowKit P
set_option linter.unusedVariables false
set_option linter.unusedSimpArgs false
set_option maxRecDepth 100000
def dH(N:Nat)(x0:UInt8):Option Bool:=
 bif decide ((b2i x0)≥(b2i 48)) then
  some (decide ((b2i x0)≤(b2i 57)))
 else
  some false
abbrev aH:=(List (List UInt8)) × (List Int) × Bool
def co(N:Nat)(k4:(List UInt8)→(List (List UInt8))→(List Int)→Int→Option aH)(n:Nat)(x0:List UInt8)(x5:List (List UInt8))(x6:List Int)(x7:Int):Option aH:=
 k4 x0 x5 x6 (w64 (x7+1))
def fd(N:Nat)(k4:(List UInt8)→(List (List UInt8))→(List Int)→Int→Option aH)(n:Nat)(x0:List UInt8)(x5:List (List UInt8))(x6:List Int)(x7:Int):Option aH:=
 co N k4 n x0 x5 x6 (w64 (x7+2))
def dF(N:Nat)(k4:(List UInt8)→(List (List UInt8))→(List Int)→Int→Option aH)(n:Nat)(x0:List UInt8)(x5:List (List UInt8))(x6:List Int)(x7:Int):Option aH:=
 bif decide ((w64 (x7+2)) < (x0.length:Int)) then
  (ap x0 x7).bind fun z17=>
  bif (b2i z17)==(b2i 123) then
   (ap x0 (w64 (x7+1))).bind fun z18=>
   (dH N z18).bind fun z19=>
   bif z19 then
    (ap x0 (w64 (x7+2))).bind fun z20=>
    bif (b2i z20)==(b2i 125) then
     (ap x0 (w64 (x7+1))).bind fun z21=>
     (eE 16 x5 ([([] :List UInt8)] :List (List UInt8))).bind fun z26=>
     (eE 8 x6 ([w64 ((w64 (b2i z21)) - 48)] :List Int)).bind fun z27=>
     fd N k4 n x0 z26 z27 x7
    else
     some (([] :List (List UInt8)),([] :List Int),false)
   else
    some (([] :List (List UInt8)),([] :List Int),false)
  else
   some (([] :List (List UInt8)),([] :List Int),false)
 else
  some (([] :List (List UInt8)),([] :List Int),false)
def dG(N:Nat)(k4:(List UInt8)→(List (List UInt8))→(List Int)→Int→Option aH)(n:Nat)(x0:List UInt8)(x5:List (List UInt8))(x6:List Int)(x7:Int):Option aH:=
 bif decide (x7 < (x0.length:Int)) then
  (ap x0 x7).bind fun z8=>
  (dH N z8).bind fun z9=>
  bif z9 then
   (ap x0 x7).bind fun z10=>
   (eE 16 x5 ([([] :List UInt8)] :List (List UInt8))).bind fun z15=>
   (eE 8 x6 ([w64 ((w64 (b2i z10)) - 48)] :List Int)).bind fun z16=>
   co N k4 n x0 z15 z16 x7
  else
   dF N k4 n x0 x5 x6 x7
 else
  dF N k4 n x0 x5 x6 x7
def bh(N:Nat):Nat→(List UInt8)→(List (List UInt8))→(List Int)→Int→Option aH
 |0,_,_,_,_=>none
 |n+1,x0,x5,x6,x7=>
  bif decide (x7 < (x0.length:Int)) then
   (ap x0 x7).bind fun z1=>
   bif (b2i z1) != (b2i 36) then
    (gq x0 x7 (w64 (x7+1))).bind fun z2=>
    (eE 16 x5 ([z2] :List (List UInt8))).bind fun z3=>
    (eE 8 x6 ([(-1)] :List Int)).bind fun z4=>
    co N (bh N n) n x0 z3 z4 x7
   else
    bif decide ((w64 (x7+1)) < (x0.length:Int)) then
     (ap x0 (w64 (x7+1))).bind fun z5=>
     bif (b2i z5)==(b2i 36) then
      (eE 16 x5 ([([36] :List UInt8)] :List (List UInt8))).bind fun z6=>
      (eE 8 x6 ([(-1)] :List Int)).bind fun z7=>
      co N (bh N n) n x0 z6 z7 (w64 (x7+1))
     else
      dG N (bh N n) n x0 x5 x6 (w64 (x7+1))
    else
     dG N (bh N n) n x0 x5 x6 (w64 (x7+1))
  else
   some (x5,x6,true)
def eq(N:Nat)(x0:List UInt8):Option aH:=
 bh N N x0 ([] :List (List UInt8)) ([] :List Int) 0
abbrev aR:=(List UInt8) × Int
def fC(N:Nat)(k4:(List UInt8)→(List (List UInt8))→Int→(List (List UInt8))→(List Int)→(List UInt8)→Int→Int→Option aR)(n:Nat)(x1:List UInt8)(x2:List (List UInt8))(x3:Int)(x10:List (List UInt8))(x11:List Int)(x13:List UInt8)(x14:Int)(x15:Int):Option aR:=
 k4 x1 x2 x3 x10 x11 x13 x14 (w64 (x15+1))
def cF(N:Nat)(k4:(List UInt8)→(List (List UInt8))→Int→(List (List UInt8))→(List Int)→(List UInt8)→Int→Int→Option aR)(n:Nat)(x1:List UInt8)(x2:List (List UInt8))(x3:Int)(x10:List (List UInt8))(x11:List Int)(x13:List UInt8)(x14:Int)(x15:Int)(x16:List UInt8):Option aR:=
 bif decide ((x13.length:Int) < x3) then
  (vA x13 x16).bind fun z9=>
  fC N k4 n x1 x2 x3 x10 x11 z9 (w64 (x14+ (x16.length:Int))) x15
 else
  fC N k4 n x1 x2 x3 x10 x11 x13 (w64 (x14+ (x16.length:Int))) x15
def ea(N:Nat)(k4:(List UInt8)→(List (List UInt8))→Int→(List (List UInt8))→(List Int)→(List UInt8)→Int→Int→Option aR)(n:Nat)(x1:List UInt8)(x2:List (List UInt8))(x3:Int)(x10:List (List UInt8))(x11:List Int)(x13:List UInt8)(x14:Int)(x15:Int)(x16:List UInt8):Option aR:=
 (ap x11 x15).bind fun z5=>
 bif decide (z5 > 0) then
  (ap x11 x15).bind fun z6=>
  bif decide (z6≤(x2.length:Int)) then
   (ap x11 x15).bind fun z7=>
   (ap x2 (w64 (z7 - 1))).bind fun z8=>
   cF N k4 n x1 x2 x3 x10 x11 x13 x14 x15 z8
  else
   cF N k4 n x1 x2 x3 x10 x11 x13 x14 x15 x16
 else
  cF N k4 n x1 x2 x3 x10 x11 x13 x14 x15 x16
def bG(N:Nat):Nat→(List UInt8)→(List (List UInt8))→Int→(List (List UInt8))→(List Int)→(List UInt8)→Int→Int→Option aR
 |0,_,_,_,_,_,_,_,_=>none
 |n+1,x1,x2,x3,x10,x11,x13,x14,x15=>
  bif decide (x15 < (x11.length:Int)) then
   (ap x10 x15).bind fun z2=>
   (ap x11 x15).bind fun z3=>
   bif z3==0 then
    ea N (bG N n) n x1 x2 x3 x10 x11 x13 x14 x15 x1
   else
    ea N (bG N n) n x1 x2 x3 x10 x11 x13 x14 x15 z2
  else
   bif decide ((x13.length:Int) > x3) then
    (gq x13 0 x3).bind fun z4=>
    some (z4,x14)
   else
    some (x13,x14)
def fx(N:Nat)(x0:List UInt8)(x1:List UInt8)(x2:List (List UInt8))(x3:Int):Option aR:=
 (eq N x0).bind fun z1=>
 bG N N x1 x2 x3 z1.1 z1.2.1 ([] :List UInt8) 0 0
def eQ(N:Nat)(n:Nat)(x0:List UInt8)(x1:Int)(x2:Int)(x3:List UInt8):Option Bool:=
 bif x1==x2 then
  some (decide (x0=x3))
 else
  some false
def fy(N:Nat)(x0:List UInt8)(x1:Int)(x2:Int)(x3:List UInt8):Option Bool:=
 bif x2 != 0 then
  eQ N N x0 x1 x2 ([] :List UInt8)
 else
  eQ N N x0 x1 x2 x3
def bW(N:Nat)(n:Nat)(x7:List UInt8)(x8:Int)(x12:Int)(x13:List UInt8):Option Bool:=
 (fK N).bind fun z4=>
 bif z4 then
  (fy N x7 x8 x12 x13).bind fun z5=>
  some z5
 else
  some false
def gI(N:Nat)(x0:List UInt8)(x1:List UInt8)(x2:List (List UInt8)):Option Bool:=
 (fh N x0 x1 x2).bind fun z1=>
 (eq N x0).bind fun z2=>
 bif !z2.2.2 then
  bW N N z1.1 z1.2 1 ([] :List UInt8)
 else
  (fx N x0 x1 x2 20000).bind fun z3=>
  bif decide (z3.2 > 20000) then
   bW N N z1.1 z1.2 2 z3.1
  else
   bW N N z1.1 z1.2 0 z3.1
end Go.Proofs.Ytlhjbhgkhpbnfaa
