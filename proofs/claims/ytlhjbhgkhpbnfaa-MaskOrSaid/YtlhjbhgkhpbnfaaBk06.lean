import Derived.Test.YtlhjbhgkhpbnfaaBk05
set_option linter.unusedSimpArgs false
set_option linter.unusedVariables false
namespace Go.Proofs.Ytlhjbhgkhpbnfaa
open Go.RowKit P
section
attribute [local irreducible] AS.nf OpV be Stk lR Fm aW cQ G0 G2 Awp Mg Ml NH
set_option maxHeartbeats 2000000
set_option maxRecDepth 100000 in
theorem Gz(n:Int)(l:List Int)(hl:l.length < 1000000):
  aW Try.prog 55 [.sl false 1 ((n::l).map fun x=>[.v (.int .i64 x)])] [] (fun out H=>∃ (k c:Nat) (vs:List Value),out=.ret (.v (.slice (some ⟨k,0,none⟩) (l.length+1) c))∧H=[(k,((n::l).map fun x=>[AV.v (.int .i64 x)]).flatten++vs.map AV.v)] ∧(l.length+1)+vs.length=c):=by
 have hone:∀r∈((n::l).map fun x=>[AV.v (.int .i64 x)]),r.length=1∧∀u∈r,u.one=true∧cp (some u)=none:=fun r hr=>by
  obtain⟨x,_,rfl⟩:=List.mem_map.1 hr
  exact⟨rfl,fun u hu=>by rw[List.mem_singleton.1 hu];exact⟨rfl,rfl⟩⟩
 have hln:((n::l).map fun x=>[AV.v (.int .i64 x)]).length=l.length+1:=by simp
 generalize hL:((n::l).map fun x=>[AV.v (.int .i64 x)])=L at hone hln ⊢
 have hne:L≠[] :=fun e=>by rw[e] at hln;simp at hln
 refine yu _ 8 [.tmp 2] Try.func55 (by kernel_rfl) rfl rfl rfl rfl ?_
 dsimp only[slotsOf]
 repeat (first
  | ((first|apply Ba|apply ue);(next=>(first| (simp only[go_sem,Nat.reduceBEq,Nat.reduceEqDiff,reduceIte,reduceCtorEq,String.reduceEq,Nat.reduceAdd,Int.reduceToNat];exact rfl)|exact rfl)))
  | (apply qX rfl rfl rfl rfl;(next=>(first
   | (refine ns (T:=TT) rfl ?_;(first|exact trivial|omega| (simp[NFL] <;> omega)))
   | (apply opk ⟨_,.move _,_,_,_,_⟩;first|exact eT (ey _) (.inl rfl)|fail)
   | (apply opk ⟨_,.binOp .eql _ _ _ _,_,_,_,_⟩;first
    | (refine rt rfl rfl rfl ?_;(next=>(first|exact rfl| (simp only[oC];omega)| (simp only[oC];simp[NFL] <;> omega))))
    | (refine qZ rfl rfl rfl ?_;(next=>(first|exact rfl| (simp only[oC];omega)| (simp only[oC];simp[NFL] <;> omega))))
    |exact dq rfl rfl rfl
    | (refine qP rfl rfl rfl ?_;(next=>(first|rfl|assumption)))
    | (refine rz rfl rfl rfl ?_;(next=>(first|rfl|assumption)))
    |exact gY rfl rfl rfl
    |fail)
   | (apply opk ⟨_,.buildSlice _ _ _,_,_,_,_⟩;first|exact gw (T:=TT) rfl rfl rfl rfl rfl rfl rfl|fail)
   |fail)))
  | (refine arO _ ?_;first
   | (refine arO ⟨_,.move _,_,_,_,_⟩ ?_;first|refine jx rfl rfl rfl rfl ?_|fail)
   | (refine arO ⟨_,.assign _,_,_,_,_⟩ ?_;first
    |refine gQ rfl rfl rfl rfl ?_
    |refine Bf rfl rfl rfl rfl (eT (ey _) (.inr rfl)) ?_
    |fail)
   | (refine arO ⟨_,.call { callee:=.builtin .append,args:=_,argTypes:=_ },_,_,_,_⟩ ?_;first
    | (apply qI rfl rfl;(next=>(first
     | (apply dJ (T:=TT) rfl rfl rfl rfl rfl rfl rfl rfl rfl rfl;(next=>(first|exact trivial|exact cP _|assumption| (simp[ez,AV.one,AV.rd,AV.cells,cst,Value.oneCell'] <;> omega)));(next=>(first|omega| (simp[NFL] <;> omega))))
     | (apply dJ (T:=TT) rfl (wW cm rfl) rfl rfl rfl rfl rfl rfl rfl rfl;(next=>(first|exact trivial|exact cP _|assumption| (simp[ez,AV.one,AV.rd,AV.cells,cst,Value.oneCell'] <;> omega)));(next=>(first|omega| (simp[NFL] <;> omega))))
     | (apply dJ (T:=TT) rfl (wW (ek (by first|assumption| (intro e;exact absurd e.symm (by assumption))) cm) rfl) rfl rfl rfl rfl rfl rfl rfl rfl;(next=>(first|exact trivial|exact cP _|assumption| (simp[ez,AV.one,AV.rd,AV.cells,cst,Value.oneCell'] <;> omega)));(next=>(first|omega| (simp[NFL] <;> omega))))
     | (apply f8 (T:=TT) rfl rfl rfl rfl rfl rfl rfl rfl rfl;(next=>(first|exact trivial|exact cP _|assumption| (simp[ez,AV.one,AV.rd,AV.cells,cst,Value.oneCell'] <;> omega)));(next=>(first|omega| (simp[NFL] <;> omega))))
     |fail)))
    |fail)
   |fail)
  |refine rc ?_
  | (refine arE ?_;refine n9 [0,2,4] rfl ?_)
  |refine jq ?_
  |refine lF ?_
  |refine ou ?_
  |refine qU ?_
  |refine mY rfl ?_
  | (refine arC (.cond _ _ _) ?_;first
   | (refine fa rfl ?_ ?_;(next=>(first|rfl| (simp only[decide_eq_true_eq,beq_iff_eq,bne_iff_ne,ge_iff_le,gt_iff_lt,ne_eq,Bool.not_eq_true',decide_eq_false_iff_not];omega))))
   | (refine eH rfl ?_ ?_;(next=>(first
    |rfl
    | (simp only[decide_eq_false_iff_not,beq_eq_false_iff_ne,bne_eq_false_iff_eq,ge_iff_le,gt_iff_lt,ne_eq,Bool.not_eq_false',decide_eq_true_eq];omega))))
   |fail)
  |refine nW ?_
  |refine ll ?_
  |refine jT rfl ?_
  |refine jP ?_
  |refine jE ?_
  | (refine arC .ret ?_;refine qB [2] ?_)
  |refine ln ?_
  |refine lE ?_
  |refine kP ?_
  |refine pQ ?_
  |fail)
 refine hU rfl rfl (yL (.inl ⟨rfl,rfl⟩) (TT.tyOk 38 (.slice 3) rfl) rfl rfl rfl (fun b hb=> ?_))
 cases b with
 |true=>exact absurd (hb rfl) hne
 |false=>
  repeat (first
   | ((first|apply Ba|apply ue);(next=>(first| (simp only[go_sem,Nat.reduceBEq,Nat.reduceEqDiff,reduceIte,reduceCtorEq,String.reduceEq,Nat.reduceAdd,Int.reduceToNat];exact rfl)|exact rfl)))
   | (apply qX rfl rfl rfl rfl;(next=>exact u6 (T:=TT) rfl rfl))
   | (apply qX rfl rfl rfl rfl;(next=>(first
    | (refine ns (T:=TT) rfl ?_;(first|exact trivial|omega| (simp[NFL] <;> omega)))
    | (apply opk ⟨_,.move _,_,_,_,_⟩;first|exact eT (ey _) (.inl rfl)|fail)
    | (apply opk ⟨_,.binOp .eql _ _ _ _,_,_,_,_⟩;first
     | (refine rt rfl rfl rfl ?_;(next=>(first|exact rfl| (simp only[oC];omega)| (simp only[oC];simp[NFL] <;> omega))))
     | (refine qZ rfl rfl rfl ?_;(next=>(first|exact rfl| (simp only[oC];omega)| (simp only[oC];simp[NFL] <;> omega))))
     |exact dq rfl rfl rfl
     | (refine qP rfl rfl rfl ?_;(next=>(first|rfl|assumption)))
     | (refine rz rfl rfl rfl ?_;(next=>(first|rfl|assumption)))
     |exact gY rfl rfl rfl
     |fail)
    | (apply opk ⟨_,.buildSlice _ _ _,_,_,_,_⟩;first|exact gw (T:=TT) rfl rfl rfl rfl rfl rfl rfl|fail)
    |fail)))
   | (refine arO _ ?_;first
    | (refine arO ⟨_,.move _,_,_,_,_⟩ ?_;first|refine jx rfl rfl rfl rfl ?_|fail)
    | (refine arO ⟨_,.assign _,_,_,_,_⟩ ?_;first
     |refine gQ rfl rfl rfl rfl ?_
     |refine Bf rfl rfl rfl rfl (eT (ey _) (.inr rfl)) ?_
     |fail)
    | (refine arO ⟨_,.call { callee:=.builtin .append,args:=_,argTypes:=_ },_,_,_,_⟩ ?_;first
     | (apply qI rfl rfl;(next=>(first
      | (apply dJ (T:=TT) rfl rfl rfl rfl rfl rfl rfl rfl rfl rfl;(next=>(first|exact trivial|exact cP _|assumption| (simp[ez,AV.one,AV.rd,AV.cells,cst,Value.oneCell'] <;> omega)));(next=>(first|omega| (simp[NFL] <;> omega))))
      | (apply dJ (T:=TT) rfl (wW cm rfl) rfl rfl rfl rfl rfl rfl rfl rfl;(next=>(first|exact trivial|exact cP _|assumption| (simp[ez,AV.one,AV.rd,AV.cells,cst,Value.oneCell'] <;> omega)));(next=>(first|omega| (simp[NFL] <;> omega))))
      | (apply dJ (T:=TT) rfl (wW (ek (by first|assumption| (intro e;exact absurd e.symm (by assumption))) cm) rfl) rfl rfl rfl rfl rfl rfl rfl rfl;(next=>(first|exact trivial|exact cP _|assumption| (simp[ez,AV.one,AV.rd,AV.cells,cst,Value.oneCell'] <;> omega)));(next=>(first|omega| (simp[NFL] <;> omega))))
      | (apply f8 (T:=TT) rfl rfl rfl rfl rfl rfl rfl rfl rfl;(next=>(first|exact trivial|exact cP _|assumption| (simp[ez,AV.one,AV.rd,AV.cells,cst,Value.oneCell'] <;> omega)));(next=>(first|omega| (simp[NFL] <;> omega))))
      |fail)))
     |fail)
    |fail)
   |refine rc ?_
   | (refine arE ?_;refine n9 [0,2,4] rfl ?_)
   |refine jq ?_
   |refine lF ?_
   |refine ou ?_
   |refine qU ?_
   |refine mY rfl ?_
   | (refine arC (.cond _ _ _) ?_;first
    | (refine fa rfl ?_ ?_;(next=>(first|rfl| (simp only[decide_eq_true_eq,beq_iff_eq,bne_iff_ne,ge_iff_le,gt_iff_lt,ne_eq,Bool.not_eq_true',decide_eq_false_iff_not];omega))))
    | (refine eH rfl ?_ ?_;(next=>(first
     |rfl
     | (simp only[decide_eq_false_iff_not,beq_eq_false_iff_ne,bne_eq_false_iff_eq,ge_iff_le,gt_iff_lt,ne_eq,Bool.not_eq_false',decide_eq_true_eq];omega))))
    |fail)
   |refine nW ?_
   |refine ll ?_
   |refine jT rfl ?_
   |refine jP ?_
   |refine jE ?_
   | (refine arC .ret ?_;refine qB [2] ?_)
   |refine ln ?_
   |refine lE ?_
   |refine kP ?_
   |refine pQ ?_
   |fail)
  have hfl:L.flatten.length=L.length * 1:=qE (L:=L) fun q hq=>(hone q hq).1
  refine hU rfl rfl (tw (T:=TT) (sz:=1) (by_:=8) (N:=L.length) (us:=L.flatten) rfl rfl rfl (.inr ⟨_,rfl⟩) rfl (by decide) (fun F X a hs=> ?_) (by omega) (by omega) (fun u hu=> ?_) rfl ?_)
  ·exact Dp (P:=Try.prog) (by decide) (bK hs (u:=.sl false 1 L) rfl) (fun q hq u hu=>((hone q hq).2 u hu).1)
  ·obtain⟨r,h1,h2⟩:=List.mem_flatten.1 hu
   exact((hone r h1).2 u h2).2
  intro k' cap vs hk' h1 h2
  repeat (first
   | ((first|apply Ba|apply ue);(next=>(first| (simp only[go_sem,Nat.reduceBEq,Nat.reduceEqDiff,reduceIte,reduceCtorEq,String.reduceEq,Nat.reduceAdd,Int.reduceToNat];exact rfl)|exact rfl)))
   | (apply qX rfl rfl rfl rfl;(next=>(first
    | (refine ns (T:=TT) rfl ?_;(first|exact trivial|omega| (simp[NFL] <;> omega)))
    | (apply opk ⟨_,.move _,_,_,_,_⟩;first|exact eT (ey _) (.inl rfl)|fail)
    | (apply opk ⟨_,.binOp .eql _ _ _ _,_,_,_,_⟩;first
     | (refine rt rfl rfl rfl ?_;(next=>(first|exact rfl| (simp only[oC];omega)| (simp only[oC];simp[NFL] <;> omega))))
     | (refine qZ rfl rfl rfl ?_;(next=>(first|exact rfl| (simp only[oC];omega)| (simp only[oC];simp[NFL] <;> omega))))
     |exact dq rfl rfl rfl
     | (refine qP rfl rfl rfl ?_;(next=>(first|rfl|assumption)))
     | (refine rz rfl rfl rfl ?_;(next=>(first|rfl|assumption)))
     |exact gY rfl rfl rfl
     |fail)
    | (apply opk ⟨_,.buildSlice _ _ _,_,_,_,_⟩;first|exact gw (T:=TT) rfl rfl rfl rfl rfl rfl rfl|fail)
    |fail)))
   | (refine arO _ ?_;first
    | (refine arO ⟨_,.move _,_,_,_,_⟩ ?_;first|refine jx rfl rfl rfl rfl ?_|fail)
    | (refine arO ⟨_,.assign _,_,_,_,_⟩ ?_;first
     |refine gQ rfl rfl rfl rfl ?_
     |refine Bf rfl rfl rfl rfl (eT (ey _) (.inr rfl)) ?_
     |fail)
    | (refine arO ⟨_,.call { callee:=.builtin .append,args:=_,argTypes:=_ },_,_,_,_⟩ ?_;first
     | (apply qI rfl rfl;(next=>(first
      | (apply dJ (T:=TT) rfl rfl rfl rfl rfl rfl rfl rfl rfl rfl;(next=>(first|exact trivial|exact cP _|assumption| (simp[ez,AV.one,AV.rd,AV.cells,cst,Value.oneCell'] <;> omega)));(next=>(first|omega| (simp[NFL] <;> omega))))
      | (apply dJ (T:=TT) rfl (wW cm rfl) rfl rfl rfl rfl rfl rfl rfl rfl;(next=>(first|exact trivial|exact cP _|assumption| (simp[ez,AV.one,AV.rd,AV.cells,cst,Value.oneCell'] <;> omega)));(next=>(first|omega| (simp[NFL] <;> omega))))
      | (apply dJ (T:=TT) rfl (wW (ek (by first|assumption| (intro e;exact absurd e.symm (by assumption))) cm) rfl) rfl rfl rfl rfl rfl rfl rfl rfl;(next=>(first|exact trivial|exact cP _|assumption| (simp[ez,AV.one,AV.rd,AV.cells,cst,Value.oneCell'] <;> omega)));(next=>(first|omega| (simp[NFL] <;> omega))))
      | (apply f8 (T:=TT) rfl rfl rfl rfl rfl rfl rfl rfl rfl;(next=>(first|exact trivial|exact cP _|assumption| (simp[ez,AV.one,AV.rd,AV.cells,cst,Value.oneCell'] <;> omega)));(next=>(first|omega| (simp[NFL] <;> omega))))
      |fail)))
     |fail)
    |fail)
   |refine rc ?_
   | (refine arE ?_;refine n9 [0,2,4] rfl ?_)
   |refine jq ?_
   |refine lF ?_
   |refine ou ?_
   |refine qU ?_
   |refine mY rfl ?_
   | (refine arC (.cond _ _ _) ?_;first
    | (refine fa rfl ?_ ?_;(next=>(first|rfl| (simp only[decide_eq_true_eq,beq_iff_eq,bne_iff_ne,ge_iff_le,gt_iff_lt,ne_eq,Bool.not_eq_true',decide_eq_false_iff_not];omega))))
    | (refine eH rfl ?_ ?_;(next=>(first
     |rfl
     | (simp only[decide_eq_false_iff_not,beq_eq_false_iff_ne,bne_eq_false_iff_eq,ge_iff_le,gt_iff_lt,ne_eq,Bool.not_eq_false',decide_eq_true_eq];omega))))
    |fail)
   |refine nW ?_
   |refine ll ?_
   |refine jT rfl ?_
   |refine jP ?_
   |refine jE ?_
   | (refine arC .ret ?_;refine qB [2] ?_)
   |refine ln ?_
   |refine lE ?_
   |refine kP ?_
   |refine pQ ?_
   |fail)
  exact⟨_,rfl,k',cap,vs,by rw[hln],rfl,by rw[List.length_append,hfl,List.length_map] at h2;omega⟩
end
def f0(N:Nat)(l:List Int):Option (PR (Nat × List Int)):=match l with
 | [] =>none
 |n::r=>if r.length < 1000000 then some (.ok (r.length+1,n::r)) else none
def A4(r:Nat × List Int):TV EE.T:=.a (.vec (.int .i64) 300000 r.1)
def yR(r:Nat × List Int):List (Nat × TB EE.T):=[(300000,.vec 300000 (.int .i64) r.2)]
def nc(N:Nat)(us:List (TV EE.T))(hs:List (Nat × TB EE.T)):XR EE.T:=
 gdX (fG us 1) <| bnX (aD (.sl (.int .i64)) us 0) fun x0=>.mv (f0 N x0) [] [] 1 A4 yR
theorem oJ(N:Nat):XOk Try.prog EE 55 (nc N):=fun us hs=>
 ba fun h1=>aE fun x0 h2=>fun p hz ρ hi=>by
  unfold f0 at hz
  split at hz
  ·cases hz
  ·rename_i n r
   split at hz
   ·rename_i hl
    cases hz
    refine F5 (us':=[.a (.d (.sl (.int .i64)) (n::r))]) (h0:=[]) (ids:=[]) (ρ':=ρ) ⟨mP h2,cA h1⟩ trivial (Gz n r hl) ?_
    rintro out H ⟨k,c,vs,rfl,rfl,hc⟩
    have hlive:bb (cU ρ 300000 ⟨k,false,vs⟩) (TB.vec 300000 (.int .i64) (n::r):TB EE.T)=true:=by simp[bb]
    refine⟨cU ρ 300000 ⟨k,false,vs⟩,(fun i hi=>by cases hi),?_,?_,Inj.one⟩
    ·show AOut.ret _=AOut.ret (.v (vecV _ _ _))
     congr 2
     simp[vecV,cU,csz]
     omega
    ·refine Eq.trans ?_ (cY (ρ:=cU ρ 300000 ⟨k,false,vs⟩) (k:=300000) EE.toEnc [] hlive).symm
     have e1:(cU ρ 300000 ⟨k,false,vs⟩) 300000=k:=by simp[Rn.b,cU]
     have e2:(TB.vec 300000 (.int .i64) (n::r):TB EE.T).to EE.toEnc (cU ρ 300000 ⟨k,false,vs⟩)=((n::r).map fun x=>[AV.v (.int .i64 x)]).flatten++vs.map AV.v:=by
      show _++ ((cU ρ 300000 ⟨k,false,vs⟩).k 300000).sp.map AV.v=_
      rw[show(cU ρ 300000 ⟨k,false,vs⟩).k 300000=⟨k,false,vs⟩ by simp[cU]]
      rfl
     rw[e1,e2];rfl
   ·cases hz
set_option maxRecDepth 100000
abbrev bN:=Int × (List UInt8) × Int × Int × Nat × (List Vstep)
def aA(N:Nat)(x1:Vstep)(y0_0:List UInt8)(y0_1:Int)(y0_2:Int)(y0_3:Nat)(y1:List Vstep):Option (PR bN):=
 (kA 32 y0_3 y1 ([x1] :List Vstep)).bind fun z1=>
 some (.ok (w64 ((z1.length:Int) - 1),y0_0,y0_1,y0_2,z1.length,z1))
abbrev bF:=UInt8 × Bool × (List UInt8) × Int × Int × Nat × (List Vstep)
def aP(N:Nat)(y0_0:List UInt8)(y0_1:Int)(y0_2:Int)(y0_3:Nat)(y1:List Vstep):Option (PR bF):=
 bif decide (y0_1 < (y0_0.length:Int)) then
  (ap y0_0 y0_1).bind fun z1=>
  some (.ok (z1,true,y0_0,y0_1,y0_2,y0_3,y1))
 else
  some (.ok (0,false,y0_0,y0_1,y0_2,y0_3,y1))
abbrev bG:=(List UInt8) × Int × Int × Nat × (List Vstep)
def aR(N:Nat)(x1:Int)(x2:Int)(y0_0:List UInt8)(y0_1:Int)(y0_2:Int)(y0_3:Nat)(y1:List Vstep):Option (PR bG):=
 some (.pan (Value.iface 28 (.agg #[.int .i64 x1,.int .i64 x2])))
abbrev fM:=Option (List Bool)
def fL(N:Nat)(x0:UInt8):Option fM:=
 (dP 256 (b2i x0)).bind fun z1=>
 (mw (List.replicate 256 false) (0+z1) true).bind fun z2=>
 (j8 256 z2).bind fun z3=>
 some (some z3)
abbrev bP:=Bool × (List UInt8) × Int × Int × Nat × (List Vstep)
def bc(N:Nat)(x1:UInt8)(y0_0:List UInt8)(y0_1:Int)(y0_2:Int)(y0_3:Nat)(y1:List Vstep):Option (PR bP):=
 (aP N y0_0 y0_1 y0_2 y0_3 y1).bind fun z1=>
 match z1 with
 |.pan vz1=>
  some (.pan vz1)
 |.ok z2=>
  bif z2.2.1 then
   bif (b2i z2.1)==(b2i x1) then
    some (.ok (true,z2.2.2.1,w64 (z2.2.2.2.1+1),z2.2.2.2.2.1,z2.2.2.2.2.2.1,z2.2.2.2.2.2.2))
   else
    some (.ok (false,z2.2.2.1,z2.2.2.2.1,z2.2.2.2.2.1,z2.2.2.2.2.2.1,z2.2.2.2.2.2.2))
  else
   some (.ok (false,z2.2.2.1,z2.2.2.2.1,z2.2.2.2.2.1,z2.2.2.2.2.2.1,z2.2.2.2.2.2.2))
def cq(N:Nat)(x0:List UInt8)(x1:UInt8):Option Int:=
 (l8 N x0 x1).bind fun z1=>
 some z1
abbrev aY:=UInt8 × (List UInt8) × Int × Int × Nat × (List Vstep)
def cS(N:Nat)(n:Nat)(x3:UInt8)(N1:List UInt8)(NZ:Int)(N0:Int)(NY:Nat)(N2:List Vstep):Option (PR aY):=
 (aR N 1 NZ N1 NZ N0 NY N2).bind fun z4=>
 match z4 with
 |.pan vz4=>
  some (.pan vz4)
 |.ok z5=>
  some (.ok (x3,z5.1,w64 (z5.2.1+1),z5.2.2.1,z5.2.2.2.1,z5.2.2.2.2))
def bB(N:Nat)(y0_0:List UInt8)(y0_1:Int)(y0_2:Int)(y0_3:Nat)(y1:List Vstep):Option (PR aY):=
 (aP N y0_0 y0_1 y0_2 y0_3 y1).bind fun z1=>
 match z1 with
 |.pan vz1=>
  some (.pan vz1)
 |.ok z2=>
  bif !z2.2.1 then
   cS N N z2.1 z2.2.2.1 z2.2.2.2.1 z2.2.2.2.2.1 z2.2.2.2.2.2.1 z2.2.2.2.2.2.2
  else
   (cq N ([91,93,92,94,45] :List UInt8) z2.1).bind fun z3=>
   bif decide (z3≥0) then
    cS N N z2.1 z2.2.2.1 z2.2.2.2.1 z2.2.2.2.2.1 z2.2.2.2.2.2.1 z2.2.2.2.2.2.2
   else
    some (.ok (z2.1,z2.2.2.1,w64 (z2.2.2.2.1+1),z2.2.2.2.2.1,z2.2.2.2.2.2.1,z2.2.2.2.2.2.2))
abbrev ax:=(Option (List Bool)) × (List UInt8) × Int × Int × Nat × (List Vstep)
def bq(N:Nat)(k4:Bool→Bool→(List Bool)→(List UInt8)→Int→Int→Nat→(List Vstep)→Option (PR ax)):Nat→Bool→UInt8→Int→(List Bool)→(List UInt8)→Int→Int→Nat→(List Vstep)→Option (PR ax)
 |0,_,_,_,_,_,_,_,_,_=>none
 |n+1,x3,x7,x9,b4,N1,NZ,N0,NY,N2=>
  bif decide (x9≤(w64 (b2i x7))) then
   (dP 256 x9).bind fun z18=>
   (mw b4 (0+z18) true).bind fun z19=>
   bq N k4 n x3 x7 (w64 (x9+1)) z19 N1 NZ N0 NY N2
  else
   k4 x3 false b4 N1 NZ N0 NY N2
def cg(N:Nat)(k4:Bool→Bool→(List Bool)→(List UInt8)→Int→Int→Nat→(List Vstep)→Option (PR ax))(n:Nat)(x3:Bool)(x6:UInt8)(x7:UInt8)(b4:List Bool)(N1:List UInt8)(NZ:Int)(N0:Int)(NY:Nat)(N2:List Vstep):Option (PR ax):=
 bq N k4 n x3 x7 (w64 (b2i x6)) b4 N1 NZ N0 NY N2
def co(N:Nat)(k4:Bool→Bool→(List Bool)→(List UInt8)→Int→Int→Nat→(List Vstep)→Option (PR ax))(n:Nat)(x3:Bool)(b4:List Bool)(N1:List UInt8)(NZ:Int)(N0:Int)(NY:Nat)(N2:List Vstep):Option (PR ax):=
 (bB N N1 NZ N0 NY N2).bind fun z5=>
 match z5 with
 |.pan vz5=>
  some (.pan vz5)
 |.ok z6=>
  (bc N 45 z6.2.1 z6.2.2.1 z6.2.2.2.1 z6.2.2.2.2.1 z6.2.2.2.2.2).bind fun z7=>
  match z7 with
  |.pan vz7=>
   some (.pan vz7)
  |.ok z8=>
   bif z8.1 then
    (bB N z8.2.1 z8.2.2.1 z8.2.2.2.1 z8.2.2.2.2.1 z8.2.2.2.2.2).bind fun z9=>
    match z9 with
    |.pan vz9=>
     some (.pan vz9)
    |.ok z10=>
     bif decide ((b2i z10.1) < (b2i z6.1)) then
      (aR N 3 z8.2.2.1 z10.2.1 z10.2.2.1 z10.2.2.2.1 z10.2.2.2.2.1 z10.2.2.2.2.2).bind fun z11=>
      match z11 with
      |.pan vz11=>
       some (.pan vz11)
      |.ok z12=>
       cg N k4 n x3 z6.1 z10.1 b4 z12.1 z12.2.1 z12.2.2.1 z12.2.2.2.1 z12.2.2.2.2
     else
      cg N k4 n x3 z6.1 z10.1 b4 z10.2.1 z10.2.2.1 z10.2.2.2.1 z10.2.2.2.2.1 z10.2.2.2.2.2
   else
    cg N k4 n x3 z6.1 z6.1 b4 z8.2.1 z8.2.2.1 z8.2.2.2.1 z8.2.2.2.2.1 z8.2.2.2.2.2
def bA(N:Nat):Nat→Bool→Int→(List Bool)→(List UInt8)→Int→Int→Nat→(List Vstep)→Option (PR ax)
 |0,_,_,_,_,_,_,_,_=>none
 |n+1,x3,x46,b4,N1,NZ,N0,NY,N2=>
  bif decide (x46 < 256) then
   (dP 256 x46).bind fun z13=>
   (b4[0+z13]?).bind fun z14=>
   (dP 256 x46).bind fun z15=>
   (mw b4 (0+z15) (!(z14==x3))).bind fun z16=>
   bA N n x3 (w64 (x46+1)) z16 N1 NZ N0 NY N2
  else
   (j8 256 b4).bind fun z17=>
   some (.ok ((some z17),N1,NZ,N0,NY,N2))
def bn(N:Nat):Nat→Bool→Bool→(List Bool)→(List UInt8)→Int→Int→Nat→(List Vstep)→Option (PR ax)
 |0,_,_,_,_,_,_,_,_=>none
 |n+1,x3,x5,b4,N1,NZ,N0,NY,N2=>
  bif x5 then
   co N (bn N n) n x3 b4 N1 NZ N0 NY N2
  else
   (bc N 93 N1 NZ N0 NY N2).bind fun z3=>
   match z3 with
   |.pan vz3=>
    some (.pan vz3)
   |.ok z4=>
    bif !z4.1 then
     co N (bn N n) n x3 b4 z4.2.1 z4.2.2.1 z4.2.2.2.1 z4.2.2.2.2.1 z4.2.2.2.2.2
    else
     bA N n x3 0 b4 z4.2.1 z4.2.2.1 z4.2.2.2.1 z4.2.2.2.2.1 z4.2.2.2.2.2
def cN(N:Nat)(y0_0:List UInt8)(y0_1:Int)(y0_2:Int)(y0_3:Nat)(y1:List Vstep):Option (PR ax):=
 (bc N 94 y0_0 y0_1 y0_2 y0_3 y1).bind fun z1=>
 match z1 with
 |.pan vz1=>
  some (.pan vz1)
 |.ok z2=>
  bn N N z2.1 true (List.replicate 256 false) z2.2.1 z2.2.2.1 z2.2.2.2.1 z2.2.2.2.2.1 z2.2.2.2.2.2
abbrev aQ:=(List Vstep) × (List Vstep)
def br(N:Nat)(x0_o:Nat)(x0_n:Nat)(y0:List Vstep):Option (PR aQ):=
 (AP x0_o x0_n y0).bind fun z1=>
 (iQ 32 ([] :List Vstep) z1).bind fun z2=>
 some (.ok (z2,y0))
abbrev bM:=(List Vstep) × (List UInt8) × Int × Int × Nat × (List Vstep)
def bR(N:Nat)(x1:Int)(y0_0:List UInt8)(y0_1:Int)(y0_2:Int)(y0_3:Nat)(y1:List Vstep):Option (PR bM):=
 (xx y0_3 x1 (y0_3:Int)).bind fun z1=>
 (br N z1.1 (y0_3 - z1.1) y1).bind fun z2=>
 match z2 with
 |.pan vz2=>
  some (.pan vz2)
 |.ok z3=>
  (BJ y0_3 z3.2 x1).bind fun z4=>
  some (.ok (z3.1,y0_0,y0_1,y0_2,z4.length,z4))
abbrev aJ:=(List UInt8) × Int × Int × Nat × (List Vstep)
def bE(N:Nat)(k2:Int→(List Vstep)→Int→Int→(List UInt8)→Int→Int→Nat→(List Vstep)→Option (PR aJ))(n:Nat)(x6:Int)(x16:List Vstep)(x17:Int)(x18:Int)(b8:Vstep)(N1:List UInt8)(NZ:Int)(N0:Int)(NY:Nat)(N2:List Vstep):Option (PR aJ):=
 (aA N b8 N1 NZ N0 NY N2).bind fun z2=>
 match z2 with
 |.pan vz2=>
  some (.pan vz2)
 |.ok z3=>
  k2 x6 x16 x17 (w64 (x18+1)) z3.2.1 z3.2.2.1 z3.2.2.2.1 z3.2.2.2.2.1 z3.2.2.2.2.2
def a7(N:Nat):Nat→Int→(List Vstep)→Int→Int→(List UInt8)→Int→Int→Nat→(List Vstep)→Option (PR aJ)
 |0,_,_,_,_,_,_,_,_,_=>none
 |n+1,x6,x16,x17,x18,N1,NZ,N0,NY,N2=>
  bif decide (x18 < x17) then
   (ap x16 x18).bind fun z1=>
   bif z1.kind==1 then
    bE N (a7 N n) n x6 x16 x17 x18 ({ kind:=z1.kind,a:=w64 (z1.a+x6),b:=w64 (z1.b+x6),set_:=z1.set_ }:Vstep) N1 NZ N0 NY N2
   else
    bif z1.kind==2 then
     bE N (a7 N n) n x6 x16 x17 x18 ({ kind:=z1.kind,a:=w64 (z1.a+x6),b:=z1.b,set_:=z1.set_ }:Vstep) N1 NZ N0 NY N2
    else
     bE N (a7 N n) n x6 x16 x17 x18 z1 N1 NZ N0 NY N2
  else
   some (.ok (N1,NZ,N0,NY,N2))
def bk(N:Nat)(x1:List Vstep)(x2:Int)(y0_0:List UInt8)(y0_1:Int)(y0_2:Int)(y0_3:Nat)(y1:List Vstep):Option (PR aJ):=
 a7 N N (w64 ((y0_3:Int) - x2)) x1 (x1.length:Int) 0 y0_0 y0_1 y0_2 y0_3 y1
structure RecC where
 n:Nat
 k:(List UInt8)→Int→Int→Nat→(List Vstep)→Option (PR (Bool × (List UInt8) × Int × Int × Nat × (List Vstep)))
def dk(N:RecC)(y0_0:List UInt8)(y0_1:Int)(y0_2:Int)(y0_3:Nat)(y1:List Vstep):Option (PR (Bool × (List UInt8) × Int × Int × Nat × (List Vstep))):=N.k y0_0 y0_1 y0_2 y0_3 y1
abbrev ay:=Bool × (List UInt8) × Int × Int × Nat × (List Vstep)
def bZ(N:RecC):Nat→Int→(List Bool)→(List UInt8)→Int→Int→Nat→(List Vstep)→Option (PR ay)
 |0,_,_,_,_,_,_,_=>none
 |n+1,x51,b4,N1,NZ,N0,NY,N2=>
  bif decide (x51 < 256) then
   (dP 256 x51).bind fun z13=>
   (mw b4 (0+z13) true).bind fun z14=>
   bZ N n (w64 (x51+1)) z14 N1 NZ N0 NY N2
  else
   (j8 256 b4).bind fun z15=>
   (aA N.n ({ kind:=0,a:=0,b:=0,set_:=(some z15) }:Vstep) N1 NZ N0 NY N2).bind fun z16=>
   match z16 with
   |.pan vz16=>
    some (.pan vz16)
   |.ok z17=>
    some (.ok (false,z17.2.1,z17.2.2.1,z17.2.2.2.1,z17.2.2.2.2.1,z17.2.2.2.2.2))
def cu(N:RecC)(n:Nat)(x6:UInt8)(N1:List UInt8)(NZ:Int)(N0:Int)(NY:Nat)(N2:List Vstep):Option (PR ay):=
 (aR N.n 1 NZ N1 NZ N0 NY N2).bind fun z34=>
 match z34 with
 |.pan vz34=>
  some (.pan vz34)
 |.ok z35=>
  (fL N.n x6).bind fun z36=>
  (aA N.n ({ kind:=0,a:=0,b:=0,set_:=z36 }:Vstep) z35.1 (w64 (z35.2.1+1)) z35.2.2.1 z35.2.2.2.1 z35.2.2.2.2).bind fun z37=>
  match z37 with
  |.pan vz37=>
   some (.pan vz37)
  |.ok z38=>
   some (.ok (false,z38.2.1,z38.2.2.1,z38.2.2.2.1,z38.2.2.2.2.1,z38.2.2.2.2.2))
def aC(N:RecC)(n:Nat)(x6:UInt8)(x7:Bool)(x8:Bool)(N1:List UInt8)(NZ:Int)(N0:Int)(NY:Nat)(N2:List Vstep):Option (PR ay):=
 bif !x7 then
  cu N n x6 N1 NZ N0 NY N2
 else
  bif x8 then
   cu N n x6 N1 NZ N0 NY N2
  else
   (fL N.n x6).bind fun z18=>
   (aA N.n ({ kind:=0,a:=0,b:=0,set_:=z18 }:Vstep) N1 (w64 (NZ+1)) N0 NY N2).bind fun z19=>
   match z19 with
   |.pan vz19=>
    some (.pan vz19)
   |.ok z20=>
    some (.ok (false,z20.2.1,z20.2.2.1,z20.2.2.2.1,z20.2.2.2.2.1,z20.2.2.2.2.2))
def cv(N:RecC)(n:Nat)(N1:List UInt8)(NZ:Int)(N0:Int)(NY:Nat)(N2:List Vstep):Option (PR ay):=
 (aA N.n ({ kind:=3,a:=w64 (2 * (w64 (N0+1))),b:=0,set_:=(none:Option (List Bool)) }:Vstep) N1 (w64 (NZ+1)) (w64 (N0+1)) NY N2).bind fun z21=>
 match z21 with
 |.pan vz21=>
  some (.pan vz21)
 |.ok z22=>
  (dk N z22.2.1 z22.2.2.1 z22.2.2.2.1 z22.2.2.2.2.1 z22.2.2.2.2.2).bind fun z23=>
  match z23 with
  |.pan vz23=>
   some (.pan vz23)
  |.ok z24=>
   (aA N.n ({ kind:=3,a:=w64 ((w64 (2 * (w64 (N0+1))))+1),b:=0,set_:=(none:Option (List Bool)) }:Vstep) z24.2.1 z24.2.2.1 z24.2.2.2.1 z24.2.2.2.2.1 z24.2.2.2.2.2).bind fun z25=>
   match z25 with
   |.pan vz25=>
    some (.pan vz25)
   |.ok z26=>
    (bc N.n 41 z26.2.1 z26.2.2.1 z26.2.2.2.1 z26.2.2.2.2.1 z26.2.2.2.2.2).bind fun z27=>
    match z27 with
    |.pan vz27=>
     some (.pan vz27)
    |.ok z28=>
     bif !z28.1 then
      (aR N.n 1 z28.2.2.1 z28.2.1 z28.2.2.1 z28.2.2.2.1 z28.2.2.2.2.1 z28.2.2.2.2.2).bind fun z29=>
      match z29 with
      |.pan vz29=>
       some (.pan vz29)
      |.ok z30=>
       some (.ok (z24.1,z30.1,z30.2.1,z30.2.2.1,z30.2.2.2.1,z30.2.2.2.2))
     else
      some (.ok (z24.1,z28.2.1,z28.2.2.1,z28.2.2.2.1,z28.2.2.2.2.1,z28.2.2.2.2.2))
def cC(N:RecC)(n:Nat)(x3:UInt8)(N1:List UInt8)(NZ:Int)(N0:Int)(NY:Nat)(N2:List Vstep):Option (PR ay):=
 (fL N.n x3).bind fun z31=>
 (aA N.n ({ kind:=0,a:=0,b:=0,set_:=z31 }:Vstep) N1 (w64 (NZ+1)) N0 NY N2).bind fun z32=>
 match z32 with
 |.pan vz32=>
  some (.pan vz32)
 |.ok z33=>
  some (.ok (false,z33.2.1,z33.2.2.1,z33.2.2.2.1,z33.2.2.2.2.1,z33.2.2.2.2.2))
def bu(N:RecC)(y0_0:List UInt8)(y0_1:Int)(y0_2:Int)(y0_3:Nat)(y1:List Vstep):Option (PR ay):=
 (ap y0_0 y0_1).bind fun z1=>
 bif (b2i z1)==(b2i 46) then
  bZ N N.n 0 (List.replicate 256 false) y0_0 (w64 (y0_1+1)) y0_2 y0_3 y1
 else
  bif (b2i z1)==(b2i 92) then
   (aP N.n y0_0 (w64 (y0_1+1)) y0_2 y0_3 y1).bind fun z2=>
   match z2 with
   |.pan vz2=>
    some (.pan vz2)
   |.ok z3=>
    bif decide ((b2i z3.1)≥(b2i 97)) then
     bif decide ((b2i z3.1)≤(b2i 122)) then
      aC N N.n z3.1 z3.2.1 true z3.2.2.1 z3.2.2.2.1 z3.2.2.2.2.1 z3.2.2.2.2.2.1 z3.2.2.2.2.2.2
     else
      bif decide ((b2i z3.1)≥(b2i 65)) then
       bif decide ((b2i z3.1)≤(b2i 90)) then
        aC N N.n z3.1 z3.2.1 true z3.2.2.1 z3.2.2.2.1 z3.2.2.2.2.1 z3.2.2.2.2.2.1 z3.2.2.2.2.2.2
       else
        bif decide ((b2i z3.1)≥(b2i 48)) then
         aC N N.n z3.1 z3.2.1 (decide ((b2i z3.1)≤(b2i 57))) z3.2.2.1 z3.2.2.2.1 z3.2.2.2.2.1 z3.2.2.2.2.2.1 z3.2.2.2.2.2.2
        else
         aC N N.n z3.1 z3.2.1 false z3.2.2.1 z3.2.2.2.1 z3.2.2.2.2.1 z3.2.2.2.2.2.1 z3.2.2.2.2.2.2
      else
       bif decide ((b2i z3.1)≥(b2i 48)) then
        aC N N.n z3.1 z3.2.1 (decide ((b2i z3.1)≤(b2i 57))) z3.2.2.1 z3.2.2.2.1 z3.2.2.2.2.1 z3.2.2.2.2.2.1 z3.2.2.2.2.2.2
       else
        aC N N.n z3.1 z3.2.1 false z3.2.2.1 z3.2.2.2.1 z3.2.2.2.2.1 z3.2.2.2.2.2.1 z3.2.2.2.2.2.2
    else
     bif decide ((b2i z3.1)≥(b2i 65)) then
      bif decide ((b2i z3.1)≤(b2i 90)) then
       aC N N.n z3.1 z3.2.1 true z3.2.2.1 z3.2.2.2.1 z3.2.2.2.2.1 z3.2.2.2.2.2.1 z3.2.2.2.2.2.2
      else
       bif decide ((b2i z3.1)≥(b2i 48)) then
        aC N N.n z3.1 z3.2.1 (decide ((b2i z3.1)≤(b2i 57))) z3.2.2.1 z3.2.2.2.1 z3.2.2.2.2.1 z3.2.2.2.2.2.1 z3.2.2.2.2.2.2
       else
        aC N N.n z3.1 z3.2.1 false z3.2.2.1 z3.2.2.2.1 z3.2.2.2.2.1 z3.2.2.2.2.2.1 z3.2.2.2.2.2.2
     else
      bif decide ((b2i z3.1)≥(b2i 48)) then
       aC N N.n z3.1 z3.2.1 (decide ((b2i z3.1)≤(b2i 57))) z3.2.2.1 z3.2.2.2.1 z3.2.2.2.2.1 z3.2.2.2.2.2.1 z3.2.2.2.2.2.2
      else
       aC N N.n z3.1 z3.2.1 false z3.2.2.1 z3.2.2.2.1 z3.2.2.2.2.1 z3.2.2.2.2.2.1 z3.2.2.2.2.2.2
  else
   bif (b2i z1)==(b2i 91) then
    (cN N.n y0_0 (w64 (y0_1+1)) y0_2 y0_3 y1).bind fun z4=>
    match z4 with
    |.pan vz4=>
     some (.pan vz4)
    |.ok z5=>
     (aA N.n ({ kind:=0,a:=0,b:=0,set_:=z5.1 }:Vstep) z5.2.1 z5.2.2.1 z5.2.2.2.1 z5.2.2.2.2.1 z5.2.2.2.2.2).bind fun z6=>
     match z6 with
     |.pan vz6=>
      some (.pan vz6)
     |.ok z7=>
      some (.ok (false,z7.2.1,z7.2.2.1,z7.2.2.2.1,z7.2.2.2.2.1,z7.2.2.2.2.2))
   else
    bif (b2i z1)==(b2i 40) then
     bif y0_2==9 then
      (aR N.n 2 y0_1 y0_0 y0_1 y0_2 y0_3 y1).bind fun z8=>
      match z8 with
      |.pan vz8=>
       some (.pan vz8)
      |.ok z9=>
       cv N N.n z9.1 z9.2.1 z9.2.2.1 z9.2.2.2.1 z9.2.2.2.2
     else
      cv N N.n y0_0 y0_1 y0_2 y0_3 y1
    else
     (cq N.n ([42,43,63,41,124,93] :List UInt8) z1).bind fun z10=>
     bif decide (z10≥0) then
      (aR N.n 1 y0_1 y0_0 y0_1 y0_2 y0_3 y1).bind fun z11=>
      match z11 with
      |.pan vz11=>
       some (.pan vz11)
      |.ok z12=>
       cC N N.n z1 z12.1 z12.2.1 z12.2.2.1 z12.2.2.2.1 z12.2.2.2.2
     else
      cC N N.n z1 y0_0 y0_1 y0_2 y0_3 y1
abbrev aI:=Bool × (List UInt8) × Int × Int × Nat × (List Vstep)
def bi(N:RecC)(n:Nat)(x3:Int)(x6:UInt8)(N1:List UInt8)(NZ:Int)(N0:Int)(NY:Nat)(N2:List Vstep):Option (PR aI):=
 (bR N.n x3 N1 (w64 (NZ+1)) N0 NY N2).bind fun z8=>
 match z8 with
 |.pan vz8=>
  some (.pan vz8)
 |.ok z9=>
  bif (b2i x6)==(b2i 42) then
   (aA N.n ({ kind:=1,a:=0,b:=0,set_:=(none:Option (List Bool)) }:Vstep) z9.2.1 z9.2.2.1 z9.2.2.2.1 z9.2.2.2.2.1 z9.2.2.2.2.2).bind fun z10=>
   match z10 with
   |.pan vz10=>
    some (.pan vz10)
   |.ok z11=>
    (dP z11.2.2.2.2.1 z11.1).bind fun z12=>
    (z11.2.2.2.2.2[z12]?).bind fun z13=>
    (bk N.n z9.1 x3 z11.2.1 z11.2.2.1 z11.2.2.2.1 z11.2.2.2.2.1 (List.set z11.2.2.2.2.2 z12 ({ kind:=z13.kind,a:=(z11.2.2.2.2.1:Int),b:=z13.b,set_:=z13.set_ }:Vstep))).bind fun z14=>
    match z14 with
    |.pan vz14=>
     some (.pan vz14)
    |.ok z15=>
     (aA N.n ({ kind:=2,a:=z11.1,b:=0,set_:=(none:Option (List Bool)) }:Vstep) z15.1 z15.2.1 z15.2.2.1 z15.2.2.2.1 z15.2.2.2.2).bind fun z16=>
     match z16 with
     |.pan vz16=>
      some (.pan vz16)
     |.ok z17=>
      (dP z17.2.2.2.2.1 z11.1).bind fun z18=>
      (z17.2.2.2.2.2[z18]?).bind fun z19=>
      some (.ok (true,z17.2.1,z17.2.2.1,z17.2.2.2.1,z17.2.2.2.2.1,List.set z17.2.2.2.2.2 z18 ({ kind:=z19.kind,a:=z19.a,b:=(z17.2.2.2.2.1:Int),set_:=z19.set_ }:Vstep)))
  else
   bif (b2i x6)==(b2i 43) then
    (bk N.n z9.1 x3 z9.2.1 z9.2.2.1 z9.2.2.2.1 z9.2.2.2.2.1 z9.2.2.2.2.2).bind fun z20=>
    match z20 with
    |.pan vz20=>
     some (.pan vz20)
    |.ok z21=>
     (aA N.n ({ kind:=1,a:=x3,b:=0,set_:=(none:Option (List Bool)) }:Vstep) z21.1 z21.2.1 z21.2.2.1 z21.2.2.2.1 z21.2.2.2.2).bind fun z22=>
     match z22 with
     |.pan vz22=>
      some (.pan vz22)
     |.ok z23=>
      (dP z23.2.2.2.2.1 z23.1).bind fun z24=>
      (z23.2.2.2.2.2[z24]?).bind fun z25=>
      some (.ok (false,z23.2.1,z23.2.2.1,z23.2.2.2.1,z23.2.2.2.2.1,List.set z23.2.2.2.2.2 z24 ({ kind:=z25.kind,a:=z25.a,b:=(z23.2.2.2.2.1:Int),set_:=z25.set_ }:Vstep)))
   else
    (aA N.n ({ kind:=1,a:=0,b:=0,set_:=(none:Option (List Bool)) }:Vstep) z9.2.1 z9.2.2.1 z9.2.2.2.1 z9.2.2.2.2.1 z9.2.2.2.2.2).bind fun z26=>
    match z26 with
    |.pan vz26=>
     some (.pan vz26)
    |.ok z27=>
     (dP z27.2.2.2.2.1 z27.1).bind fun z28=>
     (z27.2.2.2.2.2[z28]?).bind fun z29=>
     (bk N.n z9.1 x3 z27.2.1 z27.2.2.1 z27.2.2.2.1 z27.2.2.2.2.1 (List.set z27.2.2.2.2.2 z28 ({ kind:=z29.kind,a:=(z27.2.2.2.2.1:Int),b:=z29.b,set_:=z29.set_ }:Vstep))).bind fun z30=>
     match z30 with
     |.pan vz30=>
      some (.pan vz30)
     |.ok z31=>
      (dP z31.2.2.2.1 z27.1).bind fun z32=>
      (z31.2.2.2.2[z32]?).bind fun z33=>
      some (.ok (true,z31.1,z31.2.1,z31.2.2.1,z31.2.2.2.1,List.set z31.2.2.2.2 z32 ({ kind:=z33.kind,a:=z33.a,b:=(z31.2.2.2.1:Int),set_:=z33.set_ }:Vstep)))
def a6(N:RecC)(n:Nat)(x3:Int)(x4:Bool)(x5:Bool)(x6:UInt8)(N1:List UInt8)(NZ:Int)(N0:Int)(NY:Nat)(N2:List Vstep):Option (PR aI):=
 bif x5 then
  bif x4 then
   bif (b2i x6) != (b2i 63) then
    (aR N.n 4 NZ N1 NZ N0 NY N2).bind fun z6=>
    match z6 with
    |.pan vz6=>
     some (.pan vz6)
    |.ok z7=>
     bi N n x3 x6 z7.1 z7.2.1 z7.2.2.1 z7.2.2.2.1 z7.2.2.2.2
   else
    bi N n x3 x6 N1 NZ N0 NY N2
  else
   bi N n x3 x6 N1 NZ N0 NY N2
 else
  bi N n x3 x6 N1 NZ N0 NY N2
def cx(N:RecC)(y0_0:List UInt8)(y0_1:Int)(y0_2:Int)(y0_3:Nat)(y1:List Vstep):Option (PR aI):=
 (ap y0_0 y0_1).bind fun z1=>
 (bu N y0_0 y0_1 y0_2 y0_3 y1).bind fun z2=>
 match z2 with
 |.pan vz2=>
  some (.pan vz2)
 |.ok z3=>
  (aP N.n z3.2.1 z3.2.2.1 z3.2.2.2.1 z3.2.2.2.2.1 z3.2.2.2.2.2).bind fun z4=>
  match z4 with
  |.pan vz4=>
   some (.pan vz4)
  |.ok z5=>
   bif !z5.2.1 then
    some (.ok (z3.1,z5.2.2.1,z5.2.2.2.1,z5.2.2.2.2.1,z5.2.2.2.2.2.1,z5.2.2.2.2.2.2))
   else
    bif (b2i z5.1) != (b2i 42) then
     bif (b2i z5.1) != (b2i 43) then
      bif (b2i z5.1) != (b2i 63) then
       some (.ok (z3.1,z5.2.2.1,z5.2.2.2.1,z5.2.2.2.2.1,z5.2.2.2.2.2.1,z5.2.2.2.2.2.2))
      else
       a6 N N.n (y0_3:Int) ((b2i z1)==(b2i 40)) z3.1 z5.1 z5.2.2.1 z5.2.2.2.1 z5.2.2.2.2.1 z5.2.2.2.2.2.1 z5.2.2.2.2.2.2
     else
      a6 N N.n (y0_3:Int) ((b2i z1)==(b2i 40)) z3.1 z5.1 z5.2.2.1 z5.2.2.2.1 z5.2.2.2.2.1 z5.2.2.2.2.2.1 z5.2.2.2.2.2.2
    else
     a6 N N.n (y0_3:Int) ((b2i z1)==(b2i 40)) z3.1 z5.1 z5.2.2.1 z5.2.2.2.1 z5.2.2.2.2.1 z5.2.2.2.2.2.1 z5.2.2.2.2.2.2
abbrev bf:=Bool × (List UInt8) × Int × Int × Nat × (List Vstep)
def bo(N:RecC):Nat→Bool→(List UInt8)→Int→Int→Nat→(List Vstep)→Option (PR bf)
 |0,_,_,_,_,_,_=>none
 |n+1,x3,N1,NZ,N0,NY,N2=>
  (aP N.n N1 NZ N0 NY N2).bind fun z1=>
  match z1 with
  |.pan vz1=>
   some (.pan vz1)
  |.ok z2=>
   bif !z2.2.1 then
    some (.ok (x3,z2.2.2.1,z2.2.2.2.1,z2.2.2.2.2.1,z2.2.2.2.2.2.1,z2.2.2.2.2.2.2))
   else
    bif (b2i z2.1)==(b2i 124) then
     some (.ok (x3,z2.2.2.1,z2.2.2.2.1,z2.2.2.2.2.1,z2.2.2.2.2.2.1,z2.2.2.2.2.2.2))
    else
     bif (b2i z2.1)==(b2i 41) then
      some (.ok (x3,z2.2.2.1,z2.2.2.2.1,z2.2.2.2.2.1,z2.2.2.2.2.2.1,z2.2.2.2.2.2.2))
     else
      (cx N z2.2.2.1 z2.2.2.2.1 z2.2.2.2.2.1 z2.2.2.2.2.2.1 z2.2.2.2.2.2.2).bind fun z3=>
      match z3 with
      |.pan vz3=>
       some (.pan vz3)
      |.ok z4=>
       bif !z4.1 then
        bo N n false z4.2.1 z4.2.2.1 z4.2.2.2.1 z4.2.2.2.2.1 z4.2.2.2.2.2
       else
        bo N n x3 z4.2.1 z4.2.2.1 z4.2.2.2.1 z4.2.2.2.2.1 z4.2.2.2.2.2
def dc(N:RecC)(y0_0:List UInt8)(y0_1:Int)(y0_2:Int)(y0_3:Nat)(y1:List Vstep):Option (PR bf):=
 bo N N.n true y0_0 y0_1 y0_2 y0_3 y1
abbrev bH:=Bool × (List UInt8) × Int × Int × Nat × (List Vstep)
def cW(N:RecC)(y0_0:List UInt8)(y0_1:Int)(y0_2:Int)(y0_3:Nat)(y1:List Vstep):Option (PR bH):=
 (dk N y0_0 y0_1 y0_2 y0_3 y1).bind fun z1=>
 match z1 with
 |.pan vz1=>
  some (.pan vz1)
 |.ok z2=>
  some (.ok (z2.1,z2.2.1,z2.2.2.1,z2.2.2.2.1,z2.2.2.2.2.1,z2.2.2.2.2.2))
abbrev aG:=Bool × (List UInt8) × Int × Int × Nat × (List Vstep)
def b7(N:RecC)(k3:Int→Bool→(List UInt8)→Int→Int→Nat→(List Vstep)→Option (PR aG))(n:Nat)(x4:Bool)(x7:Int)(N1:List UInt8)(NZ:Int)(N0:Int)(NY:Nat)(N2:List Vstep):Option (PR aG):=
 (dP NY x7).bind fun z19=>
 (N2[z19]?).bind fun z20=>
 some (.ok (x4,N1,NZ,N0,NY,List.set N2 z19 ({ kind:=z20.kind,a:=(NY:Int),b:=z20.b,set_:=z20.set_ }:Vstep)))
def bd(N:RecC):Nat→Int→Bool→(List UInt8)→Int→Int→Nat→(List Vstep)→Option (PR aG)
 |0,_,_,_,_,_,_,_=>none
 |n+1,x3,x4,N1,NZ,N0,NY,N2=>
  (bc N.n 124 N1 NZ N0 NY N2).bind fun z3=>
  match z3 with
  |.pan vz3=>
   some (.pan vz3)
  |.ok z4=>
   bif z4.1 then
    (bR N.n x3 z4.2.1 z4.2.2.1 z4.2.2.2.1 z4.2.2.2.2.1 z4.2.2.2.2.2).bind fun z5=>
    match z5 with
    |.pan vz5=>
     some (.pan vz5)
    |.ok z6=>
     (aA N.n ({ kind:=1,a:=0,b:=0,set_:=(none:Option (List Bool)) }:Vstep) z6.2.1 z6.2.2.1 z6.2.2.2.1 z6.2.2.2.2.1 z6.2.2.2.2.2).bind fun z7=>
     match z7 with
     |.pan vz7=>
      some (.pan vz7)
     |.ok z8=>
      (dP z8.2.2.2.2.1 z8.1).bind fun z9=>
      (z8.2.2.2.2.2[z9]?).bind fun z10=>
      (bk N.n z6.1 x3 z8.2.1 z8.2.2.1 z8.2.2.2.1 z8.2.2.2.2.1 (List.set z8.2.2.2.2.2 z9 ({ kind:=z10.kind,a:=(z8.2.2.2.2.1:Int),b:=z10.b,set_:=z10.set_ }:Vstep))).bind fun z11=>
      match z11 with
      |.pan vz11=>
       some (.pan vz11)
      |.ok z12=>
       (aA N.n ({ kind:=2,a:=0,b:=0,set_:=(none:Option (List Bool)) }:Vstep) z12.1 z12.2.1 z12.2.2.1 z12.2.2.2.1 z12.2.2.2.2).bind fun z13=>
       match z13 with
       |.pan vz13=>
        some (.pan vz13)
       |.ok z14=>
        (dP z14.2.2.2.2.1 z8.1).bind fun z15=>
        (z14.2.2.2.2.2[z15]?).bind fun z16=>
        (cW N z14.2.1 z14.2.2.1 z14.2.2.2.1 z14.2.2.2.2.1 (List.set z14.2.2.2.2.2 z15 ({ kind:=z16.kind,a:=z16.a,b:=(z14.2.2.2.2.1:Int),set_:=z16.set_ }:Vstep))).bind fun z17=>
        match z17 with
        |.pan vz17=>
         some (.pan vz17)
        |.ok z18=>
         bif z18.1 then
          b7 N (bd N n) n true z14.1 z18.2.1 z18.2.2.1 z18.2.2.2.1 z18.2.2.2.2.1 z18.2.2.2.2.2
         else
          b7 N (bd N n) n x4 z14.1 z18.2.1 z18.2.2.1 z18.2.2.2.1 z18.2.2.2.2.1 z18.2.2.2.2.2
   else
    some (.ok (x4,z4.2.1,z4.2.2.1,z4.2.2.2.1,z4.2.2.2.2.1,z4.2.2.2.2.2))
def cF(N:RecC)(y0_0:List UInt8)(y0_1:Int)(y0_2:Int)(y0_3:Nat)(y1:List Vstep):Option (PR aG):=
 (dc N y0_0 y0_1 y0_2 y0_3 y1).bind fun z1=>
 match z1 with
 |.pan vz1=>
  some (.pan vz1)
 |.ok z2=>
  bd N N.n (y0_3:Int) z2.1 z2.2.1 z2.2.2.1 z2.2.2.2.1 z2.2.2.2.2.1 z2.2.2.2.2.2
def bj(n0:Nat):Nat→(List UInt8)→Int→Int→Nat→(List Vstep)→Option (PR (Bool × (List UInt8) × Int × Int × Nat × (List Vstep)))
 |0,_,_,_,_,_=>none
 |m+1,y0_0,y0_1,y0_2,y0_3,y1=>cF ⟨n0,bj n0 m⟩ y0_0 y0_1 y0_2 y0_3 y1
abbrev aK:=(List (List UInt8)) × VMask
def bO(N:Nat)(k3:(List UInt8)→(List Int)→(List (List UInt8))→Int→VMask→Option aK)(n:Nat)(x1:List UInt8)(x2:List Int)(x7:List (List UInt8))(x8:Int)(x9:List UInt8)(NX:VMask):Option aK:=
 (iQ 16 x7 ([x9] :List (List UInt8))).bind fun z7=>
 k3 x1 x2 z7 (w64 (x8+1)) NX
def bh(N:Nat):Nat→(List UInt8)→(List Int)→(List (List UInt8))→Int→VMask→Option aK
 |0,_,_,_,_,_=>none
 |n+1,x1,x2,x7,x8,NX=>
  bif decide (x8≤NX.Groups) then
   (ap x2 (w64 (2 * x8))).bind fun z1=>
   bif decide (z1≥0) then
    (ap x2 (w64 ((w64 (2 * x8))+1))).bind fun z2=>
    (ap x2 (w64 (2 * x8))).bind fun z3=>
    bif decide (z2≥z3) then
     (ap x2 (w64 (2 * x8))).bind fun z4=>
     (ap x2 (w64 ((w64 (2 * x8))+1))).bind fun z5=>
     (lb x1 z4 z5).bind fun z6=>
     bO N (bh N n) n x1 x2 x7 x8 z6 NX
    else
     bO N (bh N n) n x1 x2 x7 x8 ([] :List UInt8) NX
   else
    bO N (bh N n) n x1 x2 x7 x8 ([] :List UInt8) NX
  else
   some (x7,NX)
def dy(N:Nat)(x1:List UInt8)(x2:List Int)(y0:VMask):Option aK:=
 bh N N x1 x2 ([] :List (List UInt8)) 1 y0
def eZ(N:Nat)(x0:UInt8):Option Bool:=
 bif decide ((b2i x0)≥(b2i 48)) then
  some (decide ((b2i x0)≤(b2i 57)))
 else
  some false
abbrev cO:=(List Vpiece) × Bool
def cM(N:Nat):Nat→(List UInt8)→(List Vpiece)→Option cO
 |0,_,_=>none
 |n+1,x0,x4=>
  bif !decide (x0=([] :List UInt8)) then
   (ap x0 0).bind fun z1=>
   bif (b2i z1) != (b2i 36) then
    (ss x0 ([36] :List UInt8)).bind fun z2=>
    (cq N z2 36).bind fun z3=>
    (lb x0 0 z3).bind fun z4=>
    (iQ 24 x4 ([({ text:=z4,group:=(-1) }:Vpiece)] :List Vpiece)).bind fun z5=>
    (lb x0 z3 (x0.length:Int)).bind fun z6=>
    cM N n z6 z5
   else
    (lb x0 1 (x0.length:Int)).bind fun z7=>
    bif decide (z7=([] :List UInt8)) then
     some (([] :List Vpiece),false)
    else
     (ap z7 0).bind fun z8=>
     bif (b2i z8)==(b2i 36) then
      (iQ 24 x4 ([({ text:=([36] :List UInt8),group:=(-1) }:Vpiece)] :List Vpiece)).bind fun z9=>
      (lb z7 1 (z7.length:Int)).bind fun z10=>
      cM N n z10 z9
     else
      (ap z7 0).bind fun z11=>
      (eZ N z11).bind fun z12=>
      bif z12 then
       (ap z7 0).bind fun z13=>
       (iQ 24 x4 ([({ text:=([] :List UInt8),group:=w64 (b2i (toB (IntKind.wrap .u8 ((b2i z13) - (b2i 48))))) }:Vpiece)] :List Vpiece)).bind fun z14=>
       (lb z7 1 (z7.length:Int)).bind fun z15=>
       cM N n z15 z14
      else
       bif decide ((z7.length:Int) > 2) then
        (ap z7 0).bind fun z16=>
        bif (b2i z16)==(b2i 123) then
         (ap z7 1).bind fun z17=>
         (eZ N z17).bind fun z18=>
         bif z18 then
          (ap z7 2).bind fun z19=>
          bif (b2i z19)==(b2i 125) then
           (ap z7 1).bind fun z20=>
           (iQ 24 x4 ([({ text:=([] :List UInt8),group:=w64 (b2i (toB (IntKind.wrap .u8 ((b2i z20) - (b2i 48))))) }:Vpiece)] :List Vpiece)).bind fun z21=>
           (lb z7 3 (z7.length:Int)).bind fun z22=>
           cM N n z22 z21
          else
           some (([] :List Vpiece),false)
         else
          some (([] :List Vpiece),false)
        else
         some (([] :List Vpiece),false)
       else
        some (([] :List Vpiece),false)
  else
   some (x4,true)
def iM(N:Nat)(x0:List UInt8):Option cO:=
 cM N N x0 ([] :List Vpiece)
structure RecC2 where
 n:Nat
 k:Nat→Vthread→Int→VMask→(List Vthread)→(List (Int × Bool))→Option (PR (Nat × VMask × (List Vthread) × (List (Int × Bool))))
def bU(N:RecC2)(x1_n:Nat)(x3:Vthread)(x4:Int)(y0:VMask)(y1:List Vthread)(y2:List (Int × Bool)):Option (PR (Nat × VMask × (List Vthread) × (List (Int × Bool)))):=N.k x1_n x3 x4 y0 y1 y2
abbrev bv:=Nat × VMask × (List Vthread) × (List (Int × Bool))
def ae(N:RecC2)(n:Nat)(x1_n:Nat)(x4:Int)(b8:Vthread)(b11:Vstep)(NX:VMask)(N5:List (Int × Bool))(N2:List Vthread):Option (PR bv):=
 bif b11.kind==2 then
  (bU N x1_n ({ at_:=b11.a,slots:=b8.slots }:Vthread) x4 NX N2 N5).bind fun z121=>
  match z121 with
  |.pan vz121=>
   some (.pan vz121)
  |.ok z122=>
   some (.ok (z122.1,z122.2.1,z122.2.2.1,z122.2.2.2))
 else
  bif b11.kind==1 then
   (bU N x1_n ({ at_:=b11.a,slots:=b8.slots }:Vthread) x4 NX N2 N5).bind fun z123=>
   match z123 with
   |.pan vz123=>
    some (.pan vz123)
   |.ok z124=>
    (bU N z124.1 ({ at_:=b11.b,slots:=b8.slots }:Vthread) x4 z124.2.1 z124.2.2.1 z124.2.2.2).bind fun z125=>
    match z125 with
    |.pan vz125=>
     some (.pan vz125)
    |.ok z126=>
     some (.ok (z126.1,z126.2.1,z126.2.2.1,z126.2.2.2))
  else
   bif b11.kind==3 then
    (f0 N.n b8.slots).bind fun z127=>
    match z127 with
    |.pan vz127=>
     some (.pan vz127)
    |.ok z128=>
     (dP z128.1 b11.a).bind fun z129=>
     (z128.2[z129]?).bind fun z130=>
     (j8 z128.1 (List.set z128.2 z129 x4)).bind fun z131=>
     (bU N x1_n ({ at_:=w64 (b8.at_+1),slots:=z131 }:Vthread) x4 NX N2 N5).bind fun z132=>
     match z132 with
     |.pan vz132=>
      some (.pan vz132)
     |.ok z133=>
      some (.ok (z133.1,z133.2.1,z133.2.2.1,z133.2.2.2))
   else
    (kA 32 x1_n N2 ([b8] :List Vthread)).bind fun z134=>
    some (.ok (z134.length,NX,z134,N5))
def ew(N:RecC2)(x1_n:Nat)(x3:Vthread)(x4:Int)(y0:VMask)(y1:List Vthread)(y2:List (Int × Bool)):Option (PR bv):=
 bif (kH y2 x3.at_).getD false then
  some (.ok (x1_n,y0,y1,y2))
 else
  (ap y0.steps x3.at_).bind fun z120=>
  ae N N.n x1_n x4 x3 z120 y0 (aF y2 x3.at_ true) y1
def ca(n0:Nat):Nat→Nat→Vthread→Int→VMask→(List Vthread)→(List (Int × Bool))→Option (PR (Nat × VMask × (List Vthread) × (List (Int × Bool))))
 |0,_,_,_,_,_,_=>none
 |m+1,x1_n,x3,x4,y0,y1,y2=>ew ⟨n0,ca n0 m⟩ x1_n x3 x4 y0 y1 y2
def bz(N:Nat)(x1_n:Nat)(x3:Vthread)(x4:Int)(y0:VMask)(y1:List Vthread)(y2:List (Int × Bool)):Option (PR (Nat × VMask × (List Vthread) × (List (Int × Bool)))):=ca N N x1_n x3 x4 y0 y1 y2
set_option maxRecDepth 100000
def eo(i0:Nat)(i1:Nat)(r:bN):TV EE.T:=.a (.d (.int .i64) r.1)
def sW(i0:Nat)(i1:Nat)(r:bN):List (Nat × TB EE.T):=[(i0,.cs [.d .str r.2.1,.d (.int .i64) r.2.2.1,.d (.int .i64) r.2.2.2.1,.vec (.nam 7) i1 r.2.2.2.2.1]),(i1,.vec i1 (.nam 7) r.2.2.2.2.2)]
def pM(r:PR bN):RL EE.T:=nr (eo 100000 200001) (sW 100000 200001) r
def Jw:Lvs:=⟨[(1,⟨[(0,false),(3,false)],[],[(3,(some 7,[])),(100000,(none,[])),(200001,(none,[]))],[]⟩)],[],[],[],false,[(100000,(none,[]))],[100000,200001],[],[(12,200001)]⟩
def Jk:List ResultVar:=[.tmp 4]
def G1(N:Nat):Gam EE:=⟨[],EQT,[],[]⟩
theorem Fw(N:Nat):GOk Try.prog TT EE (G1 N):=GOk.nil dQ
def IA(c:Code):List It2:=[.c c]
def Hi(x1:Vstep)(y0_0:List UInt8)(y0_1:Int)(y0_2:Int)(y0_3:Nat)(y1:List Vstep):TS EE.T:=⟨21,[(0,.a (.box 100000 0)),(1,.ag (eD EE (.nam 7) x1))],[(100000,.cs [.d .str y0_0,.d (.int .i64) y0_1,.d (.int .i64) y0_2,.vec (.nam 7) 200001 y0_3]),(200001,.vec 200001 (.nam 7) y1)],[]⟩
abbrev Kf(N:Nat)(r:PR bN)(k:List It2)(s:TS EE.T):Prop:=gB (Y:=TT) EE (G1 N) Jw Jk (fun u=>u=pM r) k s
def I8(x:PR bN):Tree (Lf EE.T × Option (PR bN)):=.leaf (.done (pM x),some x)
theorem EY{N:Nat}{r:PR bN}(x1:Vstep)(y0_0:List UInt8)(y0_1:Int)(y0_2:Int)(y0_3:Nat)(y1:List Vstep)(h:aA N x1 y0_0 y0_1 y0_2 y0_3 y1=some r):Kf N r (IA (ai 0 Try.f36)) (Hi x1 y0_0 y0_1 y0_2 y0_3 y1):=
 aX (m:=4000) (t:=
 .bnd (kA 32 y0_3 y1 ([x1] :List Vstep)) fun z1=>
 I8 (.ok (w64 ((z1.length:Int) - 1),y0_0,y0_1,y0_2,z1.length,z1))) (by kernel_rfl) (by kernel_rfl) h (fun _=>bm (enc:=pM) rfl)
def CF(x1:Vstep)(y0_0:List UInt8)(y0_1:Int)(y0_2:Int)(y0_3:Nat)(y1:List Vstep):List (TV EE.T):=[.a (.box 100000 0),.ag (eD EE (.nam 7) x1)]
def yq(x1:Vstep)(y0_0:List UInt8)(y0_1:Int)(y0_2:Int)(y0_3:Nat)(y1:List Vstep):List (Nat × TB EE.T):=[(100000,.cs [.d .str y0_0,.d (.int .i64) y0_1,.d (.int .i64) y0_2,.vec (.nam 7) 200001 y0_3]),(200001,.vec 200001 (.nam 7) y1)]
theorem gH{N:Nat}(x1:Vstep)(y0_0:List UInt8)(y0_1:Int)(y0_2:Int)(y0_3:Nat)(y1:List Vstep){r:PR bN}(h:aA N x1 y0_0 y0_1 y0_2 y0_3 y1=some r)(ρ:Rn)(hi:Inj ρ (yq x1 y0_0 y0_1 y0_2 y0_3 y1)):aW Try.prog 36 ((CF x1 y0_0 y0_1 y0_2 y0_3 y1).map (TV.to EE.toEnc ρ)) (hTo EE.toEnc ρ (yq x1 y0_0 y0_1 y0_2 y0_3 y1)) (dw EE ρ fun u=>u=pM r):=
 fd (ai 0 Try.f36) 21 mixed (Fw N) Try.func36 (by kernel_rfl) rfl rfl rfl rfl (EY x1 y0_0 y0_1 y0_2 y0_3 y1 h) ρ hi
def dx(N:Nat)(us:List (TV EE.T))(hs:List (Nat × TB EE.T)):XR EE.T:=
 gdX (fG us 2) <|
 bnX (aB us 0) fun i0=>
 bnX (aS EE 7 us 1) fun x1=>
 bnX (bC hs i0) fun l0=>
 gdX (fG l0 4) <|
 bnX (cD .str l0 0) fun y0_0=>
 bnX (cD (.int .i64) l0 1) fun y0_1=>
 bnX (cD (.int .i64) l0 2) fun y0_2=>
 bnX (cVi (.nam 7) l0 3) fun i1=>
 bnX (cVn (.nam 7) l0 3) fun y0_3=>
 bnX (bV (.nam 7) hs i1) fun y1=>
 gdX (ci hs [i0,i1]) <|
 gdX (il [i0,i1]) <|
 .mv (aA N x1 y0_0 y0_1 y0_2 y0_3 y1) [i0,i1] (mvL [i0,i1] [100000,200001]) 0 (eo i0 i1) (sW i0 i1)
theorem dK(N:Nat):XOk Try.prog EE 36 (dx N):=fun us hs=>
 ba fun h1=>aE fun i0 h2=>aE fun x1 h3=>aE fun l0 h4=>ba fun h5=>aE fun y0_0 h6=>aE fun y0_1 h7=>aE fun y0_2 h8=>aE fun i1 h9=>aE fun y0_3 h10=>aE fun y1 h11=>ba fun h12=>ba fun h13=>fun p hz ρ hi=>gc (ex:=[]) (ks:=[100000,200001]) (us':=CF x1 y0_0 y0_1 y0_2 y0_3 y1) (h0:=yq x1 y0_0 y0_1 y0_2 y0_3 y1) (ρ':=m8 ρ [i0,i1]) (uc:=eo 100000 200001) (u:=eo i0 i1) (hc:=sW 100000 200001) (h:=sW i0 i1) hi h12 (by kernel_rfl) ⟨i9 h2 (by kernel_rfl),II h3,cA h1⟩ ⟨(by kernel_rfl),lr h4 ⟨dp h6,dp h7,dp h8,iA h9 h10 (by kernel_rfl),cA h5⟩,(by kernel_rfl),jQ h11 (by kernel_rfl),trivial⟩ ⟨.inr rfl,.inl rfl,trivial⟩ h13 (fun hj=>gH x1 y0_0 y0_1 y0_2 y0_3 y1 hz _ hj) (fun z=>⟨by kernel_rfl,by kernel_rfl,by kernel_rfl,by kernel_rfl⟩)
def dV(i0:Nat)(i1:Nat)(r:bF):TV EE.T:=.tu [.a (.d .byte r.1),.a (.d .bool r.2.1)]
def sY(i0:Nat)(i1:Nat)(r:bF):List (Nat × TB EE.T):=[(i0,.cs [.d .str r.2.2.1,.d (.int .i64) r.2.2.2.1,.d (.int .i64) r.2.2.2.2.1,.vec (.nam 7) i1 r.2.2.2.2.2.1]),(i1,.vec i1 (.nam 7) r.2.2.2.2.2.2)]
def nq(r:PR bF):RL EE.T:=nr (dV 100000 200001) (sY 100000 200001) r
def Jr:Lvs:=⟨[(1,⟨[(0,false)],[],[(100000,(none,[])),(200001,(none,[]))],[]⟩),(2,⟨[(0,false)],[],[(100000,(none,[])),(200001,(none,[]))],[]⟩)],[],[],[],false,[(100000,(none,[]))],[100000,200001],[],[]⟩
def JZ:List ResultVar:=[.tmp 2,.tmp 3]
def Fg(N:Nat):Gam EE:=⟨[],EQT,[],[]⟩
theorem Ie(N:Nat):GOk Try.prog TT EE (Fg N):=GOk.nil dQ
def GG(c:Code):List It2:=[.c c]
def G6(y0_0:List UInt8)(y0_1:Int)(y0_2:Int)(y0_3:Nat)(y1:List Vstep):TS EE.T:=⟨23,[(0,.a (.box 100000 0))],[(100000,.cs [.d .str y0_0,.d (.int .i64) y0_1,.d (.int .i64) y0_2,.vec (.nam 7) 200001 y0_3]),(200001,.vec 200001 (.nam 7) y1)],[]⟩
abbrev Ka(N:Nat)(r:PR bF)(k:List It2)(s:TS EE.T):Prop:=gB (Y:=TT) EE (Fg N) Jr JZ (fun u=>u=nq r) k s
def DF(x:PR bF):Tree (Lf EE.T × Option (PR bF)):=.leaf (.done (nq x),some x)
theorem IB{N:Nat}{r:PR bF}(y0_0:List UInt8)(y0_1:Int)(y0_2:Int)(y0_3:Nat)(y1:List Vstep)(h:aP N y0_0 y0_1 y0_2 y0_3 y1=some r):Ka N r (GG (ai 0 Try.f61)) (G6 y0_0 y0_1 y0_2 y0_3 y1):=
 aX (m:=4000) (t:=
 .cond (decide (y0_1 < (y0_0.length:Int)))
 (
  .bnd (ap y0_0 y0_1) fun z1=>
  DF (.ok (z1,true,y0_0,y0_1,y0_2,y0_3,y1)))
 (
  DF (.ok (0,false,y0_0,y0_1,y0_2,y0_3,y1)))) (by kernel_rfl) (by kernel_rfl) h (⟨fun _=>bm (enc:=nq) rfl,bm (enc:=nq) rfl⟩)
def CD(y0_0:List UInt8)(y0_1:Int)(y0_2:Int)(y0_3:Nat)(y1:List Vstep):List (TV EE.T):=[.a (.box 100000 0)]
def xL(y0_0:List UInt8)(y0_1:Int)(y0_2:Int)(y0_3:Nat)(y1:List Vstep):List (Nat × TB EE.T):=[(100000,.cs [.d .str y0_0,.d (.int .i64) y0_1,.d (.int .i64) y0_2,.vec (.nam 7) 200001 y0_3]),(200001,.vec 200001 (.nam 7) y1)]
theorem kw{N:Nat}(y0_0:List UInt8)(y0_1:Int)(y0_2:Int)(y0_3:Nat)(y1:List Vstep){r:PR bF}(h:aP N y0_0 y0_1 y0_2 y0_3 y1=some r)(ρ:Rn)(hi:Inj ρ (xL y0_0 y0_1 y0_2 y0_3 y1)):aW Try.prog 61 ((CD y0_0 y0_1 y0_2 y0_3 y1).map (TV.to EE.toEnc ρ)) (hTo EE.toEnc ρ (xL y0_0 y0_1 y0_2 y0_3 y1)) (dw EE ρ fun u=>u=nq r):=
 fd (ai 0 Try.f61) 23 mixed (Ie N) Try.func61 (by kernel_rfl) rfl rfl rfl rfl (IB y0_0 y0_1 y0_2 y0_3 y1 h) ρ hi
def cK(N:Nat)(us:List (TV EE.T))(hs:List (Nat × TB EE.T)):XR EE.T:=
 gdX (fG us 1) <|
 bnX (aB us 0) fun i0=>
 bnX (bC hs i0) fun l0=>
 gdX (fG l0 4) <|
 bnX (cD .str l0 0) fun y0_0=>
 bnX (cD (.int .i64) l0 1) fun y0_1=>
 bnX (cD (.int .i64) l0 2) fun y0_2=>
 bnX (cVi (.nam 7) l0 3) fun i1=>
 bnX (cVn (.nam 7) l0 3) fun y0_3=>
 bnX (bV (.nam 7) hs i1) fun y1=>
 gdX (ci hs [i0,i1]) <|
 gdX (il [i0,i1]) <|
 .mv (aP N y0_0 y0_1 y0_2 y0_3 y1) [i0,i1] (mvL [i0,i1] [100000,200001]) 0 (dV i0 i1) (sY i0 i1)
theorem cR(N:Nat):XOk Try.prog EE 61 (cK N):=fun us hs=>
 ba fun h1=>aE fun i0 h2=>aE fun l0 h3=>ba fun h4=>aE fun y0_0 h5=>aE fun y0_1 h6=>aE fun y0_2 h7=>aE fun i1 h8=>aE fun y0_3 h9=>aE fun y1 h10=>ba fun h11=>ba fun h12=>fun p hz ρ hi=>gc (ex:=[]) (ks:=[100000,200001]) (us':=CD y0_0 y0_1 y0_2 y0_3 y1) (h0:=xL y0_0 y0_1 y0_2 y0_3 y1) (ρ':=m8 ρ [i0,i1]) (uc:=dV 100000 200001) (u:=dV i0 i1) (hc:=sY 100000 200001) (h:=sY i0 i1) hi h11 (by kernel_rfl) ⟨i9 h2 (by kernel_rfl),cA h1⟩ ⟨(by kernel_rfl),lr h3 ⟨dp h5,dp h6,dp h7,iA h8 h9 (by kernel_rfl),cA h4⟩,(by kernel_rfl),jQ h10 (by kernel_rfl),trivial⟩ ⟨.inr rfl,.inl rfl,trivial⟩ h12 (fun hj=>kw y0_0 y0_1 y0_2 y0_3 y1 hz _ hj) (fun z=>⟨by kernel_rfl,by kernel_rfl,by kernel_rfl,by kernel_rfl⟩)
def dX(i0:Nat)(i1:Nat)(r:bG):TV EE.T:=.tu []
def s8(i0:Nat)(i1:Nat)(r:bG):List (Nat × TB EE.T):=[(i0,.cs [.d .str r.1,.d (.int .i64) r.2.1,.d (.int .i64) r.2.2.1,.vec (.nam 7) i1 r.2.2.2.1]),(i1,.vec i1 (.nam 7) r.2.2.2.2)]
def qD(r:PR bG):RL EE.T:=nr (dX 100000 200001) (s8 100000 200001) r
def Jc:Lvs:=⟨[],[],[],[],false,[],[100000,200001],[],[]⟩
def Ju:List ResultVar:=[]
def FO(N:Nat):Gam EE:=⟨[],EQT,[],[]⟩
theorem HA(N:Nat):GOk Try.prog TT EE (FO N):=GOk.nil dQ
def Gf(c:Code):List It2:=[.c c]
def GJ(x1:Int)(x2:Int)(y0_0:List UInt8)(y0_1:Int)(y0_2:Int)(y0_3:Nat)(y1:List Vstep):TS EE.T:=⟨10,[(0,.a (.box 100000 0)),(1,.a (.d (.int .i64) x1)),(2,.a (.d (.int .i64) x2))],[(100000,.cs [.d .str y0_0,.d (.int .i64) y0_1,.d (.int .i64) y0_2,.vec (.nam 7) 200001 y0_3]),(200001,.vec 200001 (.nam 7) y1)],[]⟩
abbrev Jx(N:Nat)(r:PR bG)(k:List It2)(s:TS EE.T):Prop:=gB (Y:=TT) EE (FO N) Jc Ju (fun u=>u=qD r) k s
def KH(x:PR bG):Tree (Lf EE.T × Option (PR bG)):=.leaf (.done (qD x),some x)
theorem Il{N:Nat}{r:PR bG}(x1:Int)(x2:Int)(y0_0:List UInt8)(y0_1:Int)(y0_2:Int)(y0_3:Nat)(y1:List Vstep)(h:aR N x1 x2 y0_0 y0_1 y0_2 y0_3 y1=some r):Jx N r (Gf (ai 0 Try.f35)) (GJ x1 x2 y0_0 y0_1 y0_2 y0_3 y1):=
 aX (m:=4000) (t:=
 KH (.pan (Value.iface 28 (.agg #[.int .i64 x1,.int .i64 x2])))) (by kernel_rfl) (by kernel_rfl) h (bm (enc:=qD) rfl)
def CV(x1:Int)(x2:Int)(y0_0:List UInt8)(y0_1:Int)(y0_2:Int)(y0_3:Nat)(y1:List Vstep):List (TV EE.T):=[.a (.box 100000 0),.a (.d (.int .i64) x1),.a (.d (.int .i64) x2)]
def xN(x1:Int)(x2:Int)(y0_0:List UInt8)(y0_1:Int)(y0_2:Int)(y0_3:Nat)(y1:List Vstep):List (Nat × TB EE.T):=[(100000,.cs [.d .str y0_0,.d (.int .i64) y0_1,.d (.int .i64) y0_2,.vec (.nam 7) 200001 y0_3]),(200001,.vec 200001 (.nam 7) y1)]
theorem gq{N:Nat}(x1:Int)(x2:Int)(y0_0:List UInt8)(y0_1:Int)(y0_2:Int)(y0_3:Nat)(y1:List Vstep){r:PR bG}(h:aR N x1 x2 y0_0 y0_1 y0_2 y0_3 y1=some r)(ρ:Rn)(hi:Inj ρ (xN x1 x2 y0_0 y0_1 y0_2 y0_3 y1)):aW Try.prog 35 ((CV x1 x2 y0_0 y0_1 y0_2 y0_3 y1).map (TV.to EE.toEnc ρ)) (hTo EE.toEnc ρ (xN x1 x2 y0_0 y0_1 y0_2 y0_3 y1)) (dw EE ρ fun u=>u=qD r):=
 fd (ai 0 Try.f35) 10 mixed (HA N) Try.func35 (by kernel_rfl) rfl rfl rfl rfl (Il x1 x2 y0_0 y0_1 y0_2 y0_3 y1 h) ρ hi
def de(N:Nat)(us:List (TV EE.T))(hs:List (Nat × TB EE.T)):XR EE.T:=
 gdX (fG us 3) <|
 bnX (aB us 0) fun i0=>
 bnX (aD (.int .i64) us 1) fun x1=>
 bnX (aD (.int .i64) us 2) fun x2=>
 bnX (bC hs i0) fun l0=>
 gdX (fG l0 4) <|
 bnX (cD .str l0 0) fun y0_0=>
 bnX (cD (.int .i64) l0 1) fun y0_1=>
 bnX (cD (.int .i64) l0 2) fun y0_2=>
 bnX (cVi (.nam 7) l0 3) fun i1=>
 bnX (cVn (.nam 7) l0 3) fun y0_3=>
 bnX (bV (.nam 7) hs i1) fun y1=>
 gdX (ci hs [i0,i1]) <|
 gdX (il [i0,i1]) <|
 .mv (aR N x1 x2 y0_0 y0_1 y0_2 y0_3 y1) [i0,i1] (mvL [i0,i1] [100000,200001]) 0 (dX i0 i1) (s8 i0 i1)
theorem dA(N:Nat):XOk Try.prog EE 35 (de N):=fun us hs=>
 ba fun h1=>aE fun i0 h2=>aE fun x1 h3=>aE fun x2 h4=>aE fun l0 h5=>ba fun h6=>aE fun y0_0 h7=>aE fun y0_1 h8=>aE fun y0_2 h9=>aE fun i1 h10=>aE fun y0_3 h11=>aE fun y1 h12=>ba fun h13=>ba fun h14=>fun p hz ρ hi=>gc (ex:=[]) (ks:=[100000,200001]) (us':=CV x1 x2 y0_0 y0_1 y0_2 y0_3 y1) (h0:=xN x1 x2 y0_0 y0_1 y0_2 y0_3 y1) (ρ':=m8 ρ [i0,i1]) (uc:=dX 100000 200001) (u:=dX i0 i1) (hc:=s8 100000 200001) (h:=s8 i0 i1) hi h13 (by kernel_rfl) ⟨i9 h2 (by kernel_rfl),mP h3,mP h4,cA h1⟩ ⟨(by kernel_rfl),lr h5 ⟨dp h7,dp h8,dp h9,iA h10 h11 (by kernel_rfl),cA h6⟩,(by kernel_rfl),jQ h12 (by kernel_rfl),trivial⟩ ⟨.inr rfl,.inl rfl,trivial⟩ h14 (fun hj=>gq x1 x2 y0_0 y0_1 y0_2 y0_3 y1 hz _ hj) (fun z=>⟨by kernel_rfl,by kernel_rfl,by kernel_rfl,by kernel_rfl⟩)
def pr(r:fM):TV EE.T:=.a (.d (.ptr (.bits 256)) r)
def BK(r:fM):RL EE.T:=.ret (pr r) []
def MU:Lvs:=⟨[],[],[],[],false,[],[],[(3,[.cl 3 (.a 256) (.s 3)])],[]⟩
def MN:List ResultVar:=[.tmp 2]
def Nk(N:Nat):Gam EE:=⟨[],EQT,[],[]⟩
theorem Lz(N:Nat):GOk Try.prog TT EE (Nk N):=GOk.nil dQ
def Mk(c:Code):List It2:=[.c c]
def LA(x0:UInt8):TS EE.T:=⟨6,[(0,.a (.d .byte x0))],[],[]⟩
abbrev NJ(N:Nat)(r:fM)(k:List It2)(s:TS EE.T):Prop:=gB (Y:=TT) EE (Nk N) MU MN (fun u=>u=BK r) k s
def NC(x:fM):Tree (Lf EE.T × Option fM):=.leaf (.done (BK x),some x)
theorem LE{N:Nat}{r:fM}(x0:UInt8)(h:fL N x0=some r):NJ N r (Mk (ai 0 Try.f68)) (LA x0):=
 aX (m:=4000) (t:=
 .bnd (dP 256 (b2i x0)) fun z1=>
 .bnd (mw (List.replicate 256 false) (0+z1) true) fun z2=>
 .bnd (j8 256 z2) fun z3=>
 NC (some z3)) (by kernel_rfl) (by kernel_rfl) h (fun _=>fun _=>fun _=>bm (enc:=BK) rfl)
theorem zj{N:Nat}(x0:UInt8){r:fM}(h:fL N x0=some r)(ρ:Rn):aW Try.prog 68 (([.a (.d .byte x0)] :List (TV EE.T)).map (TV.to EE.toEnc ρ)) [] (fun out H=>out=.ret ((pr r).to EE.toEnc ρ)∧H=[]):=
 (u9 (ai 0 Try.f68) 6 mixed (Lz N) Try.func68 (by kernel_rfl) rfl rfl rfl rfl (LE x0 h) ρ).mono fun out H h=>dw.ret rfl h
def pt(N:Nat):List (TV EE.T)→PV EE.T
 | [u0] =>match mj .byte u0 with
   |some x0=>.opt (fL N x0) pr
   |_=>.bad
 |_=>.bad
theorem yy(N:Nat)(us:List (TV EE.T)):(pt N us).ok fun u=>∀ρ,aW Try.prog 68 (us.map (TV.to EE.toEnc ρ)) [] (fun out H=>out=.ret (u.to EE.toEnc ρ)∧H=[]):=by
 unfold pt
 split
 ·split
  ·rename_i h0
   intro z hz ρ;refine gM ?_ (zj _ hz ρ);exact⟨eL h0 ρ,trivial⟩
  ·trivial
 ·trivial
def em(i0:Nat)(i1:Nat)(r:bP):TV EE.T:=.a (.d .bool r.1)
def sD(i0:Nat)(i1:Nat)(r:bP):List (Nat × TB EE.T):=[(i0,.cs [.d .str r.2.1,.d (.int .i64) r.2.2.1,.d (.int .i64) r.2.2.2.1,.vec (.nam 7) i1 r.2.2.2.2.1]),(i1,.vec i1 (.nam 7) r.2.2.2.2.2)]
def jM(r:PR bP):RL EE.T:=nr (em 100000 200001) (sD 100000 200001) r
def KG:Lvs:=⟨[],[],[],[],false,[(100000,(none,[]))],[100000,200001],[],[]⟩
def KM:List ResultVar:=[.tmp 4]
def Im(N:Nat):Gam EE:=⟨[],EQT,[⟨61,cK N⟩],[]⟩
theorem FG(N:Nat):GOk Try.prog TT EE (Im N):=GOk.consx (cR N) (GOk.nil dQ)
def GD(c:Code):List It2:=[.c c]
def E3(x1:UInt8)(y0_0:List UInt8)(y0_1:Int)(y0_2:Int)(y0_3:Nat)(y1:List Vstep):TS EE.T:=⟨25,[(0,.a (.box 100000 0)),(1,.a (.d .byte x1))],[(100000,.cs [.d .str y0_0,.d (.int .i64) y0_1,.d (.int .i64) y0_2,.vec (.nam 7) 200001 y0_3]),(200001,.vec 200001 (.nam 7) y1)],[]⟩
abbrev JI(N:Nat)(r:PR bP)(k:List It2)(s:TS EE.T):Prop:=gB (Y:=TT) EE (Im N) KG KM (fun u=>u=jM r) k s
def sT(x:PR bP):Tree (Lf EE.T × Option (PR bP)):=.leaf (.done (jM x),some x)
theorem Ix{N:Nat}{r:PR bP}(x1:UInt8)(y0_0:List UInt8)(y0_1:Int)(y0_2:Int)(y0_3:Nat)(y1:List Vstep)(h:bc N x1 y0_0 y0_1 y0_2 y0_3 y1=some r):JI N r (GD (ai 0 Try.f50)) (E3 x1 y0_0 y0_1 y0_2 y0_3 y1):=
 aX (m:=4000) (t:=
 .bnd (aP N y0_0 y0_1 y0_2 y0_3 y1) fun z1=>
 .sm z1 (fun z2=>
  .cond (z2.2.1)
  (
   .cond ((b2i z2.1)==(b2i x1))
   (
    sT (.ok (true,z2.2.2.1,w64 (z2.2.2.2.1+1),z2.2.2.2.2.1,z2.2.2.2.2.2.1,z2.2.2.2.2.2.2)))
   (
    sT (.ok (false,z2.2.2.1,z2.2.2.2.1,z2.2.2.2.2.1,z2.2.2.2.2.2.1,z2.2.2.2.2.2.2))))
  (
   sT (.ok (false,z2.2.2.1,z2.2.2.2.1,z2.2.2.2.2.1,z2.2.2.2.2.2.1,z2.2.2.2.2.2.2)))) (fun vz1=>
  sT (.pan vz1))) (by kernel_rfl) (by kernel_rfl) h (fun _=>⟨fun _=>⟨⟨bm (enc:=jM) rfl,bm (enc:=jM) rfl⟩,bm (enc:=jM) rfl⟩,fun _=>bm (enc:=jM) rfl⟩)
def Dw(x1:UInt8)(y0_0:List UInt8)(y0_1:Int)(y0_2:Int)(y0_3:Nat)(y1:List Vstep):List (TV EE.T):=[.a (.box 100000 0),.a (.d .byte x1)]
def xF(x1:UInt8)(y0_0:List UInt8)(y0_1:Int)(y0_2:Int)(y0_3:Nat)(y1:List Vstep):List (Nat × TB EE.T):=[(100000,.cs [.d .str y0_0,.d (.int .i64) y0_1,.d (.int .i64) y0_2,.vec (.nam 7) 200001 y0_3]),(200001,.vec 200001 (.nam 7) y1)]
theorem kO{N:Nat}(x1:UInt8)(y0_0:List UInt8)(y0_1:Int)(y0_2:Int)(y0_3:Nat)(y1:List Vstep){r:PR bP}(h:bc N x1 y0_0 y0_1 y0_2 y0_3 y1=some r)(ρ:Rn)(hi:Inj ρ (xF x1 y0_0 y0_1 y0_2 y0_3 y1)):aW Try.prog 50 ((Dw x1 y0_0 y0_1 y0_2 y0_3 y1).map (TV.to EE.toEnc ρ)) (hTo EE.toEnc ρ (xF x1 y0_0 y0_1 y0_2 y0_3 y1)) (dw EE ρ fun u=>u=jM r):=
 fd (ai 0 Try.f50) 25 mixed (FG N) Try.func50 (by kernel_rfl) rfl rfl rfl rfl (Ix x1 y0_0 y0_1 y0_2 y0_3 y1 h) ρ hi
def ej(N:Nat)(us:List (TV EE.T))(hs:List (Nat × TB EE.T)):XR EE.T:=
 gdX (fG us 2) <|
 bnX (aB us 0) fun i0=>
 bnX (aD .byte us 1) fun x1=>
 bnX (bC hs i0) fun l0=>
 gdX (fG l0 4) <|
 bnX (cD .str l0 0) fun y0_0=>
 bnX (cD (.int .i64) l0 1) fun y0_1=>
 bnX (cD (.int .i64) l0 2) fun y0_2=>
 bnX (cVi (.nam 7) l0 3) fun i1=>
 bnX (cVn (.nam 7) l0 3) fun y0_3=>
 bnX (bV (.nam 7) hs i1) fun y1=>
 gdX (ci hs [i0,i1]) <|
 gdX (il [i0,i1]) <|
 .mv (bc N x1 y0_0 y0_1 y0_2 y0_3 y1) [i0,i1] (mvL [i0,i1] [100000,200001]) 0 (em i0 i1) (sD i0 i1)
theorem eF(N:Nat):XOk Try.prog EE 50 (ej N):=fun us hs=>
 ba fun h1=>aE fun i0 h2=>aE fun x1 h3=>aE fun l0 h4=>ba fun h5=>aE fun y0_0 h6=>aE fun y0_1 h7=>aE fun y0_2 h8=>aE fun i1 h9=>aE fun y0_3 h10=>aE fun y1 h11=>ba fun h12=>ba fun h13=>fun p hz ρ hi=>gc (ex:=[]) (ks:=[100000,200001]) (us':=Dw x1 y0_0 y0_1 y0_2 y0_3 y1) (h0:=xF x1 y0_0 y0_1 y0_2 y0_3 y1) (ρ':=m8 ρ [i0,i1]) (uc:=em 100000 200001) (u:=em i0 i1) (hc:=sD 100000 200001) (h:=sD i0 i1) hi h12 (by kernel_rfl) ⟨i9 h2 (by kernel_rfl),mP h3,cA h1⟩ ⟨(by kernel_rfl),lr h4 ⟨dp h6,dp h7,dp h8,iA h9 h10 (by kernel_rfl),cA h5⟩,(by kernel_rfl),jQ h11 (by kernel_rfl),trivial⟩ ⟨.inr rfl,.inl rfl,trivial⟩ h13 (fun hj=>kO x1 y0_0 y0_1 y0_2 y0_3 y1 hz _ hj) (fun z=>⟨by kernel_rfl,by kernel_rfl,by kernel_rfl,by kernel_rfl⟩)
def gd(r:Int):TV EE.T:=.a (.d (.int .i64) r)
def BM(r:Int):RL EE.T:=.ret (gd r) []
def Nc:Lvs:=⟨[],[],[],[],false,[],[],[],[]⟩
def Ng:List ResultVar:=[.tmp 4]
def Nz(N:Nat):Gam EE:=⟨[⟨59,jA N⟩],EQT,[],[]⟩
theorem L6(N:Nat):GOk Try.prog TT EE (Nz N):=GOk.cons (qW N) (GOk.nil dQ)
def LR(c:Code):List It2:=[.c c]
def LG(x0:List UInt8)(x1:UInt8):TS EE.T:=⟨8,[(0,.a (.d .str x0)),(1,.a (.d .byte x1))],[],[]⟩
abbrev MO(N:Nat)(r:Int)(k:List It2)(s:TS EE.T):Prop:=gB (Y:=TT) EE (Nz N) Nc Ng (fun u=>u=BM r) k s
def Ny(x:Int):Tree (Lf EE.T × Option Int):=.leaf (.done (BM x),some x)
theorem LP{N:Nat}{r:Int}(x0:List UInt8)(x1:UInt8)(h:cq N x0 x1=some r):MO N r (LR (ai 0 Try.f46)) (LG x0 x1):=
 aX (m:=4000) (t:=
 .bnd (l8 N x0 x1) fun z1=>
 Ny z1) (by kernel_rfl) (by kernel_rfl) h (fun _=>bm (enc:=BM) rfl)
theorem nt{N:Nat}(x0:List UInt8)(x1:UInt8){r:Int}(h:cq N x0 x1=some r)(ρ:Rn):aW Try.prog 46 (([.a (.d .str x0),.a (.d .byte x1)] :List (TV EE.T)).map (TV.to EE.toEnc ρ)) [] (fun out H=>out=.ret ((gd r).to EE.toEnc ρ)∧H=[]):=
 (u9 (ai 0 Try.f46) 8 mixed (L6 N) Try.func46 (by kernel_rfl) rfl rfl rfl rfl (LP x0 x1 h) ρ).mono fun out H h=>dw.ret rfl h
def ec(N:Nat):List (TV EE.T)→PV EE.T
 | [u0,u1] =>match mj .str u0,mj .byte u1 with
   |some x0,some x1=>.opt (cq N x0 x1) gd
   |_,_=>.bad
 |_=>.bad
theorem fx(N:Nat)(us:List (TV EE.T)):(ec N us).ok fun u=>∀ρ,aW Try.prog 46 (us.map (TV.to EE.toEnc ρ)) [] (fun out H=>out=.ret (u.to EE.toEnc ρ)∧H=[]):=by
 unfold ec
 split
 ·split
  ·rename_i h0 h1
   intro z hz ρ;refine gM ?_ (nt _ _ hz ρ);exact⟨eL h0 ρ,eL h1 ρ,trivial⟩
  ·trivial
 ·trivial
def dM(i0:Nat)(i1:Nat)(r:aY):TV EE.T:=.a (.d .byte r.1)
def sL(i0:Nat)(i1:Nat)(r:aY):List (Nat × TB EE.T):=[(i0,.cs [.d .str r.2.1,.d (.int .i64) r.2.2.1,.d (.int .i64) r.2.2.2.1,.vec (.nam 7) i1 r.2.2.2.2.1]),(i1,.vec i1 (.nam 7) r.2.2.2.2.2)]
def jK(r:PR aY):RL EE.T:=nr (dM 100000 200001) (sL 100000 200001) r
def KZ:Lvs:=⟨[(3,⟨[(0,false),(3,false)],[],[(100000,(none,[])),(200001,(none,[]))],[]⟩)],[],[3],[],false,[(100000,(none,[]))],[100000,200001],[],[]⟩
def KO:List ResultVar:=[.tmp 2]
def Hc(N:Nat):Gam EE:=⟨[⟨46,ec N⟩],EQT,[⟨35,de N⟩,⟨61,cK N⟩],[]⟩
theorem IE(N:Nat):GOk Try.prog TT EE (Hc N):=GOk.cons (fx N) (GOk.consx (dA N) (GOk.consx (cR N) (GOk.nil dQ)))
def y8(c:Code):List It2:=atR 3 c
def Bl(x3:UInt8)(N1:List UInt8)(NZ:Int)(N0:Int)(NY:Nat)(N2:List Vstep):TS EE.T:=⟨31,[(0,.a (.box 100000 0)),(3,.a (.d .byte x3))],[(100000,.cs [.d .str N1,.d (.int .i64) NZ,.d (.int .i64) N0,.vec (.nam 7) 200001 NY]),(200001,.vec 200001 (.nam 7) N2)],[]⟩
def ES(c:Code):List It2:=[.c c]
def F8(y0_0:List UInt8)(y0_1:Int)(y0_2:Int)(y0_3:Nat)(y1:List Vstep):TS EE.T:=⟨31,[(0,.a (.box 100000 0))],[(100000,.cs [.d .str y0_0,.d (.int .i64) y0_1,.d (.int .i64) y0_2,.vec (.nam 7) 200001 y0_3]),(200001,.vec 200001 (.nam 7) y1)],[]⟩
def zw(c:Code)(f:UInt8→(List UInt8)→Int→Int→Nat→(List Vstep)→Option (PR aY))(x3:UInt8)(N1:List UInt8)(NZ:Int)(N0:Int)(NY:Nat)(N2:List Vstep):Tree (Lf EE.T × Option (PR aY)):=.leaf (.go (y8 c) (Bl x3 N1 NZ N0 NY N2),f x3 N1 NZ N0 NY N2)
abbrev Dc(N:Nat)(r:PR aY)(k:List It2)(s:TS EE.T):Prop:=gB (Y:=TT) EE (Hc N) KZ KO (fun u=>u=jK r) k s
def sX(x:PR aY):Tree (Lf EE.T × Option (PR aY)):=.leaf (.done (jK x),some x)
theorem AB{N:Nat}{r:PR aY}(n:Nat)(x3:UInt8)(N1:List UInt8)(NZ:Int)(N0:Int)(NY:Nat)(N2:List Vstep)(h:cS N n x3 N1 NZ N0 NY N2=some r):Dc N r (y8 (ai 0 Try.f70)) (Bl x3 N1 NZ N0 NY N2):=
 aX (m:=4000) (t:=
 .bnd (aR N 1 NZ N1 NZ N0 NY N2) fun z4=>
 .sm z4 (fun z5=>
  sX (.ok (x3,z5.1,w64 (z5.2.1+1),z5.2.2.1,z5.2.2.2.1,z5.2.2.2.2))) (fun vz4=>
  sX (.pan vz4))) (by kernel_rfl) (by kernel_rfl) h (fun _=>⟨fun _=>bm (enc:=jK) rfl,fun _=>bm (enc:=jK) rfl⟩)
theorem GE{N:Nat}{r:PR aY}(y0_0:List UInt8)(y0_1:Int)(y0_2:Int)(y0_3:Nat)(y1:List Vstep)(h:bB N y0_0 y0_1 y0_2 y0_3 y1=some r):Dc N r (ES (ai 0 Try.f70)) (F8 y0_0 y0_1 y0_2 y0_3 y1):=
 aX (m:=4000) (t:=
 .bnd (aP N y0_0 y0_1 y0_2 y0_3 y1) fun z1=>
 .sm z1 (fun z2=>
  .cond (!z2.2.1)
  (
   zw (ai 0 Try.f70) (cS N N) z2.1 z2.2.2.1 z2.2.2.2.1 z2.2.2.2.2.1 z2.2.2.2.2.2.1 z2.2.2.2.2.2.2)
  (
   .bnd (cq N ([91,93,92,94,45] :List UInt8) z2.1) fun z3=>
   .cond (decide (z3≥0))
   (
    zw (ai 0 Try.f70) (cS N N) z2.1 z2.2.2.1 z2.2.2.2.1 z2.2.2.2.2.1 z2.2.2.2.2.2.1 z2.2.2.2.2.2.2)
   (
    sX (.ok (z2.1,z2.2.2.1,w64 (z2.2.2.2.1+1),z2.2.2.2.2.1,z2.2.2.2.2.2.1,z2.2.2.2.2.2.2))))) (fun vz1=>
  sX (.pan vz1))) (by kernel_rfl) (by kernel_rfl) h (fun _=>⟨fun _=>⟨fun h=>AB N _ _ _ _ _ _ h,fun _=>⟨fun h=>AB N _ _ _ _ _ _ h,bm (enc:=jK) rfl⟩⟩,fun _=>bm (enc:=jK) rfl⟩)
def DD(y0_0:List UInt8)(y0_1:Int)(y0_2:Int)(y0_3:Nat)(y1:List Vstep):List (TV EE.T):=[.a (.box 100000 0)]
def yY(y0_0:List UInt8)(y0_1:Int)(y0_2:Int)(y0_3:Nat)(y1:List Vstep):List (Nat × TB EE.T):=[(100000,.cs [.d .str y0_0,.d (.int .i64) y0_1,.d (.int .i64) y0_2,.vec (.nam 7) 200001 y0_3]),(200001,.vec 200001 (.nam 7) y1)]
theorem j9{N:Nat}(y0_0:List UInt8)(y0_1:Int)(y0_2:Int)(y0_3:Nat)(y1:List Vstep){r:PR aY}(h:bB N y0_0 y0_1 y0_2 y0_3 y1=some r)(ρ:Rn)(hi:Inj ρ (yY y0_0 y0_1 y0_2 y0_3 y1)):aW Try.prog 70 ((DD y0_0 y0_1 y0_2 y0_3 y1).map (TV.to EE.toEnc ρ)) (hTo EE.toEnc ρ (yY y0_0 y0_1 y0_2 y0_3 y1)) (dw EE ρ fun u=>u=jK r):=
 fd (ai 0 Try.f70) 31 mixed (IE N) Try.func70 (by kernel_rfl) rfl rfl rfl rfl (GE y0_0 y0_1 y0_2 y0_3 y1 h) ρ hi
def gh(N:Nat)(us:List (TV EE.T))(hs:List (Nat × TB EE.T)):XR EE.T:=
 gdX (fG us 1) <|
 bnX (aB us 0) fun i0=>
 bnX (bC hs i0) fun l0=>
 gdX (fG l0 4) <|
 bnX (cD .str l0 0) fun y0_0=>
 bnX (cD (.int .i64) l0 1) fun y0_1=>
 bnX (cD (.int .i64) l0 2) fun y0_2=>
 bnX (cVi (.nam 7) l0 3) fun i1=>
 bnX (cVn (.nam 7) l0 3) fun y0_3=>
 bnX (bV (.nam 7) hs i1) fun y1=>
 gdX (ci hs [i0,i1]) <|
 gdX (il [i0,i1]) <|
 .mv (bB N y0_0 y0_1 y0_2 y0_3 y1) [i0,i1] (mvL [i0,i1] [100000,200001]) 0 (dM i0 i1) (sL i0 i1)
theorem jW(N:Nat):XOk Try.prog EE 70 (gh N):=fun us hs=>
 ba fun h1=>aE fun i0 h2=>aE fun l0 h3=>ba fun h4=>aE fun y0_0 h5=>aE fun y0_1 h6=>aE fun y0_2 h7=>aE fun i1 h8=>aE fun y0_3 h9=>aE fun y1 h10=>ba fun h11=>ba fun h12=>fun p hz ρ hi=>gc (ex:=[]) (ks:=[100000,200001]) (us':=DD y0_0 y0_1 y0_2 y0_3 y1) (h0:=yY y0_0 y0_1 y0_2 y0_3 y1) (ρ':=m8 ρ [i0,i1]) (uc:=dM 100000 200001) (u:=dM i0 i1) (hc:=sL 100000 200001) (h:=sL i0 i1) hi h11 (by kernel_rfl) ⟨i9 h2 (by kernel_rfl),cA h1⟩ ⟨(by kernel_rfl),lr h3 ⟨dp h5,dp h6,dp h7,iA h8 h9 (by kernel_rfl),cA h4⟩,(by kernel_rfl),jQ h10 (by kernel_rfl),trivial⟩ ⟨.inr rfl,.inl rfl,trivial⟩ h12 (fun hj=>j9 y0_0 y0_1 y0_2 y0_3 y1 hz _ hj) (fun z=>⟨by kernel_rfl,by kernel_rfl,by kernel_rfl,by kernel_rfl⟩)
def eg(i0:Nat)(i1:Nat)(r:ax):TV EE.T:=.a (.d (.ptr (.bits 256)) r.1)
def sN(i0:Nat)(i1:Nat)(r:ax):List (Nat × TB EE.T):=[(i0,.cs [.d .str r.2.1,.d (.int .i64) r.2.2.1,.d (.int .i64) r.2.2.2.1,.vec (.nam 7) i1 r.2.2.2.2.1]),(i1,.vec i1 (.nam 7) r.2.2.2.2.2)]
def gi(r:PR ax):RL EE.T:=nr (eg 100000 200001) (sN 100000 200001) r
def Jl:Lvs:=⟨[(6,⟨[(0,false),(3,false),(4,false)],[],[(4,(none,[])),(100000,(none,[])),(200001,(none,[]))],[]⟩),(13,⟨[(0,false),(3,false),(4,false),(6,false),(7,false)],[],[(4,(none,[])),(100000,(none,[])),(200001,(none,[]))],[]⟩)],[(4,⟨[(0,false),(3,false),(4,false),(5,false)],[],[(4,(none,[])),(100000,(none,[])),(200001,(none,[]))],[]⟩),(14,⟨[(0,false),(3,false),(4,false),(7,false),(9,false)],[],[(4,(none,[])),(100000,(none,[])),(200001,(none,[]))],[]⟩),(18,⟨[(3,false),(4,false),(46,false)],[],[(4,(none,[])),(100000,(none,[])),(200001,(none,[]))],[]⟩)],[6,13],[],false,[(100000,(none,[]))],[100000,200001],[(22,[.cl 4 (.a 256) (.s 4)])],[]⟩
def KJ:List ResultVar:=[.tmp 2]
def H4(N:Nat):Gam EE:=⟨[],EQT,[⟨35,de N⟩,⟨50,ej N⟩,⟨70,gh N⟩],[]⟩
theorem Fa(N:Nat):GOk Try.prog TT EE (H4 N):=GOk.consx (dA N) (GOk.consx (eF N) (GOk.consx (jW N) (GOk.nil dQ)))
def wJ(c:Code):List It2:=atL 14 c
def wA(x3:Bool)(x7:UInt8)(x9:Int)(b4:List Bool)(N1:List UInt8)(NZ:Int)(N0:Int)(NY:Nat)(N2:List Vstep):TS EE.T:=⟨57,[(0,.a (.box 100000 0)),(3,.a (.d .bool x3)),(4,.a (.box 4 0)),(7,.a (.d .byte x7)),(9,.a (.d (.int .i64) x9))],[(4,.row .bool b4),(100000,.cs [.d .str N1,.d (.int .i64) NZ,.d (.int .i64) N0,.vec (.nam 7) 200001 NY]),(200001,.vec 200001 (.nam 7) N2)],[]⟩
def wj(c:Code):List It2:=atR 13 c
def wO(x3:Bool)(x6:UInt8)(x7:UInt8)(b4:List Bool)(N1:List UInt8)(NZ:Int)(N0:Int)(NY:Nat)(N2:List Vstep):TS EE.T:=⟨57,[(0,.a (.box 100000 0)),(3,.a (.d .bool x3)),(4,.a (.box 4 0)),(6,.a (.d .byte x6)),(7,.a (.d .byte x7))],[(4,.row .bool b4),(100000,.cs [.d .str N1,.d (.int .i64) NZ,.d (.int .i64) N0,.vec (.nam 7) 200001 NY]),(200001,.vec 200001 (.nam 7) N2)],[]⟩
def Aj(c:Code):List It2:=atR 6 c
def zd(x3:Bool)(b4:List Bool)(N1:List UInt8)(NZ:Int)(N0:Int)(NY:Nat)(N2:List Vstep):TS EE.T:=⟨57,[(0,.a (.box 100000 0)),(3,.a (.d .bool x3)),(4,.a (.box 4 0))],[(4,.row .bool b4),(100000,.cs [.d .str N1,.d (.int .i64) NZ,.d (.int .i64) N0,.vec (.nam 7) 200001 NY]),(200001,.vec 200001 (.nam 7) N2)],[]⟩
def vW(c:Code):List It2:=atL 18 c
def wi(x3:Bool)(x46:Int)(b4:List Bool)(N1:List UInt8)(NZ:Int)(N0:Int)(NY:Nat)(N2:List Vstep):TS EE.T:=⟨57,[(3,.a (.d .bool x3)),(4,.a (.box 4 0)),(46,.a (.d (.int .i64) x46))],[(4,.row .bool b4),(100000,.cs [.d .str N1,.d (.int .i64) NZ,.d (.int .i64) N0,.vec (.nam 7) 200001 NY]),(200001,.vec 200001 (.nam 7) N2)],[]⟩
def ne(c:Code):List It2:=atL 4 c
def mE(x3:Bool)(x5:Bool)(b4:List Bool)(N1:List UInt8)(NZ:Int)(N0:Int)(NY:Nat)(N2:List Vstep):TS EE.T:=⟨57,[(0,.a (.box 100000 0)),(3,.a (.d .bool x3)),(4,.a (.box 4 0)),(5,.a (.d .bool x5))],[(4,.row .bool b4),(100000,.cs [.d .str N1,.d (.int .i64) NZ,.d (.int .i64) N0,.vec (.nam 7) 200001 NY]),(200001,.vec 200001 (.nam 7) N2)],[]⟩
def G5(c:Code):List It2:=[.c c]
def Ij(y0_0:List UInt8)(y0_1:Int)(y0_2:Int)(y0_3:Nat)(y1:List Vstep):TS EE.T:=⟨57,[(0,.a (.box 100000 0))],[(100000,.cs [.d .str y0_0,.d (.int .i64) y0_1,.d (.int .i64) y0_2,.vec (.nam 7) 200001 y0_3]),(200001,.vec 200001 (.nam 7) y1)],[]⟩
def wc(c:Code)(f:Bool→UInt8→Int→(List Bool)→(List UInt8)→Int→Int→Nat→(List Vstep)→Option (PR ax))(x3:Bool)(x7:UInt8)(x9:Int)(b4:List Bool)(N1:List UInt8)(NZ:Int)(N0:Int)(NY:Nat)(N2:List Vstep):Tree (Lf EE.T × Option (PR ax)):=.leaf (.go (wJ c) (wA x3 x7 x9 b4 N1 NZ N0 NY N2),f x3 x7 x9 b4 N1 NZ N0 NY N2)
def rA(c:Code)(f:Bool→UInt8→UInt8→(List Bool)→(List UInt8)→Int→Int→Nat→(List Vstep)→Option (PR ax))(x3:Bool)(x6:UInt8)(x7:UInt8)(b4:List Bool)(N1:List UInt8)(NZ:Int)(N0:Int)(NY:Nat)(N2:List Vstep):Tree (Lf EE.T × Option (PR ax)):=.leaf (.go (wj c) (wO x3 x6 x7 b4 N1 NZ N0 NY N2),f x3 x6 x7 b4 N1 NZ N0 NY N2)
def Bb(c:Code)(f:Bool→(List Bool)→(List UInt8)→Int→Int→Nat→(List Vstep)→Option (PR ax))(x3:Bool)(b4:List Bool)(N1:List UInt8)(NZ:Int)(N0:Int)(NY:Nat)(N2:List Vstep):Tree (Lf EE.T × Option (PR ax)):=.leaf (.go (Aj c) (zd x3 b4 N1 NZ N0 NY N2),f x3 b4 N1 NZ N0 NY N2)
def wz(c:Code)(f:Bool→Int→(List Bool)→(List UInt8)→Int→Int→Nat→(List Vstep)→Option (PR ax))(x3:Bool)(x46:Int)(b4:List Bool)(N1:List UInt8)(NZ:Int)(N0:Int)(NY:Nat)(N2:List Vstep):Tree (Lf EE.T × Option (PR ax)):=.leaf (.go (vW c) (wi x3 x46 b4 N1 NZ N0 NY N2),f x3 x46 b4 N1 NZ N0 NY N2)
def Bh(c:Code)(f:Bool→Bool→(List Bool)→(List UInt8)→Int→Int→Nat→(List Vstep)→Option (PR ax))(x3:Bool)(x5:Bool)(b4:List Bool)(N1:List UInt8)(NZ:Int)(N0:Int)(NY:Nat)(N2:List Vstep):Tree (Lf EE.T × Option (PR ax)):=.leaf (.go (ne c) (mE x3 x5 b4 N1 NZ N0 NY N2),f x3 x5 b4 N1 NZ N0 NY N2)
abbrev jb(N:Nat)(r:PR ax)(k:List It2)(s:TS EE.T):Prop:=gB (Y:=TT) EE (H4 N) Jl KJ (fun u=>u=gi r) k s
def lZ(x:PR ax):Tree (Lf EE.T × Option (PR ax)):=.leaf (.done (gi x),some x)
theorem wa{N:Nat}{r:PR ax}{k4:Bool→Bool→(List Bool)→(List UInt8)→Int→Int→Nat→(List Vstep)→Option (PR ax)}(hk4:∀x3 x5 b4 N1 NZ N0 NY N2,k4 x3 x5 b4 N1 NZ N0 NY N2=some r→jb N r (ne (ai 0 Try.f69)) (mE x3 x5 b4 N1 NZ N0 NY N2)):∀ (n:Nat) (x3:Bool) (x7:UInt8) (x9:Int) (b4:List Bool) (N1:List UInt8) (NZ:Int) (N0:Int) (NY:Nat) (N2:List Vstep),bq N k4 n x3 x7 x9 b4 N1 NZ N0 NY N2=some r→jb N r (wJ (ai 0 Try.f69)) (wA x3 x7 x9 b4 N1 NZ N0 NY N2)
 |0,_,_,_,_,_,_,_,_,_,h=>by cases h
 |n+1,x3,x7,x9,b4,N1,NZ,N0,NY,N2,h=>aX (m:=4000) (t:=
  .cond (decide (x9≤(w64 (b2i x7))))
  (
   .bnd (dP 256 x9) fun z18=>
   .bnd (mw b4 (0+z18) true) fun z19=>
   wc (ai 0 Try.f69) (bq N k4 n) x3 x7 (w64 (x9+1)) z19 N1 NZ N0 NY N2)
  (
   Bh (ai 0 Try.f69) k4 x3 false b4 N1 NZ N0 NY N2)) (by kernel_rfl) (by kernel_rfl) h (⟨fun _=>fun _=>fun h=>(wa hk4 n) _ _ _ _ _ _ _ _ _ h,fun h=>hk4 _ _ _ _ _ _ _ _ h⟩)
theorem rC{N:Nat}{r:PR ax}{k4:Bool→Bool→(List Bool)→(List UInt8)→Int→Int→Nat→(List Vstep)→Option (PR ax)}(hk4:∀x3 x5 b4 N1 NZ N0 NY N2,k4 x3 x5 b4 N1 NZ N0 NY N2=some r→jb N r (ne (ai 0 Try.f69)) (mE x3 x5 b4 N1 NZ N0 NY N2))(n:Nat)(x3:Bool)(x6:UInt8)(x7:UInt8)(b4:List Bool)(N1:List UInt8)(NZ:Int)(N0:Int)(NY:Nat)(N2:List Vstep)(h:cg N k4 n x3 x6 x7 b4 N1 NZ N0 NY N2=some r):jb N r (wj (ai 0 Try.f69)) (wO x3 x6 x7 b4 N1 NZ N0 NY N2):=
 aX (m:=4000) (t:=
 wc (ai 0 Try.f69) (bq N k4 n) x3 x7 (w64 (b2i x6)) b4 N1 NZ N0 NY N2) (by kernel_rfl) (by kernel_rfl) h (fun h=>wa hk4 n _ _ _ _ _ _ _ _ _ h)
theorem AU{N:Nat}{r:PR ax}{k4:Bool→Bool→(List Bool)→(List UInt8)→Int→Int→Nat→(List Vstep)→Option (PR ax)}(hk4:∀x3 x5 b4 N1 NZ N0 NY N2,k4 x3 x5 b4 N1 NZ N0 NY N2=some r→jb N r (ne (ai 0 Try.f69)) (mE x3 x5 b4 N1 NZ N0 NY N2))(n:Nat)(x3:Bool)(b4:List Bool)(N1:List UInt8)(NZ:Int)(N0:Int)(NY:Nat)(N2:List Vstep)(h:co N k4 n x3 b4 N1 NZ N0 NY N2=some r):jb N r (Aj (ai 0 Try.f69)) (zd x3 b4 N1 NZ N0 NY N2):=
 aX (m:=4000) (t:=
 .bnd (bB N N1 NZ N0 NY N2) fun z5=>
 .sm z5 (fun z6=>
  .bnd (bc N 45 z6.2.1 z6.2.2.1 z6.2.2.2.1 z6.2.2.2.2.1 z6.2.2.2.2.2) fun z7=>
  .sm z7 (fun z8=>
   .cond (z8.1)
   (
    .bnd (bB N z8.2.1 z8.2.2.1 z8.2.2.2.1 z8.2.2.2.2.1 z8.2.2.2.2.2) fun z9=>
    .sm z9 (fun z10=>
     .cond (decide ((b2i z10.1) < (b2i z6.1)))
     (
      .bnd (aR N 3 z8.2.2.1 z10.2.1 z10.2.2.1 z10.2.2.2.1 z10.2.2.2.2.1 z10.2.2.2.2.2) fun z11=>
      .sm z11 (fun z12=>
       rA (ai 0 Try.f69) (cg N k4 n) x3 z6.1 z10.1 b4 z12.1 z12.2.1 z12.2.2.1 z12.2.2.2.1 z12.2.2.2.2) (fun vz11=>
       lZ (.pan vz11)))
     (
      rA (ai 0 Try.f69) (cg N k4 n) x3 z6.1 z10.1 b4 z10.2.1 z10.2.2.1 z10.2.2.2.1 z10.2.2.2.2.1 z10.2.2.2.2.2)) (fun vz9=>
     lZ (.pan vz9)))
   (
    rA (ai 0 Try.f69) (cg N k4 n) x3 z6.1 z6.1 b4 z8.2.1 z8.2.2.1 z8.2.2.2.1 z8.2.2.2.2.1 z8.2.2.2.2.2)) (fun vz7=>
   lZ (.pan vz7))) (fun vz5=>
  lZ (.pan vz5))) (by kernel_rfl) (by kernel_rfl) h (fun _=>⟨fun _=>fun _=>⟨fun _=>⟨fun _=>⟨fun _=>⟨fun _=>⟨fun _=>fun h=>rC hk4 n _ _ _ _ _ _ _ _ _ h,fun _=>bm (enc:=gi) rfl⟩,fun h=>rC hk4 n _ _ _ _ _ _ _ _ _ h⟩,fun _=>bm (enc:=gi) rfl⟩,fun h=>rC hk4 n _ _ _ _ _ _ _ _ _ h⟩,fun _=>bm (enc:=gi) rfl⟩,fun _=>bm (enc:=gi) rfl⟩)
theorem xj{N:Nat}{r:PR ax}:∀ (n:Nat) (x3:Bool) (x46:Int) (b4:List Bool) (N1:List UInt8) (NZ:Int) (N0:Int) (NY:Nat) (N2:List Vstep),bA N n x3 x46 b4 N1 NZ N0 NY N2=some r→jb N r (vW (ai 0 Try.f69)) (wi x3 x46 b4 N1 NZ N0 NY N2)
 |0,_,_,_,_,_,_,_,_,h=>by cases h
 |n+1,x3,x46,b4,N1,NZ,N0,NY,N2,h=>aX (m:=4000) (t:=
  .cond (decide (x46 < 256))
  (
   .bnd (dP 256 x46) fun z13=>
   .bnd (b4[0+z13]?) fun z14=>
   .bnd (dP 256 x46) fun z15=>
   .bnd (mw b4 (0+z15) (!(z14==x3))) fun z16=>
   wz (ai 0 Try.f69) (bA N n) x3 (w64 (x46+1)) z16 N1 NZ N0 NY N2)
  (
   .bnd (j8 256 b4) fun z17=>
   lZ (.ok ((some z17),N1,NZ,N0,NY,N2)))) (by kernel_rfl) (by kernel_rfl) h (⟨fun _=>fun _=>fun _=>fun _=>fun h=>(xj n) _ _ _ _ _ _ _ _ h,fun _=>bm (enc:=gi) rfl⟩)
theorem uW{N:Nat}{r:PR ax}:∀ (n:Nat) (x3:Bool) (x5:Bool) (b4:List Bool) (N1:List UInt8) (NZ:Int) (N0:Int) (NY:Nat) (N2:List Vstep),bn N n x3 x5 b4 N1 NZ N0 NY N2=some r→jb N r (ne (ai 0 Try.f69)) (mE x3 x5 b4 N1 NZ N0 NY N2)
 |0,_,_,_,_,_,_,_,_,h=>by cases h
 |n+1,x3,x5,b4,N1,NZ,N0,NY,N2,h=>aX (m:=4000) (t:=
  .cond (x5)
  (
   Bb (ai 0 Try.f69) (co N (bn N n) n) x3 b4 N1 NZ N0 NY N2)
  (
   .bnd (bc N 93 N1 NZ N0 NY N2) fun z3=>
   .sm z3 (fun z4=>
    .cond (!z4.1)
    (
     Bb (ai 0 Try.f69) (co N (bn N n) n) x3 b4 z4.2.1 z4.2.2.1 z4.2.2.2.1 z4.2.2.2.2.1 z4.2.2.2.2.2)
    (
     wz (ai 0 Try.f69) (bA N n) x3 0 b4 z4.2.1 z4.2.2.1 z4.2.2.2.1 z4.2.2.2.2.1 z4.2.2.2.2.2)) (fun vz3=>
    lZ (.pan vz3)))) (by kernel_rfl) (by kernel_rfl) h (⟨fun h=>AU (uW n) n _ _ _ _ _ _ _ h,fun _=>⟨fun _=>⟨fun h=>AU (uW n) n _ _ _ _ _ _ _ h,fun h=>xj n _ _ _ _ _ _ _ _ h⟩,fun _=>bm (enc:=gi) rfl⟩⟩)
theorem IC{N:Nat}{r:PR ax}(y0_0:List UInt8)(y0_1:Int)(y0_2:Int)(y0_3:Nat)(y1:List Vstep)(h:cN N y0_0 y0_1 y0_2 y0_3 y1=some r):jb N r (G5 (ai 0 Try.f69)) (Ij y0_0 y0_1 y0_2 y0_3 y1):=
 aX (m:=4000) (t:=
 .bnd (bc N 94 y0_0 y0_1 y0_2 y0_3 y1) fun z1=>
 .sm z1 (fun z2=>
  Bh (ai 0 Try.f69) (bn N N) z2.1 true (List.replicate 256 false) z2.2.1 z2.2.2.1 z2.2.2.2.1 z2.2.2.2.2.1 z2.2.2.2.2.2) (fun vz1=>
  lZ (.pan vz1))) (by kernel_rfl) (by kernel_rfl) h (fun _=>⟨fun _=>fun h=>uW N _ _ _ _ _ _ _ _ h,fun _=>bm (enc:=gi) rfl⟩)
def CK(y0_0:List UInt8)(y0_1:Int)(y0_2:Int)(y0_3:Nat)(y1:List Vstep):List (TV EE.T):=[.a (.box 100000 0)]
def xR(y0_0:List UInt8)(y0_1:Int)(y0_2:Int)(y0_3:Nat)(y1:List Vstep):List (Nat × TB EE.T):=[(100000,.cs [.d .str y0_0,.d (.int .i64) y0_1,.d (.int .i64) y0_2,.vec (.nam 7) 200001 y0_3]),(200001,.vec 200001 (.nam 7) y1)]
theorem kQ{N:Nat}(y0_0:List UInt8)(y0_1:Int)(y0_2:Int)(y0_3:Nat)(y1:List Vstep){r:PR ax}(h:cN N y0_0 y0_1 y0_2 y0_3 y1=some r)(ρ:Rn)(hi:Inj ρ (xR y0_0 y0_1 y0_2 y0_3 y1)):aW Try.prog 69 ((CK y0_0 y0_1 y0_2 y0_3 y1).map (TV.to EE.toEnc ρ)) (hTo EE.toEnc ρ (xR y0_0 y0_1 y0_2 y0_3 y1)) (dw EE ρ fun u=>u=gi r):=
 fd (ai 0 Try.f69) 57 mixed (Fa N) Try.func69 (by kernel_rfl) rfl rfl rfl rfl (IC y0_0 y0_1 y0_2 y0_3 y1 h) ρ hi
def hY(N:Nat)(us:List (TV EE.T))(hs:List (Nat × TB EE.T)):XR EE.T:=
 gdX (fG us 1) <|
 bnX (aB us 0) fun i0=>
 bnX (bC hs i0) fun l0=>
 gdX (fG l0 4) <|
 bnX (cD .str l0 0) fun y0_0=>
 bnX (cD (.int .i64) l0 1) fun y0_1=>
 bnX (cD (.int .i64) l0 2) fun y0_2=>
 bnX (cVi (.nam 7) l0 3) fun i1=>
 bnX (cVn (.nam 7) l0 3) fun y0_3=>
 bnX (bV (.nam 7) hs i1) fun y1=>
 gdX (ci hs [i0,i1]) <|
 gdX (il [i0,i1]) <|
 .mv (cN N y0_0 y0_1 y0_2 y0_3 y1) [i0,i1] (mvL [i0,i1] [100000,200001]) 0 (eg i0 i1) (sN i0 i1)
theorem kI(N:Nat):XOk Try.prog EE 69 (hY N):=fun us hs=>
 ba fun h1=>aE fun i0 h2=>aE fun l0 h3=>ba fun h4=>aE fun y0_0 h5=>aE fun y0_1 h6=>aE fun y0_2 h7=>aE fun i1 h8=>aE fun y0_3 h9=>aE fun y1 h10=>ba fun h11=>ba fun h12=>fun p hz ρ hi=>gc (ex:=[]) (ks:=[100000,200001]) (us':=CK y0_0 y0_1 y0_2 y0_3 y1) (h0:=xR y0_0 y0_1 y0_2 y0_3 y1) (ρ':=m8 ρ [i0,i1]) (uc:=eg 100000 200001) (u:=eg i0 i1) (hc:=sN 100000 200001) (h:=sN i0 i1) hi h11 (by kernel_rfl) ⟨i9 h2 (by kernel_rfl),cA h1⟩ ⟨(by kernel_rfl),lr h3 ⟨dp h5,dp h6,dp h7,iA h8 h9 (by kernel_rfl),cA h4⟩,(by kernel_rfl),jQ h10 (by kernel_rfl),trivial⟩ ⟨.inr rfl,.inl rfl,trivial⟩ h12 (fun hj=>kQ y0_0 y0_1 y0_2 y0_3 y1 hz _ hj) (fun z=>⟨by kernel_rfl,by kernel_rfl,by kernel_rfl,by kernel_rfl⟩)
def cb(i0:Nat)(r:aQ):TV EE.T:=.a (.d (.sl (.nam 7)) r.1)
def tl(i0:Nat)(r:aQ):List (Nat × TB EE.T):=[(i0,.vec i0 (.nam 7) r.2)]
def nj(r:PR aQ):RL EE.T:=nr (cb 100000) (tl 100000) r
def Ki:Lvs:=⟨[],[],[],[],false,[],[100000],[],[]⟩
def KL:List ResultVar:=[.tmp 2]
def Ir(N:Nat):Gam EE:=⟨[],EQT,[],[]⟩
theorem Fc(N:Nat):GOk Try.prog TT EE (Ir N):=GOk.nil dQ
def H5(c:Code):List It2:=[.c c]
def Fb(x0_o:Nat)(x0_n:Nat)(y0:List Vstep):TS EE.T:=⟨8,[(0,.a (.vsl (.nam 7) 100000 x0_o x0_n))],[(100000,.vec 100000 (.nam 7) y0)],[]⟩
abbrev Kl(N:Nat)(r:PR aQ)(k:List It2)(s:TS EE.T):Prop:=gB (Y:=TT) EE (Ir N) Ki KL (fun u=>u=nj r) k s
def Cp(x:PR aQ):Tree (Lf EE.T × Option (PR aQ)):=.leaf (.done (nj x),some x)
theorem Ig{N:Nat}{r:PR aQ}(x0_o:Nat)(x0_n:Nat)(y0:List Vstep)(h:br N x0_o x0_n y0=some r):Kl N r (H5 (ai 0 Try.f63)) (Fb x0_o x0_n y0):=
 aX (m:=4000) (t:=
 .nl ((List.drop x0_o y0).take x0_n)
 (
  Cp (.ok (([] :List Vstep),y0)))
 (
  .bnd (AP x0_o x0_n y0) fun z1=>
  .bnd (iQ 32 ([] :List Vstep) z1) fun z2=>
  Cp (.ok (z2,y0)))) (by kernel_rfl) (by kernel_rfl) h (⟨fun e _ h=>LT e h,bm (enc:=nj) rfl,fun _=>fun _=>bm (enc:=nj) rfl⟩)
def CG(x0_o:Nat)(x0_n:Nat)(y0:List Vstep):List (TV EE.T):=[.a (.vsl (.nam 7) 100000 x0_o x0_n)]
def yn(x0_o:Nat)(x0_n:Nat)(y0:List Vstep):List (Nat × TB EE.T):=[(100000,.vec 100000 (.nam 7) y0)]
theorem fB{N:Nat}(x0_o:Nat)(x0_n:Nat)(y0:List Vstep){r:PR aQ}(h:br N x0_o x0_n y0=some r)(ρ:Rn)(hi:Inj ρ (yn x0_o x0_n y0)):aW Try.prog 63 ((CG x0_o x0_n y0).map (TV.to EE.toEnc ρ)) (hTo EE.toEnc ρ (yn x0_o x0_n y0)) (dw EE ρ fun u=>u=nj r):=
 fd (ai 0 Try.f63) 8 mixed (Fc N) Try.func63 (by kernel_rfl) rfl rfl rfl rfl (Ig x0_o x0_n y0 h) ρ hi
def dN(N:Nat)(us:List (TV EE.T))(hs:List (Nat × TB EE.T)):XR EE.T:=
 gdX (fG us 1) <|
 bnX (aUi (.nam 7) us 0) fun i0=>
 bnX (aUo (.nam 7) us 0) fun x0_o=>
 bnX (aUn (.nam 7) us 0) fun x0_n=>
 bnX (bV (.nam 7) hs i0) fun y0=>
 gdX (ci hs [i0]) <|
 gdX (il [i0]) <|
 .mv (br N x0_o x0_n y0) [i0] (mvL [i0] [100000]) 0 (cb i0) (tl i0)
theorem fz(N:Nat):XOk Try.prog EE 63 (dN N):=fun us hs=>
 ba fun h1=>aE fun i0 h2=>aE fun x0_o h3=>aE fun x0_n h4=>aE fun y0 h5=>ba fun h6=>ba fun h7=>fun p hz ρ hi=>gc (ex:=[]) (ks:=[100000]) (us':=CG x0_o x0_n y0) (h0:=yn x0_o x0_n y0) (ρ':=m8 ρ [i0]) (uc:=cb 100000) (u:=cb i0) (hc:=tl 100000) (h:=tl i0) hi h6 (by kernel_rfl) ⟨NN h2 h3 h4 (by kernel_rfl),cA h1⟩ ⟨(by kernel_rfl),jQ h5 (by kernel_rfl),trivial⟩ ⟨.inr rfl,trivial⟩ h7 (fun hj=>fB x0_o x0_n y0 hz _ hj) (fun z=>⟨by kernel_rfl,by kernel_rfl,by kernel_rfl,by kernel_rfl⟩)
def eq(i0:Nat)(i1:Nat)(r:bM):TV EE.T:=.a (.d (.sl (.nam 7)) r.1)
def sE(i0:Nat)(i1:Nat)(r:bM):List (Nat × TB EE.T):=[(i0,.cs [.d .str r.2.1,.d (.int .i64) r.2.2.1,.d (.int .i64) r.2.2.2.1,.vec (.nam 7) i1 r.2.2.2.2.1]),(i1,.vec i1 (.nam 7) r.2.2.2.2.2)]
def ni(r:PR bM):RL EE.T:=nr (eq 100000 200001) (sE 100000 200001) r
def JQ:Lvs:=⟨[],[],[],[],false,[(100000,(none,[]))],[100000,200001],[],[(19,200001)]⟩
def Kx:List ResultVar:=[.tmp 4]
def Ii(N:Nat):Gam EE:=⟨[],EQT,[⟨63,dN N⟩],[]⟩
theorem Fx(N:Nat):GOk Try.prog TT EE (Ii N):=GOk.consx (fz N) (GOk.nil dQ)
def Hf(c:Code):List It2:=[.c c]
def F4(x1:Int)(y0_0:List UInt8)(y0_1:Int)(y0_2:Int)(y0_3:Nat)(y1:List Vstep):TS EE.T:=⟨23,[(0,.a (.box 100000 0)),(1,.a (.d (.int .i64) x1))],[(100000,.cs [.d .str y0_0,.d (.int .i64) y0_1,.d (.int .i64) y0_2,.vec (.nam 7) 200001 y0_3]),(200001,.vec 200001 (.nam 7) y1)],[]⟩
abbrev I9(N:Nat)(r:PR bM)(k:List It2)(s:TS EE.T):Prop:=gB (Y:=TT) EE (Ii N) JQ Kx (fun u=>u=ni r) k s
def DA(x:PR bM):Tree (Lf EE.T × Option (PR bM)):=.leaf (.done (ni x),some x)
theorem GI{N:Nat}{r:PR bM}(x1:Int)(y0_0:List UInt8)(y0_1:Int)(y0_2:Int)(y0_3:Nat)(y1:List Vstep)(h:bR N x1 y0_0 y0_1 y0_2 y0_3 y1=some r):I9 N r (Hf (ai 0 Try.f51)) (F4 x1 y0_0 y0_1 y0_2 y0_3 y1):=
 aX (m:=4000) (t:=
 .bnd (xx y0_3 x1 (y0_3:Int)) fun z1=>
 .bnd (br N z1.1 (y0_3 - z1.1) y1) fun z2=>
 .sm z2 (fun z3=>
  .bnd (BJ y0_3 z3.2 x1) fun z4=>
  DA (.ok (z3.1,y0_0,y0_1,y0_2,z4.length,z4))) (fun vz2=>
  DA (.pan vz2))) (by kernel_rfl) (by kernel_rfl) h (fun _=>fun _=>⟨fun _=>fun _=>bm (enc:=ni) rfl,fun _=>bm (enc:=ni) rfl⟩)
def C9(x1:Int)(y0_0:List UInt8)(y0_1:Int)(y0_2:Int)(y0_3:Nat)(y1:List Vstep):List (TV EE.T):=[.a (.box 100000 0),.a (.d (.int .i64) x1)]
def xZ(x1:Int)(y0_0:List UInt8)(y0_1:Int)(y0_2:Int)(y0_3:Nat)(y1:List Vstep):List (Nat × TB EE.T):=[(100000,.cs [.d .str y0_0,.d (.int .i64) y0_1,.d (.int .i64) y0_2,.vec (.nam 7) 200001 y0_3]),(200001,.vec 200001 (.nam 7) y1)]
theorem lm{N:Nat}(x1:Int)(y0_0:List UInt8)(y0_1:Int)(y0_2:Int)(y0_3:Nat)(y1:List Vstep){r:PR bM}(h:bR N x1 y0_0 y0_1 y0_2 y0_3 y1=some r)(ρ:Rn)(hi:Inj ρ (xZ x1 y0_0 y0_1 y0_2 y0_3 y1)):aW Try.prog 51 ((C9 x1 y0_0 y0_1 y0_2 y0_3 y1).map (TV.to EE.toEnc ρ)) (hTo EE.toEnc ρ (xZ x1 y0_0 y0_1 y0_2 y0_3 y1)) (dw EE ρ fun u=>u=ni r):=
 fd (ai 0 Try.f51) 23 mixed (Fx N) Try.func51 (by kernel_rfl) rfl rfl rfl rfl (GI x1 y0_0 y0_1 y0_2 y0_3 y1 h) ρ hi
def e9(N:Nat)(us:List (TV EE.T))(hs:List (Nat × TB EE.T)):XR EE.T:=
 gdX (fG us 2) <|
 bnX (aB us 0) fun i0=>
 bnX (aD (.int .i64) us 1) fun x1=>
 bnX (bC hs i0) fun l0=>
 gdX (fG l0 4) <|
 bnX (cD .str l0 0) fun y0_0=>
 bnX (cD (.int .i64) l0 1) fun y0_1=>
 bnX (cD (.int .i64) l0 2) fun y0_2=>
 bnX (cVi (.nam 7) l0 3) fun i1=>
 bnX (cVn (.nam 7) l0 3) fun y0_3=>
 bnX (bV (.nam 7) hs i1) fun y1=>
 gdX (ci hs [i0,i1]) <|
 gdX (il [i0,i1]) <|
 .mv (bR N x1 y0_0 y0_1 y0_2 y0_3 y1) [i0,i1] (mvL [i0,i1] [100000,200001]) 0 (eq i0 i1) (sE i0 i1)
theorem gt(N:Nat):XOk Try.prog EE 51 (e9 N):=fun us hs=>
 ba fun h1=>aE fun i0 h2=>aE fun x1 h3=>aE fun l0 h4=>ba fun h5=>aE fun y0_0 h6=>aE fun y0_1 h7=>aE fun y0_2 h8=>aE fun i1 h9=>aE fun y0_3 h10=>aE fun y1 h11=>ba fun h12=>ba fun h13=>fun p hz ρ hi=>gc (ex:=[]) (ks:=[100000,200001]) (us':=C9 x1 y0_0 y0_1 y0_2 y0_3 y1) (h0:=xZ x1 y0_0 y0_1 y0_2 y0_3 y1) (ρ':=m8 ρ [i0,i1]) (uc:=eq 100000 200001) (u:=eq i0 i1) (hc:=sE 100000 200001) (h:=sE i0 i1) hi h12 (by kernel_rfl) ⟨i9 h2 (by kernel_rfl),mP h3,cA h1⟩ ⟨(by kernel_rfl),lr h4 ⟨dp h6,dp h7,dp h8,iA h9 h10 (by kernel_rfl),cA h5⟩,(by kernel_rfl),jQ h11 (by kernel_rfl),trivial⟩ ⟨.inr rfl,.inl rfl,trivial⟩ h13 (fun hj=>lm x1 y0_0 y0_1 y0_2 y0_3 y1 hz _ hj) (fun z=>⟨by kernel_rfl,by kernel_rfl,by kernel_rfl,by kernel_rfl⟩)
def ei(i0:Nat)(i1:Nat)(r:aJ):TV EE.T:=.tu []
def th(i0:Nat)(i1:Nat)(r:aJ):List (Nat × TB EE.T):=[(i0,.cs [.d .str r.1,.d (.int .i64) r.2.1,.d (.int .i64) r.2.2.1,.vec (.nam 7) i1 r.2.2.2.1]),(i1,.vec i1 (.nam 7) r.2.2.2.2)]
def mZ(r:PR aJ):RL EE.T:=nr (ei 100000 200001) (th 100000 200001) r
def JT:Lvs:=⟨[(9,⟨[(0,false),(6,false),(8,false),(16,false),(17,false),(18,false)],[],[(8,(some 7,[])),(100000,(none,[])),(200001,(none,[]))],[]⟩)],[(2,⟨[(0,false),(6,false),(16,false),(17,false),(18,false)],[],[(100000,(none,[])),(200001,(none,[]))],[]⟩)],[9],[],false,[(100000,(none,[]))],[100000,200001],[],[]⟩
def Kk:List ResultVar:=[]
def IJ(N:Nat):Gam EE:=⟨[],EQT,[⟨36,dx N⟩],[]⟩
theorem IR(N:Nat):GOk Try.prog TT EE (IJ N):=GOk.consx (dK N) (GOk.nil dQ)
def Bi(c:Code):List It2:=atR 9 c
def zg(x6:Int)(x16:List Vstep)(x17:Int)(x18:Int)(b8:Vstep)(N1:List UInt8)(NZ:Int)(N0:Int)(NY:Nat)(N2:List Vstep):TS EE.T:=⟨47,[(0,.a (.box 100000 0)),(6,.a (.d (.int .i64) x6)),(8,.a (.box 8 0)),(16,.a (.d (.sl (.nam 7)) x16)),(17,.a (.d (.int .i64) x17)),(18,.a (.d (.int .i64) x18))],[(8,.cs (eD EE (.nam 7) b8)),(100000,.cs [.d .str N1,.d (.int .i64) NZ,.d (.int .i64) N0,.vec (.nam 7) 200001 NY]),(200001,.vec 200001 (.nam 7) N2)],[]⟩
def va(c:Code):List It2:=atL 2 c
def vc(x6:Int)(x16:List Vstep)(x17:Int)(x18:Int)(N1:List UInt8)(NZ:Int)(N0:Int)(NY:Nat)(N2:List Vstep):TS EE.T:=⟨47,[(0,.a (.box 100000 0)),(6,.a (.d (.int .i64) x6)),(16,.a (.d (.sl (.nam 7)) x16)),(17,.a (.d (.int .i64) x17)),(18,.a (.d (.int .i64) x18))],[(100000,.cs [.d .str N1,.d (.int .i64) NZ,.d (.int .i64) N0,.vec (.nam 7) 200001 NY]),(200001,.vec 200001 (.nam 7) N2)],[]⟩
def GC(c:Code):List It2:=[.c c]
def ID(x1:List Vstep)(x2:Int)(y0_0:List UInt8)(y0_1:Int)(y0_2:Int)(y0_3:Nat)(y1:List Vstep):TS EE.T:=⟨47,[(0,.a (.box 100000 0)),(1,.a (.d (.sl (.nam 7)) x1)),(2,.a (.d (.int .i64) x2))],[(100000,.cs [.d .str y0_0,.d (.int .i64) y0_1,.d (.int .i64) y0_2,.vec (.nam 7) 200001 y0_3]),(200001,.vec 200001 (.nam 7) y1)],[]⟩
def tJ(c:Code)(f:Int→(List Vstep)→Int→Int→Vstep→(List UInt8)→Int→Int→Nat→(List Vstep)→Option (PR aJ))(x6:Int)(x16:List Vstep)(x17:Int)(x18:Int)(b8:Vstep)(N1:List UInt8)(NZ:Int)(N0:Int)(NY:Nat)(N2:List Vstep):Tree (Lf EE.T × Option (PR aJ)):=.leaf (.go (Bi c) (zg x6 x16 x17 x18 b8 N1 NZ N0 NY N2),f x6 x16 x17 x18 b8 N1 NZ N0 NY N2)
def zq(c:Code)(f:Int→(List Vstep)→Int→Int→(List UInt8)→Int→Int→Nat→(List Vstep)→Option (PR aJ))(x6:Int)(x16:List Vstep)(x17:Int)(x18:Int)(N1:List UInt8)(NZ:Int)(N0:Int)(NY:Nat)(N2:List Vstep):Tree (Lf EE.T × Option (PR aJ)):=.leaf (.go (va c) (vc x6 x16 x17 x18 N1 NZ N0 NY N2),f x6 x16 x17 x18 N1 NZ N0 NY N2)
abbrev sU(N:Nat)(r:PR aJ)(k:List It2)(s:TS EE.T):Prop:=gB (Y:=TT) EE (IJ N) JT Kk (fun u=>u=mZ r) k s
def Dl(x:PR aJ):Tree (Lf EE.T × Option (PR aJ)):=.leaf (.done (mZ x),some x)
theorem tU{N:Nat}{r:PR aJ}{k2:Int→(List Vstep)→Int→Int→(List UInt8)→Int→Int→Nat→(List Vstep)→Option (PR aJ)}(hk2:∀x6 x16 x17 x18 N1 NZ N0 NY N2,k2 x6 x16 x17 x18 N1 NZ N0 NY N2=some r→sU N r (va (ai 0 Try.f52)) (vc x6 x16 x17 x18 N1 NZ N0 NY N2))(n:Nat)(x6:Int)(x16:List Vstep)(x17:Int)(x18:Int)(b8:Vstep)(N1:List UInt8)(NZ:Int)(N0:Int)(NY:Nat)(N2:List Vstep)(h:bE N k2 n x6 x16 x17 x18 b8 N1 NZ N0 NY N2=some r):sU N r (Bi (ai 0 Try.f52)) (zg x6 x16 x17 x18 b8 N1 NZ N0 NY N2):=
 aX (m:=4000) (t:=
 .bnd (aA N b8 N1 NZ N0 NY N2) fun z2=>
 .sm z2 (fun z3=>
  zq (ai 0 Try.f52) k2 x6 x16 x17 (w64 (x18+1)) z3.2.1 z3.2.2.1 z3.2.2.2.1 z3.2.2.2.2.1 z3.2.2.2.2.2) (fun vz2=>
  Dl (.pan vz2))) (by kernel_rfl) (by kernel_rfl) h (fun _=>⟨fun _=>fun h=>hk2 _ _ _ _ _ _ _ _ _ h,fun _=>bm (enc:=mZ) rfl⟩)
theorem qJ{N:Nat}{r:PR aJ}:∀ (n:Nat) (x6:Int) (x16:List Vstep) (x17:Int) (x18:Int) (N1:List UInt8) (NZ:Int) (N0:Int) (NY:Nat) (N2:List Vstep),a7 N n x6 x16 x17 x18 N1 NZ N0 NY N2=some r→sU N r (va (ai 0 Try.f52)) (vc x6 x16 x17 x18 N1 NZ N0 NY N2)
 |0,_,_,_,_,_,_,_,_,_,h=>by cases h
 |n+1,x6,x16,x17,x18,N1,NZ,N0,NY,N2,h=>aX (m:=4000) (t:=
  .cond (decide (x18 < x17))
  (
   .bnd (ap x16 x18) fun z1=>
   .cond (z1.kind==1)
   (
    tJ (ai 0 Try.f52) (bE N (a7 N n) n) x6 x16 x17 x18 ({ kind:=z1.kind,a:=w64 (z1.a+x6),b:=w64 (z1.b+x6),set_:=z1.set_ }:Vstep) N1 NZ N0 NY N2)
   (
    .cond (z1.kind==2)
    (
     tJ (ai 0 Try.f52) (bE N (a7 N n) n) x6 x16 x17 x18 ({ kind:=z1.kind,a:=w64 (z1.a+x6),b:=z1.b,set_:=z1.set_ }:Vstep) N1 NZ N0 NY N2)
    (
     tJ (ai 0 Try.f52) (bE N (a7 N n) n) x6 x16 x17 x18 z1 N1 NZ N0 NY N2)))
  (
   Dl (.ok (N1,NZ,N0,NY,N2)))) (by kernel_rfl) (by kernel_rfl) h (⟨fun _=>⟨fun h=>tU (qJ n) n _ _ _ _ _ _ _ _ _ _ h,⟨fun h=>tU (qJ n) n _ _ _ _ _ _ _ _ _ _ h,fun h=>tU (qJ n) n _ _ _ _ _ _ _ _ _ _ h⟩⟩,bm (enc:=mZ) rfl⟩)
theorem Hs{N:Nat}{r:PR aJ}(x1:List Vstep)(x2:Int)(y0_0:List UInt8)(y0_1:Int)(y0_2:Int)(y0_3:Nat)(y1:List Vstep)(h:bk N x1 x2 y0_0 y0_1 y0_2 y0_3 y1=some r):sU N r (GC (ai 0 Try.f52)) (ID x1 x2 y0_0 y0_1 y0_2 y0_3 y1):=
 aX (m:=4000) (t:=
 zq (ai 0 Try.f52) (a7 N N) (w64 ((y0_3:Int) - x2)) x1 (x1.length:Int) 0 y0_0 y0_1 y0_2 y0_3 y1) (by kernel_rfl) (by kernel_rfl) h (fun h=>qJ N _ _ _ _ _ _ _ _ _ h)
def Cy(x1:List Vstep)(x2:Int)(y0_0:List UInt8)(y0_1:Int)(y0_2:Int)(y0_3:Nat)(y1:List Vstep):List (TV EE.T):=[.a (.box 100000 0),.a (.d (.sl (.nam 7)) x1),.a (.d (.int .i64) x2)]
def yZ(x1:List Vstep)(x2:Int)(y0_0:List UInt8)(y0_1:Int)(y0_2:Int)(y0_3:Nat)(y1:List Vstep):List (Nat × TB EE.T):=[(100000,.cs [.d .str y0_0,.d (.int .i64) y0_1,.d (.int .i64) y0_2,.vec (.nam 7) 200001 y0_3]),(200001,.vec 200001 (.nam 7) y1)]
theorem lk{N:Nat}(x1:List Vstep)(x2:Int)(y0_0:List UInt8)(y0_1:Int)(y0_2:Int)(y0_3:Nat)(y1:List Vstep){r:PR aJ}(h:bk N x1 x2 y0_0 y0_1 y0_2 y0_3 y1=some r)(ρ:Rn)(hi:Inj ρ (yZ x1 x2 y0_0 y0_1 y0_2 y0_3 y1)):aW Try.prog 52 ((Cy x1 x2 y0_0 y0_1 y0_2 y0_3 y1).map (TV.to EE.toEnc ρ)) (hTo EE.toEnc ρ (yZ x1 x2 y0_0 y0_1 y0_2 y0_3 y1)) (dw EE ρ fun u=>u=mZ r):=
 fd (ai 0 Try.f52) 47 mixed (IR N) Try.func52 (by kernel_rfl) rfl rfl rfl rfl (Hs x1 x2 y0_0 y0_1 y0_2 y0_3 y1 h) ρ hi
def fe(N:Nat)(us:List (TV EE.T))(hs:List (Nat × TB EE.T)):XR EE.T:=
 gdX (fG us 3) <|
 bnX (aB us 0) fun i0=>
 bnX (aD (.sl (.nam 7)) us 1) fun x1=>
 bnX (aD (.int .i64) us 2) fun x2=>
 bnX (bC hs i0) fun l0=>
 gdX (fG l0 4) <|
 bnX (cD .str l0 0) fun y0_0=>
 bnX (cD (.int .i64) l0 1) fun y0_1=>
 bnX (cD (.int .i64) l0 2) fun y0_2=>
 bnX (cVi (.nam 7) l0 3) fun i1=>
 bnX (cVn (.nam 7) l0 3) fun y0_3=>
 bnX (bV (.nam 7) hs i1) fun y1=>
 gdX (ci hs [i0,i1]) <|
 gdX (il [i0,i1]) <|
 .mv (bk N x1 x2 y0_0 y0_1 y0_2 y0_3 y1) [i0,i1] (mvL [i0,i1] [100000,200001]) 0 (ei i0 i1) (th i0 i1)
theorem gp(N:Nat):XOk Try.prog EE 52 (fe N):=fun us hs=>
 ba fun h1=>aE fun i0 h2=>aE fun x1 h3=>aE fun x2 h4=>aE fun l0 h5=>ba fun h6=>aE fun y0_0 h7=>aE fun y0_1 h8=>aE fun y0_2 h9=>aE fun i1 h10=>aE fun y0_3 h11=>aE fun y1 h12=>ba fun h13=>ba fun h14=>fun p hz ρ hi=>gc (ex:=[]) (ks:=[100000,200001]) (us':=Cy x1 x2 y0_0 y0_1 y0_2 y0_3 y1) (h0:=yZ x1 x2 y0_0 y0_1 y0_2 y0_3 y1) (ρ':=m8 ρ [i0,i1]) (uc:=ei 100000 200001) (u:=ei i0 i1) (hc:=th 100000 200001) (h:=th i0 i1) hi h13 (by kernel_rfl) ⟨i9 h2 (by kernel_rfl),mP h3,mP h4,cA h1⟩ ⟨(by kernel_rfl),lr h5 ⟨dp h7,dp h8,dp h9,iA h10 h11 (by kernel_rfl),cA h6⟩,(by kernel_rfl),jQ h12 (by kernel_rfl),trivial⟩ ⟨.inr rfl,.inl rfl,trivial⟩ h14 (fun hj=>lk x1 x2 y0_0 y0_1 y0_2 y0_3 y1 hz _ hj) (fun z=>⟨by kernel_rfl,by kernel_rfl,by kernel_rfl,by kernel_rfl⟩)
def lN(i0:Nat)(i1:Nat)(r:Bool × (List UInt8) × Int × Int × Nat × (List Vstep)):TV EE.T:=.a (.d .bool r.1)
def lI(i0:Nat)(i1:Nat)(r:Bool × (List UInt8) × Int × Int × Nat × (List Vstep)):List (Nat × TB EE.T):=[(i0,.cs [.d .str r.2.1,.d (.int .i64) r.2.2.1,.d (.int .i64) r.2.2.2.1,.vec (.nam 7) i1 r.2.2.2.2.1]),(i1,.vec i1 (.nam 7) r.2.2.2.2.2)]
def en(N:RecC)(us:List (TV EE.T))(hs:List (Nat × TB EE.T)):XR EE.T:=
 gdX (fG us 1) <|
 bnX (aB us 0) fun i0=>
 bnX (bC hs i0) fun l0=>
 gdX (fG l0 4) <|
 bnX (cD .str l0 0) fun y0_0=>
 bnX (cD (.int .i64) l0 1) fun y0_1=>
 bnX (cD (.int .i64) l0 2) fun y0_2=>
 bnX (cVi (.nam 7) l0 3) fun i1=>
 bnX (cVn (.nam 7) l0 3) fun y0_3=>
 bnX (bV (.nam 7) hs i1) fun y1=>
 gdX (ci hs [i0,i1]) <|
 gdX (il [i0,i1]) <|
 .mv (dk N y0_0 y0_1 y0_2 y0_3 y1) [i0,i1] (mvL [i0,i1] [100000,200001]) 0 (lN i0 i1) (lI i0 i1)
def iq(N:RecC):Prop:=XOk Try.prog EE 34 (en N)
theorem gl(N:RecC)(hN:iq N):XOk Try.prog EE 34 (en N):=hN
theorem Hv(n:Nat):iq ⟨n,fun _ _ _ _ _=>none⟩:=fun us hs=>
 ba fun h1=>aE fun i0 h2=>aE fun l0 h3=>ba fun h4=>aE fun y0_0 h5=>aE fun y0_1 h6=>aE fun y0_2 h7=>aE fun i1 h8=>aE fun y0_3 h9=>aE fun y1 h10=>ba fun h11=>ba fun h12=>fun p hz=>by cases hz
def dW(i0:Nat)(i1:Nat)(r:ay):TV EE.T:=.a (.d .bool r.1)
def te(i0:Nat)(i1:Nat)(r:ay):List (Nat × TB EE.T):=[(i0,.cs [.d .str r.2.1,.d (.int .i64) r.2.2.1,.d (.int .i64) r.2.2.2.1,.vec (.nam 7) i1 r.2.2.2.2.1]),(i1,.vec i1 (.nam 7) r.2.2.2.2.2)]
def cB(r:PR ay):RL EE.T:=nr (dW 100000 200001) (te 100000 200001) r
def JU:Lvs:=⟨[(1,⟨[(0,false)],[],[(100000,(none,[])),(200001,(none,[]))],[]⟩),(5,⟨[(0,false),(3,false)],[],[(100000,(none,[])),(200001,(none,[]))],[]⟩),(20,⟨[(0,false),(6,false),(7,false),(8,false)],[],[(100000,(none,[])),(200001,(none,[]))],[]⟩),(21,⟨[(0,false),(6,false)],[],[(100000,(none,[])),(200001,(none,[]))],[]⟩),(30,⟨[(0,false)],[],[(100000,(none,[])),(200001,(none,[]))],[]⟩)],[(11,⟨[(0,false),(4,false),(51,false)],[],[(4,(none,[])),(100000,(none,[])),(200001,(none,[]))],[]⟩)],[5,20,21,30],[],false,[(100000,(none,[]))],[100000,200001],[(15,[.cl 4 (.a 256) (.s 4)])],[]⟩
def I6:List ResultVar:=[.tmp 2]
def EN(N:RecC):Gam EE:=⟨[⟨68,pt N.n⟩,⟨46,ec N.n⟩],EQT,[⟨69,hY N.n⟩,⟨34,en N⟩,⟨35,de N.n⟩,⟨50,ej N.n⟩,⟨36,dx N.n⟩,⟨61,cK N.n⟩],[]⟩
theorem Gk(N:RecC)(hN:iq N):GOk Try.prog TT EE (EN N):=GOk.cons (yy N.n) (GOk.cons (fx N.n) (GOk.consx (kI N.n) (GOk.consx (gl N hN) (GOk.consx (dA N.n) (GOk.consx (eF N.n) (GOk.consx (dK N.n) (GOk.consx (cR N.n) (GOk.nil dQ))))))))
def wd(c:Code):List It2:=atL 11 c
def wP(x51:Int)(b4:List Bool)(N1:List UInt8)(NZ:Int)(N0:Int)(NY:Nat)(N2:List Vstep):TS EE.T:=⟨187,[(0,.a (.box 100000 0)),(4,.a (.box 4 0)),(51,.a (.d (.int .i64) x51))],[(4,.row .bool b4),(100000,.cs [.d .str N1,.d (.int .i64) NZ,.d (.int .i64) N0,.vec (.nam 7) 200001 NY]),(200001,.vec 200001 (.nam 7) N2)],[]⟩
def wK(c:Code):List It2:=atR 21 c
def wv(x6:UInt8)(N1:List UInt8)(NZ:Int)(N0:Int)(NY:Nat)(N2:List Vstep):TS EE.T:=⟨187,[(0,.a (.box 100000 0)),(6,.a (.d .byte x6))],[(100000,.cs [.d .str N1,.d (.int .i64) NZ,.d (.int .i64) N0,.vec (.nam 7) 200001 NY]),(200001,.vec 200001 (.nam 7) N2)],[]⟩
def xi(c:Code):List It2:=atR 20 c
def xb(x6:UInt8)(x7:Bool)(x8:Bool)(N1:List UInt8)(NZ:Int)(N0:Int)(NY:Nat)(N2:List Vstep):TS EE.T:=⟨187,[(0,.a (.box 100000 0)),(6,.a (.d .byte x6)),(7,.a (.d .bool x7)),(8,.a (.d .bool x8))],[(100000,.cs [.d .str N1,.d (.int .i64) NZ,.d (.int .i64) N0,.vec (.nam 7) 200001 NY]),(200001,.vec 200001 (.nam 7) N2)],[]⟩
def wn(c:Code):List It2:=atR 30 c
def wH(N1:List UInt8)(NZ:Int)(N0:Int)(NY:Nat)(N2:List Vstep):TS EE.T:=⟨187,[(0,.a (.box 100000 0))],[(100000,.cs [.d .str N1,.d (.int .i64) NZ,.d (.int .i64) N0,.vec (.nam 7) 200001 NY]),(200001,.vec 200001 (.nam 7) N2)],[]⟩
def zo(c:Code):List It2:=atR 5 c
def zn(x3:UInt8)(N1:List UInt8)(NZ:Int)(N0:Int)(NY:Nat)(N2:List Vstep):TS EE.T:=⟨187,[(0,.a (.box 100000 0)),(3,.a (.d .byte x3))],[(100000,.cs [.d .str N1,.d (.int .i64) NZ,.d (.int .i64) N0,.vec (.nam 7) 200001 NY]),(200001,.vec 200001 (.nam 7) N2)],[]⟩
def GB(c:Code):List It2:=[.c c]
def Ip(y0_0:List UInt8)(y0_1:Int)(y0_2:Int)(y0_3:Nat)(y1:List Vstep):TS EE.T:=⟨187,[(0,.a (.box 100000 0))],[(100000,.cs [.d .str y0_0,.d (.int .i64) y0_1,.d (.int .i64) y0_2,.vec (.nam 7) 200001 y0_3]),(200001,.vec 200001 (.nam 7) y1)],[]⟩
def xl(c:Code)(f:Int→(List Bool)→(List UInt8)→Int→Int→Nat→(List Vstep)→Option (PR ay))(x51:Int)(b4:List Bool)(N1:List UInt8)(NZ:Int)(N0:Int)(NY:Nat)(N2:List Vstep):Tree (Lf EE.T × Option (PR ay)):=.leaf (.go (wd c) (wP x51 b4 N1 NZ N0 NY N2),f x51 b4 N1 NZ N0 NY N2)
def wm(c:Code)(f:UInt8→(List UInt8)→Int→Int→Nat→(List Vstep)→Option (PR ay))(x6:UInt8)(N1:List UInt8)(NZ:Int)(N0:Int)(NY:Nat)(N2:List Vstep):Tree (Lf EE.T × Option (PR ay)):=.leaf (.go (wK c) (wv x6 N1 NZ N0 NY N2),f x6 N1 NZ N0 NY N2)
def eN(c:Code)(f:UInt8→Bool→Bool→(List UInt8)→Int→Int→Nat→(List Vstep)→Option (PR ay))(x6:UInt8)(x7:Bool)(x8:Bool)(N1:List UInt8)(NZ:Int)(N0:Int)(NY:Nat)(N2:List Vstep):Tree (Lf EE.T × Option (PR ay)):=.leaf (.go (xi c) (xb x6 x7 x8 N1 NZ N0 NY N2),f x6 x7 x8 N1 NZ N0 NY N2)
def wf(c:Code)(f:(List UInt8)→Int→Int→Nat→(List Vstep)→Option (PR ay))(N1:List UInt8)(NZ:Int)(N0:Int)(NY:Nat)(N2:List Vstep):Tree (Lf EE.T × Option (PR ay)):=.leaf (.go (wn c) (wH N1 NZ N0 NY N2),f N1 NZ N0 NY N2)
def AI(c:Code)(f:UInt8→(List UInt8)→Int→Int→Nat→(List Vstep)→Option (PR ay))(x3:UInt8)(N1:List UInt8)(NZ:Int)(N0:Int)(NY:Nat)(N2:List Vstep):Tree (Lf EE.T × Option (PR ay)):=.leaf (.go (zo c) (zn x3 N1 NZ N0 NY N2),f x3 N1 NZ N0 NY N2)
abbrev ol(N:RecC)(r:PR ay)(k:List It2)(s:TS EE.T):Prop:=gB (Y:=TT) EE (EN N) JU I6 (fun u=>u=cB r) k s
def dB(x:PR ay):Tree (Lf EE.T × Option (PR ay)):=.leaf (.done (cB x),some x)
theorem xe{N:RecC}{r:PR ay}:∀ (n:Nat) (x51:Int) (b4:List Bool) (N1:List UInt8) (NZ:Int) (N0:Int) (NY:Nat) (N2:List Vstep),bZ N n x51 b4 N1 NZ N0 NY N2=some r→ol N r (wd (ai 0 Try.f67)) (wP x51 b4 N1 NZ N0 NY N2)
 |0,_,_,_,_,_,_,_,h=>by cases h
 |n+1,x51,b4,N1,NZ,N0,NY,N2,h=>aX (m:=4000) (t:=
  .cond (decide (x51 < 256))
  (
   .bnd (dP 256 x51) fun z13=>
   .bnd (mw b4 (0+z13) true) fun z14=>
   xl (ai 0 Try.f67) (bZ N n) (w64 (x51+1)) z14 N1 NZ N0 NY N2)
  (
   .bnd (j8 256 b4) fun z15=>
   .bnd (aA N.n ({ kind:=0,a:=0,b:=0,set_:=(some z15) }:Vstep) N1 NZ N0 NY N2) fun z16=>
   .sm z16 (fun z17=>
    dB (.ok (false,z17.2.1,z17.2.2.1,z17.2.2.2.1,z17.2.2.2.2.1,z17.2.2.2.2.2))) (fun vz16=>
    dB (.pan vz16)))) (by kernel_rfl) (by kernel_rfl) h (⟨fun _=>fun _=>fun h=>(xe n) _ _ _ _ _ _ _ h,fun _=>fun _=>⟨fun _=>bm (enc:=cB) rfl,fun _=>bm (enc:=cB) rfl⟩⟩)
theorem w7{N:RecC}{r:PR ay}(n:Nat)(x6:UInt8)(N1:List UInt8)(NZ:Int)(N0:Int)(NY:Nat)(N2:List Vstep)(h:cu N n x6 N1 NZ N0 NY N2=some r):ol N r (wK (ai 0 Try.f67)) (wv x6 N1 NZ N0 NY N2):=
 aX (m:=4000) (t:=
 .bnd (aR N.n 1 NZ N1 NZ N0 NY N2) fun z34=>
 .sm z34 (fun z35=>
  .bnd (fL N.n x6) fun z36=>
  .bnd (aA N.n ({ kind:=0,a:=0,b:=0,set_:=z36 }:Vstep) z35.1 (w64 (z35.2.1+1)) z35.2.2.1 z35.2.2.2.1 z35.2.2.2.2) fun z37=>
  .sm z37 (fun z38=>
   dB (.ok (false,z38.2.1,z38.2.2.1,z38.2.2.2.1,z38.2.2.2.2.1,z38.2.2.2.2.2))) (fun vz37=>
   dB (.pan vz37))) (fun vz34=>
  dB (.pan vz34))) (by kernel_rfl) (by kernel_rfl) h (fun _=>⟨fun _=>fun _=>fun _=>⟨fun _=>bm (enc:=cB) rfl,fun _=>bm (enc:=cB) rfl⟩,fun _=>bm (enc:=cB) rfl⟩)
theorem w67i0oR20{N:RecC}{r:PR ay}(n:Nat)(x6:UInt8)(x7:Bool)(x8:Bool)(N1:List UInt8)(NZ:Int)(N0:Int)(NY:Nat)(N2:List Vstep)(h:aC N n x6 x7 x8 N1 NZ N0 NY N2=some r):ol N r (xi (ai 0 Try.f67)) (xb x6 x7 x8 N1 NZ N0 NY N2):=
 aX (m:=4000) (t:=
 .cond (!x7)
 (
  wm (ai 0 Try.f67) (cu N n) x6 N1 NZ N0 NY N2)
 (
  .cond (x8)
  (
   wm (ai 0 Try.f67) (cu N n) x6 N1 NZ N0 NY N2)
  (
   .bnd (fL N.n x6) fun z18=>
   .bnd (aA N.n ({ kind:=0,a:=0,b:=0,set_:=z18 }:Vstep) N1 (w64 (NZ+1)) N0 NY N2) fun z19=>
   .sm z19 (fun z20=>
    dB (.ok (false,z20.2.1,z20.2.2.1,z20.2.2.2.1,z20.2.2.2.2.1,z20.2.2.2.2.2))) (fun vz19=>
    dB (.pan vz19))))) (by kernel_rfl) (by kernel_rfl) h (⟨fun h=>w7 n _ _ _ _ _ _ h,⟨fun h=>w7 n _ _ _ _ _ _ h,fun _=>fun _=>⟨fun _=>bm (enc:=cB) rfl,fun _=>bm (enc:=cB) rfl⟩⟩⟩)
theorem wx{N:RecC}{r:PR ay}(n:Nat)(N1:List UInt8)(NZ:Int)(N0:Int)(NY:Nat)(N2:List Vstep)(h:cv N n N1 NZ N0 NY N2=some r):ol N r (wn (ai 0 Try.f67)) (wH N1 NZ N0 NY N2):=
 aX (m:=4000) (t:=
 .bnd (aA N.n ({ kind:=3,a:=w64 (2 * (w64 (N0+1))),b:=0,set_:=(none:Option (List Bool)) }:Vstep) N1 (w64 (NZ+1)) (w64 (N0+1)) NY N2) fun z21=>
 .sm z21 (fun z22=>
  .bnd (dk N z22.2.1 z22.2.2.1 z22.2.2.2.1 z22.2.2.2.2.1 z22.2.2.2.2.2) fun z23=>
  .sm z23 (fun z24=>
   .bnd (aA N.n ({ kind:=3,a:=w64 ((w64 (2 * (w64 (N0+1))))+1),b:=0,set_:=(none:Option (List Bool)) }:Vstep) z24.2.1 z24.2.2.1 z24.2.2.2.1 z24.2.2.2.2.1 z24.2.2.2.2.2) fun z25=>
   .sm z25 (fun z26=>
    .bnd (bc N.n 41 z26.2.1 z26.2.2.1 z26.2.2.2.1 z26.2.2.2.2.1 z26.2.2.2.2.2) fun z27=>
    .sm z27 (fun z28=>
     .cond (!z28.1)
     (
      .bnd (aR N.n 1 z28.2.2.1 z28.2.1 z28.2.2.1 z28.2.2.2.1 z28.2.2.2.2.1 z28.2.2.2.2.2) fun z29=>
      .sm z29 (fun z30=>
       dB (.ok (z24.1,z30.1,z30.2.1,z30.2.2.1,z30.2.2.2.1,z30.2.2.2.2))) (fun vz29=>
       dB (.pan vz29)))
     (
      dB (.ok (z24.1,z28.2.1,z28.2.2.1,z28.2.2.2.1,z28.2.2.2.2.1,z28.2.2.2.2.2)))) (fun vz27=>
     dB (.pan vz27))) (fun vz25=>
    dB (.pan vz25))) (fun vz23=>
   dB (.pan vz23))) (fun vz21=>
  dB (.pan vz21))) (by kernel_rfl) (by kernel_rfl) h (fun _=>⟨fun _=>fun _=>⟨fun _=>fun _=>⟨fun _=>fun _=>⟨fun _=>⟨fun _=>⟨fun _=>bm (enc:=cB) rfl,fun _=>bm (enc:=cB) rfl⟩,bm (enc:=cB) rfl⟩,fun _=>bm (enc:=cB) rfl⟩,fun _=>bm (enc:=cB) rfl⟩,fun _=>bm (enc:=cB) rfl⟩,fun _=>bm (enc:=cB) rfl⟩)
theorem Av{N:RecC}{r:PR ay}(n:Nat)(x3:UInt8)(N1:List UInt8)(NZ:Int)(N0:Int)(NY:Nat)(N2:List Vstep)(h:cC N n x3 N1 NZ N0 NY N2=some r):ol N r (zo (ai 0 Try.f67)) (zn x3 N1 NZ N0 NY N2):=
 aX (m:=4000) (t:=
 .bnd (fL N.n x3) fun z31=>
 .bnd (aA N.n ({ kind:=0,a:=0,b:=0,set_:=z31 }:Vstep) N1 (w64 (NZ+1)) N0 NY N2) fun z32=>
 .sm z32 (fun z33=>
  dB (.ok (false,z33.2.1,z33.2.2.1,z33.2.2.2.1,z33.2.2.2.2.1,z33.2.2.2.2.2))) (fun vz32=>
  dB (.pan vz32))) (by kernel_rfl) (by kernel_rfl) h (fun _=>fun _=>⟨fun _=>bm (enc:=cB) rfl,fun _=>bm (enc:=cB) rfl⟩)
theorem IF{N:RecC}{r:PR ay}(y0_0:List UInt8)(y0_1:Int)(y0_2:Int)(y0_3:Nat)(y1:List Vstep)(h:bu N y0_0 y0_1 y0_2 y0_3 y1=some r):ol N r (GB (ai 0 Try.f67)) (Ip y0_0 y0_1 y0_2 y0_3 y1):=
 aX (m:=4000) (t:=
 .bnd (ap y0_0 y0_1) fun z1=>
 .cond ((b2i z1)==(b2i 46))
 (
  xl (ai 0 Try.f67) (bZ N N.n) 0 (List.replicate 256 false) y0_0 (w64 (y0_1+1)) y0_2 y0_3 y1)
 (
  .cond ((b2i z1)==(b2i 92))
  (
   .bnd (aP N.n y0_0 (w64 (y0_1+1)) y0_2 y0_3 y1) fun z2=>
   .sm z2 (fun z3=>
    .cond (decide ((b2i z3.1)≥(b2i 97)))
    (
     .cond (decide ((b2i z3.1)≤(b2i 122)))
     (
      eN (ai 0 Try.f67) (aC N N.n) z3.1 z3.2.1 true z3.2.2.1 z3.2.2.2.1 z3.2.2.2.2.1 z3.2.2.2.2.2.1 z3.2.2.2.2.2.2)
     (
      .cond (decide ((b2i z3.1)≥(b2i 65)))
      (
       .cond (decide ((b2i z3.1)≤(b2i 90)))
       (
        eN (ai 0 Try.f67) (aC N N.n) z3.1 z3.2.1 true z3.2.2.1 z3.2.2.2.1 z3.2.2.2.2.1 z3.2.2.2.2.2.1 z3.2.2.2.2.2.2)
       (
        .cond (decide ((b2i z3.1)≥(b2i 48)))
        (
         eN (ai 0 Try.f67) (aC N N.n) z3.1 z3.2.1 (decide ((b2i z3.1)≤(b2i 57))) z3.2.2.1 z3.2.2.2.1 z3.2.2.2.2.1 z3.2.2.2.2.2.1 z3.2.2.2.2.2.2)
        (
         eN (ai 0 Try.f67) (aC N N.n) z3.1 z3.2.1 false z3.2.2.1 z3.2.2.2.1 z3.2.2.2.2.1 z3.2.2.2.2.2.1 z3.2.2.2.2.2.2)))
      (
       .cond (decide ((b2i z3.1)≥(b2i 48)))
       (
        eN (ai 0 Try.f67) (aC N N.n) z3.1 z3.2.1 (decide ((b2i z3.1)≤(b2i 57))) z3.2.2.1 z3.2.2.2.1 z3.2.2.2.2.1 z3.2.2.2.2.2.1 z3.2.2.2.2.2.2)
       (
        eN (ai 0 Try.f67) (aC N N.n) z3.1 z3.2.1 false z3.2.2.1 z3.2.2.2.1 z3.2.2.2.2.1 z3.2.2.2.2.2.1 z3.2.2.2.2.2.2))))
    (
     .cond (decide ((b2i z3.1)≥(b2i 65)))
     (
      .cond (decide ((b2i z3.1)≤(b2i 90)))
      (
       eN (ai 0 Try.f67) (aC N N.n) z3.1 z3.2.1 true z3.2.2.1 z3.2.2.2.1 z3.2.2.2.2.1 z3.2.2.2.2.2.1 z3.2.2.2.2.2.2)
      (
       .cond (decide ((b2i z3.1)≥(b2i 48)))
       (
        eN (ai 0 Try.f67) (aC N N.n) z3.1 z3.2.1 (decide ((b2i z3.1)≤(b2i 57))) z3.2.2.1 z3.2.2.2.1 z3.2.2.2.2.1 z3.2.2.2.2.2.1 z3.2.2.2.2.2.2)
       (
        eN (ai 0 Try.f67) (aC N N.n) z3.1 z3.2.1 false z3.2.2.1 z3.2.2.2.1 z3.2.2.2.2.1 z3.2.2.2.2.2.1 z3.2.2.2.2.2.2)))
     (
      .cond (decide ((b2i z3.1)≥(b2i 48)))
      (
       eN (ai 0 Try.f67) (aC N N.n) z3.1 z3.2.1 (decide ((b2i z3.1)≤(b2i 57))) z3.2.2.1 z3.2.2.2.1 z3.2.2.2.2.1 z3.2.2.2.2.2.1 z3.2.2.2.2.2.2)
      (
       eN (ai 0 Try.f67) (aC N N.n) z3.1 z3.2.1 false z3.2.2.1 z3.2.2.2.1 z3.2.2.2.2.1 z3.2.2.2.2.2.1 z3.2.2.2.2.2.2)))) (fun vz2=>
    dB (.pan vz2)))
  (
   .cond ((b2i z1)==(b2i 91))
   (
    .bnd (cN N.n y0_0 (w64 (y0_1+1)) y0_2 y0_3 y1) fun z4=>
    .sm z4 (fun z5=>
     .bnd (aA N.n ({ kind:=0,a:=0,b:=0,set_:=z5.1 }:Vstep) z5.2.1 z5.2.2.1 z5.2.2.2.1 z5.2.2.2.2.1 z5.2.2.2.2.2) fun z6=>
     .sm z6 (fun z7=>
      dB (.ok (false,z7.2.1,z7.2.2.1,z7.2.2.2.1,z7.2.2.2.2.1,z7.2.2.2.2.2))) (fun vz6=>
      dB (.pan vz6))) (fun vz4=>
     dB (.pan vz4)))
   (
    .cond ((b2i z1)==(b2i 40))
    (
     .cond (y0_2==9)
     (
      .bnd (aR N.n 2 y0_1 y0_0 y0_1 y0_2 y0_3 y1) fun z8=>
      .sm z8 (fun z9=>
       wf (ai 0 Try.f67) (cv N N.n) z9.1 z9.2.1 z9.2.2.1 z9.2.2.2.1 z9.2.2.2.2) (fun vz8=>
       dB (.pan vz8)))
     (
      wf (ai 0 Try.f67) (cv N N.n) y0_0 y0_1 y0_2 y0_3 y1))
    (
     .bnd (cq N.n ([42,43,63,41,124,93] :List UInt8) z1) fun z10=>
     .cond (decide (z10≥0))
     (
      .bnd (aR N.n 1 y0_1 y0_0 y0_1 y0_2 y0_3 y1) fun z11=>
      .sm z11 (fun z12=>
       AI (ai 0 Try.f67) (cC N N.n) z1 z12.1 z12.2.1 z12.2.2.1 z12.2.2.2.1 z12.2.2.2.2) (fun vz11=>
       dB (.pan vz11)))
     (
      AI (ai 0 Try.f67) (cC N N.n) z1 y0_0 y0_1 y0_2 y0_3 y1)))))) (by kernel_rfl) (by kernel_rfl) h (fun _=>⟨fun h=>xe N.n _ _ _ _ _ _ _ h,⟨fun _=>⟨fun _=>⟨⟨fun h=>w67i0oR20 N.n _ _ _ _ _ _ _ _ h,⟨⟨fun h=>w67i0oR20 N.n _ _ _ _ _ _ _ _ h,⟨fun h=>w67i0oR20 N.n _ _ _ _ _ _ _ _ h,fun h=>w67i0oR20 N.n _ _ _ _ _ _ _ _ h⟩⟩,⟨fun h=>w67i0oR20 N.n _ _ _ _ _ _ _ _ h,fun h=>w67i0oR20 N.n _ _ _ _ _ _ _ _ h⟩⟩⟩,⟨⟨fun h=>w67i0oR20 N.n _ _ _ _ _ _ _ _ h,⟨fun h=>w67i0oR20 N.n _ _ _ _ _ _ _ _ h,fun h=>w67i0oR20 N.n _ _ _ _ _ _ _ _ h⟩⟩,⟨fun h=>w67i0oR20 N.n _ _ _ _ _ _ _ _ h,fun h=>w67i0oR20 N.n _ _ _ _ _ _ _ _ h⟩⟩⟩,fun _=>bm (enc:=cB) rfl⟩,⟨fun _=>⟨fun _=>fun _=>⟨fun _=>bm (enc:=cB) rfl,fun _=>bm (enc:=cB) rfl⟩,fun _=>bm (enc:=cB) rfl⟩,⟨⟨fun _=>⟨fun _=>fun h=>wx N.n _ _ _ _ _ h,fun _=>bm (enc:=cB) rfl⟩,fun h=>wx N.n _ _ _ _ _ h⟩,fun _=>⟨fun _=>⟨fun _=>fun h=>Av N.n _ _ _ _ _ _ h,fun _=>bm (enc:=cB) rfl⟩,fun h=>Av N.n _ _ _ _ _ _ h⟩⟩⟩⟩⟩)
def Dy(y0_0:List UInt8)(y0_1:Int)(y0_2:Int)(y0_3:Nat)(y1:List Vstep):List (TV EE.T):=[.a (.box 100000 0)]
def yN(y0_0:List UInt8)(y0_1:Int)(y0_2:Int)(y0_3:Nat)(y1:List Vstep):List (Nat × TB EE.T):=[(100000,.cs [.d .str y0_0,.d (.int .i64) y0_1,.d (.int .i64) y0_2,.vec (.nam 7) 200001 y0_3]),(200001,.vec 200001 (.nam 7) y1)]
theorem kD{N:RecC}(hN:iq N)(y0_0:List UInt8)(y0_1:Int)(y0_2:Int)(y0_3:Nat)(y1:List Vstep){r:PR ay}(h:bu N y0_0 y0_1 y0_2 y0_3 y1=some r)(ρ:Rn)(hi:Inj ρ (yN y0_0 y0_1 y0_2 y0_3 y1)):aW Try.prog 67 ((Dy y0_0 y0_1 y0_2 y0_3 y1).map (TV.to EE.toEnc ρ)) (hTo EE.toEnc ρ (yN y0_0 y0_1 y0_2 y0_3 y1)) (dw EE ρ fun u=>u=cB r):=
 fd (ai 0 Try.f67) 187 mixed (Gk N hN) Try.func67 (by kernel_rfl) rfl rfl rfl rfl (IF y0_0 y0_1 y0_2 y0_3 y1 h) ρ hi
def gF(N:RecC)(us:List (TV EE.T))(hs:List (Nat × TB EE.T)):XR EE.T:=
 gdX (fG us 1) <|
 bnX (aB us 0) fun i0=>
 bnX (bC hs i0) fun l0=>
 gdX (fG l0 4) <|
 bnX (cD .str l0 0) fun y0_0=>
 bnX (cD (.int .i64) l0 1) fun y0_1=>
 bnX (cD (.int .i64) l0 2) fun y0_2=>
 bnX (cVi (.nam 7) l0 3) fun i1=>
 bnX (cVn (.nam 7) l0 3) fun y0_3=>
 bnX (bV (.nam 7) hs i1) fun y1=>
 gdX (ci hs [i0,i1]) <|
 gdX (il [i0,i1]) <|
 .mv (bu N y0_0 y0_1 y0_2 y0_3 y1) [i0,i1] (mvL [i0,i1] [100000,200001]) 0 (dW i0 i1) (te i0 i1)
theorem j5(N:RecC)(hN:iq N):XOk Try.prog EE 67 (gF N):=fun us hs=>
 ba fun h1=>aE fun i0 h2=>aE fun l0 h3=>ba fun h4=>aE fun y0_0 h5=>aE fun y0_1 h6=>aE fun y0_2 h7=>aE fun i1 h8=>aE fun y0_3 h9=>aE fun y1 h10=>ba fun h11=>ba fun h12=>fun p hz ρ hi=>gc (ex:=[]) (ks:=[100000,200001]) (us':=Dy y0_0 y0_1 y0_2 y0_3 y1) (h0:=yN y0_0 y0_1 y0_2 y0_3 y1) (ρ':=m8 ρ [i0,i1]) (uc:=dW 100000 200001) (u:=dW i0 i1) (hc:=te 100000 200001) (h:=te i0 i1) hi h11 (by kernel_rfl) ⟨i9 h2 (by kernel_rfl),cA h1⟩ ⟨(by kernel_rfl),lr h3 ⟨dp h5,dp h6,dp h7,iA h8 h9 (by kernel_rfl),cA h4⟩,(by kernel_rfl),jQ h10 (by kernel_rfl),trivial⟩ ⟨.inr rfl,.inl rfl,trivial⟩ h12 (fun hj=>kD hN y0_0 y0_1 y0_2 y0_3 y1 hz _ hj) (fun z=>⟨by kernel_rfl,by kernel_rfl,by kernel_rfl,by kernel_rfl⟩)
def dL(i0:Nat)(i1:Nat)(r:aI):TV EE.T:=.a (.d .bool r.1)
def sH(i0:Nat)(i1:Nat)(r:aI):List (Nat × TB EE.T):=[(i0,.cs [.d .str r.2.1,.d (.int .i64) r.2.2.1,.d (.int .i64) r.2.2.2.1,.vec (.nam 7) i1 r.2.2.2.2.1]),(i1,.vec i1 (.nam 7) r.2.2.2.2.2)]
def dt(r:PR aI):RL EE.T:=nr (dL 100000 200001) (sH 100000 200001) r
def Jh:Lvs:=⟨[(2,⟨[(0,false),(3,false)],[],[(100000,(none,[])),(200001,(none,[]))],[]⟩),(7,⟨[(0,false),(3,false),(4,false),(5,false),(6,false)],[],[(100000,(none,[])),(200001,(none,[]))],[]⟩),(9,⟨[(0,false),(3,false),(6,false)],[],[(100000,(none,[])),(200001,(none,[]))],[]⟩),(14,⟨[(0,false),(3,false),(8,false),(9,false)],[],[(100000,(none,[])),(200001,(none,[]))],[]⟩),(17,⟨[(0,false),(9,false)],[],[(100000,(none,[])),(200001,(none,[]))],[]⟩),(22,⟨[(0,false),(10,false)],[],[(100000,(none,[])),(200001,(none,[]))],[]⟩),(25,⟨[(0,false),(3,false),(8,false),(11,false)],[],[(100000,(none,[])),(200001,(none,[]))],[]⟩),(27,⟨[(0,false),(11,false)],[],[(100000,(none,[])),(200001,(none,[]))],[]⟩)],[],[7,9],[],false,[(100000,(none,[]))],[100000,200001],[],[]⟩
def KU:List ResultVar:=[.tmp 2]
def H7(N:RecC):Gam EE:=⟨[],EQT,[⟨51,e9 N.n⟩,⟨35,de N.n⟩,⟨67,gF N⟩,⟨52,fe N.n⟩,⟨36,dx N.n⟩,⟨61,cK N.n⟩],[]⟩
theorem FD(N:RecC)(hN:iq N):GOk Try.prog TT EE (H7 N):=GOk.consx (gt N.n) (GOk.consx (dA N.n) (GOk.consx (j5 N hN) (GOk.consx (gp N.n) (GOk.consx (dK N.n) (GOk.consx (cR N.n) (GOk.nil dQ))))))
def AG(c:Code):List It2:=atR 9 c
def Ay(x3:Int)(x6:UInt8)(N1:List UInt8)(NZ:Int)(N0:Int)(NY:Nat)(N2:List Vstep):TS EE.T:=⟨164,[(0,.a (.box 100000 0)),(3,.a (.d (.int .i64) x3)),(6,.a (.d .byte x6))],[(100000,.cs [.d .str N1,.d (.int .i64) NZ,.d (.int .i64) N0,.vec (.nam 7) 200001 NY]),(200001,.vec 200001 (.nam 7) N2)],[]⟩
def zV(c:Code):List It2:=atR 7 c
def zK(x3:Int)(x4:Bool)(x5:Bool)(x6:UInt8)(N1:List UInt8)(NZ:Int)(N0:Int)(NY:Nat)(N2:List Vstep):TS EE.T:=⟨164,[(0,.a (.box 100000 0)),(3,.a (.d (.int .i64) x3)),(4,.a (.d .bool x4)),(5,.a (.d .bool x5)),(6,.a (.d .byte x6))],[(100000,.cs [.d .str N1,.d (.int .i64) NZ,.d (.int .i64) N0,.vec (.nam 7) 200001 NY]),(200001,.vec 200001 (.nam 7) N2)],[]⟩
def E0(c:Code):List It2:=[.c c]
def EK(y0_0:List UInt8)(y0_1:Int)(y0_2:Int)(y0_3:Nat)(y1:List Vstep):TS EE.T:=⟨164,[(0,.a (.box 100000 0))],[(100000,.cs [.d .str y0_0,.d (.int .i64) y0_1,.d (.int .i64) y0_2,.vec (.nam 7) 200001 y0_3]),(200001,.vec 200001 (.nam 7) y1)],[]⟩
def pN(c:Code)(f:Int→UInt8→(List UInt8)→Int→Int→Nat→(List Vstep)→Option (PR aI))(x3:Int)(x6:UInt8)(N1:List UInt8)(NZ:Int)(N0:Int)(NY:Nat)(N2:List Vstep):Tree (Lf EE.T × Option (PR aI)):=.leaf (.go (AG c) (Ay x3 x6 N1 NZ N0 NY N2),f x3 x6 N1 NZ N0 NY N2)
def ut(c:Code)(f:Int→Bool→Bool→UInt8→(List UInt8)→Int→Int→Nat→(List Vstep)→Option (PR aI))(x3:Int)(x4:Bool)(x5:Bool)(x6:UInt8)(N1:List UInt8)(NZ:Int)(N0:Int)(NY:Nat)(N2:List Vstep):Tree (Lf EE.T × Option (PR aI)):=.leaf (.go (zV c) (zK x3 x4 x5 x6 N1 NZ N0 NY N2),f x3 x4 x5 x6 N1 NZ N0 NY N2)
abbrev yT(N:RecC)(r:PR aI)(k:List It2)(s:TS EE.T):Prop:=gB (Y:=TT) EE (H7 N) Jh KU (fun u=>u=dt r) k s
def eJ(x:PR aI):Tree (Lf EE.T × Option (PR aI)):=.leaf (.done (dt x),some x)
theorem qz{N:RecC}{r:PR aI}(n:Nat)(x3:Int)(x6:UInt8)(N1:List UInt8)(NZ:Int)(N0:Int)(NY:Nat)(N2:List Vstep)(h:bi N n x3 x6 N1 NZ N0 NY N2=some r):yT N r (AG (ai 0 Try.f62)) (Ay x3 x6 N1 NZ N0 NY N2):=
 aX (m:=4000) (t:=
 .bnd (bR N.n x3 N1 (w64 (NZ+1)) N0 NY N2) fun z8=>
 .sm z8 (fun z9=>
  .cond ((b2i x6)==(b2i 42))
  (
   .bnd (aA N.n ({ kind:=1,a:=0,b:=0,set_:=(none:Option (List Bool)) }:Vstep) z9.2.1 z9.2.2.1 z9.2.2.2.1 z9.2.2.2.2.1 z9.2.2.2.2.2) fun z10=>
   .sm z10 (fun z11=>
    .bnd (dP z11.2.2.2.2.1 z11.1) fun z12=>
    .bnd (z11.2.2.2.2.2[z12]?) fun z13=>
    .bnd (bk N.n z9.1 x3 z11.2.1 z11.2.2.1 z11.2.2.2.1 z11.2.2.2.2.1 (List.set z11.2.2.2.2.2 z12 ({ kind:=z13.kind,a:=(z11.2.2.2.2.1:Int),b:=z13.b,set_:=z13.set_ }:Vstep))) fun z14=>
    .sm z14 (fun z15=>
     .bnd (aA N.n ({ kind:=2,a:=z11.1,b:=0,set_:=(none:Option (List Bool)) }:Vstep) z15.1 z15.2.1 z15.2.2.1 z15.2.2.2.1 z15.2.2.2.2) fun z16=>
     .sm z16 (fun z17=>
      .bnd (dP z17.2.2.2.2.1 z11.1) fun z18=>
      .bnd (z17.2.2.2.2.2[z18]?) fun z19=>
      eJ (.ok (true,z17.2.1,z17.2.2.1,z17.2.2.2.1,z17.2.2.2.2.1,List.set z17.2.2.2.2.2 z18 ({ kind:=z19.kind,a:=z19.a,b:=(z17.2.2.2.2.1:Int),set_:=z19.set_ }:Vstep)))) (fun vz16=>
      eJ (.pan vz16))) (fun vz14=>
     eJ (.pan vz14))) (fun vz10=>
    eJ (.pan vz10)))
  (
   .cond ((b2i x6)==(b2i 43))
   (
    .bnd (bk N.n z9.1 x3 z9.2.1 z9.2.2.1 z9.2.2.2.1 z9.2.2.2.2.1 z9.2.2.2.2.2) fun z20=>
    .sm z20 (fun z21=>
     .bnd (aA N.n ({ kind:=1,a:=x3,b:=0,set_:=(none:Option (List Bool)) }:Vstep) z21.1 z21.2.1 z21.2.2.1 z21.2.2.2.1 z21.2.2.2.2) fun z22=>
     .sm z22 (fun z23=>
      .bnd (dP z23.2.2.2.2.1 z23.1) fun z24=>
      .bnd (z23.2.2.2.2.2[z24]?) fun z25=>
      eJ (.ok (false,z23.2.1,z23.2.2.1,z23.2.2.2.1,z23.2.2.2.2.1,List.set z23.2.2.2.2.2 z24 ({ kind:=z25.kind,a:=z25.a,b:=(z23.2.2.2.2.1:Int),set_:=z25.set_ }:Vstep)))) (fun vz22=>
      eJ (.pan vz22))) (fun vz20=>
     eJ (.pan vz20)))
   (
    .bnd (aA N.n ({ kind:=1,a:=0,b:=0,set_:=(none:Option (List Bool)) }:Vstep) z9.2.1 z9.2.2.1 z9.2.2.2.1 z9.2.2.2.2.1 z9.2.2.2.2.2) fun z26=>
    .sm z26 (fun z27=>
     .bnd (dP z27.2.2.2.2.1 z27.1) fun z28=>
     .bnd (z27.2.2.2.2.2[z28]?) fun z29=>
     .bnd (bk N.n z9.1 x3 z27.2.1 z27.2.2.1 z27.2.2.2.1 z27.2.2.2.2.1 (List.set z27.2.2.2.2.2 z28 ({ kind:=z29.kind,a:=(z27.2.2.2.2.1:Int),b:=z29.b,set_:=z29.set_ }:Vstep))) fun z30=>
     .sm z30 (fun z31=>
      .bnd (dP z31.2.2.2.1 z27.1) fun z32=>
      .bnd (z31.2.2.2.2[z32]?) fun z33=>
      eJ (.ok (true,z31.1,z31.2.1,z31.2.2.1,z31.2.2.2.1,List.set z31.2.2.2.2 z32 ({ kind:=z33.kind,a:=z33.a,b:=(z31.2.2.2.1:Int),set_:=z33.set_ }:Vstep)))) (fun vz30=>
      eJ (.pan vz30))) (fun vz26=>
     eJ (.pan vz26))))) (fun vz8=>
  eJ (.pan vz8))) (by kernel_rfl) (by kernel_rfl) h (fun _=>⟨fun _=>⟨fun _=>⟨fun _=>fun _=>fun _=>fun _=>⟨fun _=>fun _=>⟨fun _=>fun _=>fun _=>bm (enc:=dt) rfl,fun _=>bm (enc:=dt) rfl⟩,fun _=>bm (enc:=dt) rfl⟩,fun _=>bm (enc:=dt) rfl⟩,⟨fun _=>⟨fun _=>fun _=>⟨fun _=>fun _=>fun _=>bm (enc:=dt) rfl,fun _=>bm (enc:=dt) rfl⟩,fun _=>bm (enc:=dt) rfl⟩,fun _=>⟨fun _=>fun _=>fun _=>fun _=>⟨fun _=>fun _=>fun _=>bm (enc:=dt) rfl,fun _=>bm (enc:=dt) rfl⟩,fun _=>bm (enc:=dt) rfl⟩⟩⟩,fun _=>bm (enc:=dt) rfl⟩)
theorem uI{N:RecC}{r:PR aI}(n:Nat)(x3:Int)(x4:Bool)(x5:Bool)(x6:UInt8)(N1:List UInt8)(NZ:Int)(N0:Int)(NY:Nat)(N2:List Vstep)(h:a6 N n x3 x4 x5 x6 N1 NZ N0 NY N2=some r):yT N r (zV (ai 0 Try.f62)) (zK x3 x4 x5 x6 N1 NZ N0 NY N2):=
 aX (m:=4000) (t:=
 .cond (x5)
 (
  .cond (x4)
  (
   .cond ((b2i x6) != (b2i 63))
   (
    .bnd (aR N.n 4 NZ N1 NZ N0 NY N2) fun z6=>
    .sm z6 (fun z7=>
     pN (ai 0 Try.f62) (bi N n) x3 x6 z7.1 z7.2.1 z7.2.2.1 z7.2.2.2.1 z7.2.2.2.2) (fun vz6=>
     eJ (.pan vz6)))
   (
    pN (ai 0 Try.f62) (bi N n) x3 x6 N1 NZ N0 NY N2))
  (
   pN (ai 0 Try.f62) (bi N n) x3 x6 N1 NZ N0 NY N2))
 (
  pN (ai 0 Try.f62) (bi N n) x3 x6 N1 NZ N0 NY N2)) (by kernel_rfl) (by kernel_rfl) h (⟨⟨⟨fun _=>⟨fun _=>fun h=>qz n _ _ _ _ _ _ _ h,fun _=>bm (enc:=dt) rfl⟩,fun h=>qz n _ _ _ _ _ _ _ h⟩,fun h=>qz n _ _ _ _ _ _ _ h⟩,fun h=>qz n _ _ _ _ _ _ _ h⟩)
theorem GL{N:RecC}{r:PR aI}(y0_0:List UInt8)(y0_1:Int)(y0_2:Int)(y0_3:Nat)(y1:List Vstep)(h:cx N y0_0 y0_1 y0_2 y0_3 y1=some r):yT N r (E0 (ai 0 Try.f62)) (EK y0_0 y0_1 y0_2 y0_3 y1):=
 aX (m:=4000) (t:=
 .bnd (ap y0_0 y0_1) fun z1=>
 .bnd (bu N y0_0 y0_1 y0_2 y0_3 y1) fun z2=>
 .sm z2 (fun z3=>
  .bnd (aP N.n z3.2.1 z3.2.2.1 z3.2.2.2.1 z3.2.2.2.2.1 z3.2.2.2.2.2) fun z4=>
  .sm z4 (fun z5=>
   .cond (!z5.2.1)
   (
    eJ (.ok (z3.1,z5.2.2.1,z5.2.2.2.1,z5.2.2.2.2.1,z5.2.2.2.2.2.1,z5.2.2.2.2.2.2)))
   (
    .cond ((b2i z5.1) != (b2i 42))
    (
     .cond ((b2i z5.1) != (b2i 43))
     (
      .cond ((b2i z5.1) != (b2i 63))
      (
       eJ (.ok (z3.1,z5.2.2.1,z5.2.2.2.1,z5.2.2.2.2.1,z5.2.2.2.2.2.1,z5.2.2.2.2.2.2)))
      (
       ut (ai 0 Try.f62) (a6 N N.n) (y0_3:Int) ((b2i z1)==(b2i 40)) z3.1 z5.1 z5.2.2.1 z5.2.2.2.1 z5.2.2.2.2.1 z5.2.2.2.2.2.1 z5.2.2.2.2.2.2))
     (
      ut (ai 0 Try.f62) (a6 N N.n) (y0_3:Int) ((b2i z1)==(b2i 40)) z3.1 z5.1 z5.2.2.1 z5.2.2.2.1 z5.2.2.2.2.1 z5.2.2.2.2.2.1 z5.2.2.2.2.2.2))
    (
     ut (ai 0 Try.f62) (a6 N N.n) (y0_3:Int) ((b2i z1)==(b2i 40)) z3.1 z5.1 z5.2.2.1 z5.2.2.2.1 z5.2.2.2.2.1 z5.2.2.2.2.2.1 z5.2.2.2.2.2.2))) (fun vz4=>
   eJ (.pan vz4))) (fun vz2=>
  eJ (.pan vz2))) (by kernel_rfl) (by kernel_rfl) h (fun _=>fun _=>⟨fun _=>fun _=>⟨fun _=>⟨bm (enc:=dt) rfl,⟨⟨⟨bm (enc:=dt) rfl,fun h=>uI N.n _ _ _ _ _ _ _ _ _ h⟩,fun h=>uI N.n _ _ _ _ _ _ _ _ _ h⟩,fun h=>uI N.n _ _ _ _ _ _ _ _ _ h⟩⟩,fun _=>bm (enc:=dt) rfl⟩,fun _=>bm (enc:=dt) rfl⟩)
def Ds(y0_0:List UInt8)(y0_1:Int)(y0_2:Int)(y0_3:Nat)(y1:List Vstep):List (TV EE.T):=[.a (.box 100000 0)]
def xQ(y0_0:List UInt8)(y0_1:Int)(y0_2:Int)(y0_3:Nat)(y1:List Vstep):List (Nat × TB EE.T):=[(100000,.cs [.d .str y0_0,.d (.int .i64) y0_1,.d (.int .i64) y0_2,.vec (.nam 7) 200001 y0_3]),(200001,.vec 200001 (.nam 7) y1)]
theorem ke{N:RecC}(hN:iq N)(y0_0:List UInt8)(y0_1:Int)(y0_2:Int)(y0_3:Nat)(y1:List Vstep){r:PR aI}(h:cx N y0_0 y0_1 y0_2 y0_3 y1=some r)(ρ:Rn)(hi:Inj ρ (xQ y0_0 y0_1 y0_2 y0_3 y1)):aW Try.prog 62 ((Ds y0_0 y0_1 y0_2 y0_3 y1).map (TV.to EE.toEnc ρ)) (hTo EE.toEnc ρ (xQ y0_0 y0_1 y0_2 y0_3 y1)) (dw EE ρ fun u=>u=dt r):=
 fd (ai 0 Try.f62) 164 mixed (FD N hN) Try.func62 (by kernel_rfl) rfl rfl rfl rfl (GL y0_0 y0_1 y0_2 y0_3 y1 h) ρ hi
def gk(N:RecC)(us:List (TV EE.T))(hs:List (Nat × TB EE.T)):XR EE.T:=
 gdX (fG us 1) <|
 bnX (aB us 0) fun i0=>
 bnX (bC hs i0) fun l0=>
 gdX (fG l0 4) <|
 bnX (cD .str l0 0) fun y0_0=>
 bnX (cD (.int .i64) l0 1) fun y0_1=>
 bnX (cD (.int .i64) l0 2) fun y0_2=>
 bnX (cVi (.nam 7) l0 3) fun i1=>
 bnX (cVn (.nam 7) l0 3) fun y0_3=>
 bnX (bV (.nam 7) hs i1) fun y1=>
 gdX (ci hs [i0,i1]) <|
 gdX (il [i0,i1]) <|
 .mv (cx N y0_0 y0_1 y0_2 y0_3 y1) [i0,i1] (mvL [i0,i1] [100000,200001]) 0 (dL i0 i1) (sH i0 i1)
theorem jH(N:RecC)(hN:iq N):XOk Try.prog EE 62 (gk N):=fun us hs=>
 ba fun h1=>aE fun i0 h2=>aE fun l0 h3=>ba fun h4=>aE fun y0_0 h5=>aE fun y0_1 h6=>aE fun y0_2 h7=>aE fun i1 h8=>aE fun y0_3 h9=>aE fun y1 h10=>ba fun h11=>ba fun h12=>fun p hz ρ hi=>gc (ex:=[]) (ks:=[100000,200001]) (us':=Ds y0_0 y0_1 y0_2 y0_3 y1) (h0:=xQ y0_0 y0_1 y0_2 y0_3 y1) (ρ':=m8 ρ [i0,i1]) (uc:=dL 100000 200001) (u:=dL i0 i1) (hc:=sH 100000 200001) (h:=sH i0 i1) hi h11 (by kernel_rfl) ⟨i9 h2 (by kernel_rfl),cA h1⟩ ⟨(by kernel_rfl),lr h3 ⟨dp h5,dp h6,dp h7,iA h8 h9 (by kernel_rfl),cA h4⟩,(by kernel_rfl),jQ h10 (by kernel_rfl),trivial⟩ ⟨.inr rfl,.inl rfl,trivial⟩ h12 (fun hj=>ke hN y0_0 y0_1 y0_2 y0_3 y1 hz _ hj) (fun z=>⟨by kernel_rfl,by kernel_rfl,by kernel_rfl,by kernel_rfl⟩)
def ef(i0:Nat)(i1:Nat)(r:bf):TV EE.T:=.a (.d .bool r.1)
def sV(i0:Nat)(i1:Nat)(r:bf):List (Nat × TB EE.T):=[(i0,.cs [.d .str r.2.1,.d (.int .i64) r.2.2.1,.d (.int .i64) r.2.2.2.1,.vec (.nam 7) i1 r.2.2.2.2.1]),(i1,.vec i1 (.nam 7) r.2.2.2.2.2)]
def iR(r:PR bf):RL EE.T:=nr (ef 100000 200001) (sV 100000 200001) r
def Jt:Lvs:=⟨[],[(2,⟨[(0,false),(3,false)],[],[(100000,(none,[])),(200001,(none,[]))],[]⟩)],[],[],false,[(100000,(none,[]))],[100000,200001],[],[]⟩
def JW:List ResultVar:=[.tmp 2]
def GH(N:RecC):Gam EE:=⟨[],EQT,[⟨62,gk N⟩,⟨61,cK N.n⟩],[]⟩
theorem IM(N:RecC)(hN:iq N):GOk Try.prog TT EE (GH N):=GOk.consx (jH N hN) (GOk.consx (cR N.n) (GOk.nil dQ))
def zc(c:Code):List It2:=atL 2 c
def AN(x3:Bool)(N1:List UInt8)(NZ:Int)(N0:Int)(NY:Nat)(N2:List Vstep):TS EE.T:=⟨25,[(0,.a (.box 100000 0)),(3,.a (.d .bool x3))],[(100000,.cs [.d .str N1,.d (.int .i64) NZ,.d (.int .i64) N0,.vec (.nam 7) 200001 NY]),(200001,.vec 200001 (.nam 7) N2)],[]⟩
def Hu(c:Code):List It2:=[.c c]
def Fl(y0_0:List UInt8)(y0_1:Int)(y0_2:Int)(y0_3:Nat)(y1:List Vstep):TS EE.T:=⟨25,[(0,.a (.box 100000 0))],[(100000,.cs [.d .str y0_0,.d (.int .i64) y0_1,.d (.int .i64) y0_2,.vec (.nam 7) 200001 y0_3]),(200001,.vec 200001 (.nam 7) y1)],[]⟩
def uN(c:Code)(f:Bool→(List UInt8)→Int→Int→Nat→(List Vstep)→Option (PR bf))(x3:Bool)(N1:List UInt8)(NZ:Int)(N0:Int)(NY:Nat)(N2:List Vstep):Tree (Lf EE.T × Option (PR bf)):=.leaf (.go (zc c) (AN x3 N1 NZ N0 NY N2),f x3 N1 NZ N0 NY N2)
abbrev CB(N:RecC)(r:PR bf)(k:List It2)(s:TS EE.T):Prop:=gB (Y:=TT) EE (GH N) Jt JW (fun u=>u=iR r) k s
def qj(x:PR bf):Tree (Lf EE.T × Option (PR bf)):=.leaf (.done (iR x),some x)
theorem tS{N:RecC}{r:PR bf}:∀ (n:Nat) (x3:Bool) (N1:List UInt8) (NZ:Int) (N0:Int) (NY:Nat) (N2:List Vstep),bo N n x3 N1 NZ N0 NY N2=some r→CB N r (zc (ai 0 Try.f49)) (AN x3 N1 NZ N0 NY N2)
 |0,_,_,_,_,_,_,h=>by cases h
 |n+1,x3,N1,NZ,N0,NY,N2,h=>aX (m:=4000) (t:=
  .bnd (aP N.n N1 NZ N0 NY N2) fun z1=>
  .sm z1 (fun z2=>
   .cond (!z2.2.1)
   (
    qj (.ok (x3,z2.2.2.1,z2.2.2.2.1,z2.2.2.2.2.1,z2.2.2.2.2.2.1,z2.2.2.2.2.2.2)))
   (
    .cond ((b2i z2.1)==(b2i 124))
    (
     qj (.ok (x3,z2.2.2.1,z2.2.2.2.1,z2.2.2.2.2.1,z2.2.2.2.2.2.1,z2.2.2.2.2.2.2)))
    (
     .cond ((b2i z2.1)==(b2i 41))
     (
      qj (.ok (x3,z2.2.2.1,z2.2.2.2.1,z2.2.2.2.2.1,z2.2.2.2.2.2.1,z2.2.2.2.2.2.2)))
     (
      .bnd (cx N z2.2.2.1 z2.2.2.2.1 z2.2.2.2.2.1 z2.2.2.2.2.2.1 z2.2.2.2.2.2.2) fun z3=>
      .sm z3 (fun z4=>
       .cond (!z4.1)
       (
        uN (ai 0 Try.f49) (bo N n) false z4.2.1 z4.2.2.1 z4.2.2.2.1 z4.2.2.2.2.1 z4.2.2.2.2.2)
       (
        uN (ai 0 Try.f49) (bo N n) x3 z4.2.1 z4.2.2.1 z4.2.2.2.1 z4.2.2.2.2.1 z4.2.2.2.2.2)) (fun vz3=>
       qj (.pan vz3)))))) (fun vz1=>
   qj (.pan vz1))) (by kernel_rfl) (by kernel_rfl) h (fun _=>⟨fun _=>⟨bm (enc:=iR) rfl,⟨bm (enc:=iR) rfl,⟨bm (enc:=iR) rfl,fun _=>⟨fun _=>⟨fun h=>(tS n) _ _ _ _ _ _ h,fun h=>(tS n) _ _ _ _ _ _ h⟩,fun _=>bm (enc:=iR) rfl⟩⟩⟩⟩,fun _=>bm (enc:=iR) rfl⟩)
theorem FC{N:RecC}{r:PR bf}(y0_0:List UInt8)(y0_1:Int)(y0_2:Int)(y0_3:Nat)(y1:List Vstep)(h:dc N y0_0 y0_1 y0_2 y0_3 y1=some r):CB N r (Hu (ai 0 Try.f49)) (Fl y0_0 y0_1 y0_2 y0_3 y1):=
 aX (m:=4000) (t:=
 uN (ai 0 Try.f49) (bo N N.n) true y0_0 y0_1 y0_2 y0_3 y1) (by kernel_rfl) (by kernel_rfl) h (fun h=>tS N.n _ _ _ _ _ _ h)
def Cv(y0_0:List UInt8)(y0_1:Int)(y0_2:Int)(y0_3:Nat)(y1:List Vstep):List (TV EE.T):=[.a (.box 100000 0)]
def yB(y0_0:List UInt8)(y0_1:Int)(y0_2:Int)(y0_3:Nat)(y1:List Vstep):List (Nat × TB EE.T):=[(100000,.cs [.d .str y0_0,.d (.int .i64) y0_1,.d (.int .i64) y0_2,.vec (.nam 7) 200001 y0_3]),(200001,.vec 200001 (.nam 7) y1)]
theorem kX{N:RecC}(hN:iq N)(y0_0:List UInt8)(y0_1:Int)(y0_2:Int)(y0_3:Nat)(y1:List Vstep){r:PR bf}(h:dc N y0_0 y0_1 y0_2 y0_3 y1=some r)(ρ:Rn)(hi:Inj ρ (yB y0_0 y0_1 y0_2 y0_3 y1)):aW Try.prog 49 ((Cv y0_0 y0_1 y0_2 y0_3 y1).map (TV.to EE.toEnc ρ)) (hTo EE.toEnc ρ (yB y0_0 y0_1 y0_2 y0_3 y1)) (dw EE ρ fun u=>u=iR r):=
 fd (ai 0 Try.f49) 25 mixed (IM N hN) Try.func49 (by kernel_rfl) rfl rfl rfl rfl (FC y0_0 y0_1 y0_2 y0_3 y1 h) ρ hi
def gZ(N:RecC)(us:List (TV EE.T))(hs:List (Nat × TB EE.T)):XR EE.T:=
 gdX (fG us 1) <|
 bnX (aB us 0) fun i0=>
 bnX (bC hs i0) fun l0=>
 gdX (fG l0 4) <|
 bnX (cD .str l0 0) fun y0_0=>
 bnX (cD (.int .i64) l0 1) fun y0_1=>
 bnX (cD (.int .i64) l0 2) fun y0_2=>
 bnX (cVi (.nam 7) l0 3) fun i1=>
 bnX (cVn (.nam 7) l0 3) fun y0_3=>
 bnX (bV (.nam 7) hs i1) fun y1=>
 gdX (ci hs [i0,i1]) <|
 gdX (il [i0,i1]) <|
 .mv (dc N y0_0 y0_1 y0_2 y0_3 y1) [i0,i1] (mvL [i0,i1] [100000,200001]) 0 (ef i0 i1) (sV i0 i1)
theorem kB(N:RecC)(hN:iq N):XOk Try.prog EE 49 (gZ N):=fun us hs=>
 ba fun h1=>aE fun i0 h2=>aE fun l0 h3=>ba fun h4=>aE fun y0_0 h5=>aE fun y0_1 h6=>aE fun y0_2 h7=>aE fun i1 h8=>aE fun y0_3 h9=>aE fun y1 h10=>ba fun h11=>ba fun h12=>fun p hz ρ hi=>gc (ex:=[]) (ks:=[100000,200001]) (us':=Cv y0_0 y0_1 y0_2 y0_3 y1) (h0:=yB y0_0 y0_1 y0_2 y0_3 y1) (ρ':=m8 ρ [i0,i1]) (uc:=ef 100000 200001) (u:=ef i0 i1) (hc:=sV 100000 200001) (h:=sV i0 i1) hi h11 (by kernel_rfl) ⟨i9 h2 (by kernel_rfl),cA h1⟩ ⟨(by kernel_rfl),lr h3 ⟨dp h5,dp h6,dp h7,iA h8 h9 (by kernel_rfl),cA h4⟩,(by kernel_rfl),jQ h10 (by kernel_rfl),trivial⟩ ⟨.inr rfl,.inl rfl,trivial⟩ h12 (fun hj=>kX hN y0_0 y0_1 y0_2 y0_3 y1 hz _ hj) (fun z=>⟨by kernel_rfl,by kernel_rfl,by kernel_rfl,by kernel_rfl⟩)
def dU(i0:Nat)(i1:Nat)(r:bH):TV EE.T:=.a (.d .bool r.1)
def tb(i0:Nat)(i1:Nat)(r:bH):List (Nat × TB EE.T):=[(i0,.cs [.d .str r.2.1,.d (.int .i64) r.2.2.1,.d (.int .i64) r.2.2.2.1,.vec (.nam 7) i1 r.2.2.2.2.1]),(i1,.vec i1 (.nam 7) r.2.2.2.2.2)]
def mG(r:PR bH):RL EE.T:=nr (dU 100000 200001) (tb 100000 200001) r
def Ky:Lvs:=⟨[],[],[],[],false,[(100000,(none,[]))],[100000,200001],[],[]⟩
def Jz:List ResultVar:=[.tmp 2]
def G4(N:RecC):Gam EE:=⟨[],EQT,[⟨34,en N⟩],[]⟩
theorem HT(N:RecC)(hN:iq N):GOk Try.prog TT EE (G4 N):=GOk.consx (gl N hN) (GOk.nil dQ)
def GM(c:Code):List It2:=[.c c]
def Hx(y0_0:List UInt8)(y0_1:Int)(y0_2:Int)(y0_3:Nat)(y1:List Vstep):TS EE.T:=⟨5,[(0,.a (.box 100000 0))],[(100000,.cs [.d .str y0_0,.d (.int .i64) y0_1,.d (.int .i64) y0_2,.vec (.nam 7) 200001 y0_3]),(200001,.vec 200001 (.nam 7) y1)],[]⟩
abbrev Jy(N:RecC)(r:PR bH)(k:List It2)(s:TS EE.T):Prop:=gB (Y:=TT) EE (G4 N) Ky Jz (fun u=>u=mG r) k s
def Da(x:PR bH):Tree (Lf EE.T × Option (PR bH)):=.leaf (.done (mG x),some x)
theorem E8{N:RecC}{r:PR bH}(y0_0:List UInt8)(y0_1:Int)(y0_2:Int)(y0_3:Nat)(y1:List Vstep)(h:cW N y0_0 y0_1 y0_2 y0_3 y1=some r):Jy N r (GM (ai 0 Try.f53)) (Hx y0_0 y0_1 y0_2 y0_3 y1):=
 aX (m:=4000) (t:=
 .bnd (dk N y0_0 y0_1 y0_2 y0_3 y1) fun z1=>
 .sm z1 (fun z2=>
  Da (.ok (z2.1,z2.2.1,z2.2.2.1,z2.2.2.2.1,z2.2.2.2.2.1,z2.2.2.2.2.2))) (fun vz1=>
  Da (.pan vz1))) (by kernel_rfl) (by kernel_rfl) h (fun _=>⟨fun _=>bm (enc:=mG) rfl,fun _=>bm (enc:=mG) rfl⟩)
def CS(y0_0:List UInt8)(y0_1:Int)(y0_2:Int)(y0_3:Nat)(y1:List Vstep):List (TV EE.T):=[.a (.box 100000 0)]
def xT(y0_0:List UInt8)(y0_1:Int)(y0_2:Int)(y0_3:Nat)(y1:List Vstep):List (Nat × TB EE.T):=[(100000,.cs [.d .str y0_0,.d (.int .i64) y0_1,.d (.int .i64) y0_2,.vec (.nam 7) 200001 y0_3]),(200001,.vec 200001 (.nam 7) y1)]
theorem kz{N:RecC}(hN:iq N)(y0_0:List UInt8)(y0_1:Int)(y0_2:Int)(y0_3:Nat)(y1:List Vstep){r:PR bH}(h:cW N y0_0 y0_1 y0_2 y0_3 y1=some r)(ρ:Rn)(hi:Inj ρ (xT y0_0 y0_1 y0_2 y0_3 y1)):aW Try.prog 53 ((CS y0_0 y0_1 y0_2 y0_3 y1).map (TV.to EE.toEnc ρ)) (hTo EE.toEnc ρ (xT y0_0 y0_1 y0_2 y0_3 y1)) (dw EE ρ fun u=>u=mG r):=
 fd (ai 0 Try.f53) 5 mixed (HT N hN) Try.func53 (by kernel_rfl) rfl rfl rfl rfl (E8 y0_0 y0_1 y0_2 y0_3 y1 h) ρ hi
def gE(N:RecC)(us:List (TV EE.T))(hs:List (Nat × TB EE.T)):XR EE.T:=
 gdX (fG us 1) <|
 bnX (aB us 0) fun i0=>
 bnX (bC hs i0) fun l0=>
 gdX (fG l0 4) <|
 bnX (cD .str l0 0) fun y0_0=>
 bnX (cD (.int .i64) l0 1) fun y0_1=>
 bnX (cD (.int .i64) l0 2) fun y0_2=>
 bnX (cVi (.nam 7) l0 3) fun i1=>
 bnX (cVn (.nam 7) l0 3) fun y0_3=>
 bnX (bV (.nam 7) hs i1) fun y1=>
 gdX (ci hs [i0,i1]) <|
 gdX (il [i0,i1]) <|
 .mv (cW N y0_0 y0_1 y0_2 y0_3 y1) [i0,i1] (mvL [i0,i1] [100000,200001]) 0 (dU i0 i1) (tb i0 i1)
theorem ka(N:RecC)(hN:iq N):XOk Try.prog EE 53 (gE N):=fun us hs=>
 ba fun h1=>aE fun i0 h2=>aE fun l0 h3=>ba fun h4=>aE fun y0_0 h5=>aE fun y0_1 h6=>aE fun y0_2 h7=>aE fun i1 h8=>aE fun y0_3 h9=>aE fun y1 h10=>ba fun h11=>ba fun h12=>fun p hz ρ hi=>gc (ex:=[]) (ks:=[100000,200001]) (us':=CS y0_0 y0_1 y0_2 y0_3 y1) (h0:=xT y0_0 y0_1 y0_2 y0_3 y1) (ρ':=m8 ρ [i0,i1]) (uc:=dU 100000 200001) (u:=dU i0 i1) (hc:=tb 100000 200001) (h:=tb i0 i1) hi h11 (by kernel_rfl) ⟨i9 h2 (by kernel_rfl),cA h1⟩ ⟨(by kernel_rfl),lr h3 ⟨dp h5,dp h6,dp h7,iA h8 h9 (by kernel_rfl),cA h4⟩,(by kernel_rfl),jQ h10 (by kernel_rfl),trivial⟩ ⟨.inr rfl,.inl rfl,trivial⟩ h12 (fun hj=>kz hN y0_0 y0_1 y0_2 y0_3 y1 hz _ hj) (fun z=>⟨by kernel_rfl,by kernel_rfl,by kernel_rfl,by kernel_rfl⟩)
def dZ(i0:Nat)(i1:Nat)(r:aG):TV EE.T:=.a (.d .bool r.1)
def sO(i0:Nat)(i1:Nat)(r:aG):List (Nat × TB EE.T):=[(i0,.cs [.d .str r.2.1,.d (.int .i64) r.2.2.1,.d (.int .i64) r.2.2.2.1,.vec (.nam 7) i1 r.2.2.2.2.1]),(i1,.vec i1 (.nam 7) r.2.2.2.2.2)]
def fi(r:PR aG):RL EE.T:=nr (dZ 100000 200001) (sO 100000 200001) r
def JF:Lvs:=⟨[(6,⟨[(0,false),(3,false),(4,false),(5,false),(6,false)],[],[(100000,(none,[])),(200001,(none,[]))],[]⟩),(9,⟨[(0,false),(4,false),(6,false),(7,false)],[],[(100000,(none,[])),(200001,(none,[]))],[]⟩),(12,⟨[(0,false),(4,false),(7,false)],[],[(100000,(none,[])),(200001,(none,[]))],[]⟩)],[(3,⟨[(0,false),(3,false),(4,false)],[],[(100000,(none,[])),(200001,(none,[]))],[]⟩)],[12],[],false,[(100000,(none,[]))],[100000,200001],[],[]⟩
def Kv:List ResultVar:=[.tmp 2]
def Ff(N:RecC):Gam EE:=⟨[],EQT,[⟨51,e9 N.n⟩,⟨50,ej N.n⟩,⟨53,gE N⟩,⟨49,gZ N⟩,⟨52,fe N.n⟩,⟨36,dx N.n⟩],[]⟩
theorem Fz(N:RecC)(hN:iq N):GOk Try.prog TT EE (Ff N):=GOk.consx (gt N.n) (GOk.consx (eF N.n) (GOk.consx (ka N hN) (GOk.consx (kB N hN) (GOk.consx (gp N.n) (GOk.consx (dK N.n) (GOk.nil dQ))))))
def w5(c:Code):List It2:=atR 12 c
def wT(x4:Bool)(x7:Int)(N1:List UInt8)(NZ:Int)(N0:Int)(NY:Nat)(N2:List Vstep):TS EE.T:=⟨70,[(0,.a (.box 100000 0)),(4,.a (.d .bool x4)),(7,.a (.d (.int .i64) x7))],[(100000,.cs [.d .str N1,.d (.int .i64) NZ,.d (.int .i64) N0,.vec (.nam 7) 200001 NY]),(200001,.vec 200001 (.nam 7) N2)],[]⟩
def tC(c:Code):List It2:=atL 3 c
def tX(x3:Int)(x4:Bool)(N1:List UInt8)(NZ:Int)(N0:Int)(NY:Nat)(N2:List Vstep):TS EE.T:=⟨70,[(0,.a (.box 100000 0)),(3,.a (.d (.int .i64) x3)),(4,.a (.d .bool x4))],[(100000,.cs [.d .str N1,.d (.int .i64) NZ,.d (.int .i64) N0,.vec (.nam 7) 200001 NY]),(200001,.vec 200001 (.nam 7) N2)],[]⟩
def HK(c:Code):List It2:=[.c c]
def GN(y0_0:List UInt8)(y0_1:Int)(y0_2:Int)(y0_3:Nat)(y1:List Vstep):TS EE.T:=⟨70,[(0,.a (.box 100000 0))],[(100000,.cs [.d .str y0_0,.d (.int .i64) y0_1,.d (.int .i64) y0_2,.vec (.nam 7) 200001 y0_3]),(200001,.vec 200001 (.nam 7) y1)],[]⟩
def w6(c:Code)(f:Bool→Int→(List UInt8)→Int→Int→Nat→(List Vstep)→Option (PR aG))(x4:Bool)(x7:Int)(N1:List UInt8)(NZ:Int)(N0:Int)(NY:Nat)(N2:List Vstep):Tree (Lf EE.T × Option (PR aG)):=.leaf (.go (w5 c) (wT x4 x7 N1 NZ N0 NY N2),f x4 x7 N1 NZ N0 NY N2)
def Fq(c:Code)(f:Int→Bool→(List UInt8)→Int→Int→Nat→(List Vstep)→Option (PR aG))(x3:Int)(x4:Bool)(N1:List UInt8)(NZ:Int)(N0:Int)(NY:Nat)(N2:List Vstep):Tree (Lf EE.T × Option (PR aG)):=.leaf (.go (tC c) (tX x3 x4 N1 NZ N0 NY N2),f x3 x4 N1 NZ N0 NY N2)
abbrev sM(N:RecC)(r:PR aG)(k:List It2)(s:TS EE.T):Prop:=gB (Y:=TT) EE (Ff N) JF Kv (fun u=>u=fi r) k s
def jc(x:PR aG):Tree (Lf EE.T × Option (PR aG)):=.leaf (.done (fi x),some x)
theorem wk{N:RecC}{r:PR aG}{k3:Int→Bool→(List UInt8)→Int→Int→Nat→(List Vstep)→Option (PR aG)}(hk3:∀x3 x4 N1 NZ N0 NY N2,k3 x3 x4 N1 NZ N0 NY N2=some r→sM N r (tC (ai 0 Try.f34)) (tX x3 x4 N1 NZ N0 NY N2))(n:Nat)(x4:Bool)(x7:Int)(N1:List UInt8)(NZ:Int)(N0:Int)(NY:Nat)(N2:List Vstep)(h:b7 N k3 n x4 x7 N1 NZ N0 NY N2=some r):sM N r (w5 (ai 0 Try.f34)) (wT x4 x7 N1 NZ N0 NY N2):=
 aX (m:=4000) (t:=
 .bnd (dP NY x7) fun z19=>
 .bnd (N2[z19]?) fun z20=>
 jc (.ok (x4,N1,NZ,N0,NY,List.set N2 z19 ({ kind:=z20.kind,a:=(NY:Int),b:=z20.b,set_:=z20.set_ }:Vstep)))) (by kernel_rfl) (by kernel_rfl) h (fun _=>fun _=>bm (enc:=fi) rfl)
theorem ui{N:RecC}{r:PR aG}:∀ (n:Nat) (x3:Int) (x4:Bool) (N1:List UInt8) (NZ:Int) (N0:Int) (NY:Nat) (N2:List Vstep),bd N n x3 x4 N1 NZ N0 NY N2=some r→sM N r (tC (ai 0 Try.f34)) (tX x3 x4 N1 NZ N0 NY N2)
 |0,_,_,_,_,_,_,_,h=>by cases h
 |n+1,x3,x4,N1,NZ,N0,NY,N2,h=>aX (m:=4000) (t:=
  .bnd (bc N.n 124 N1 NZ N0 NY N2) fun z3=>
  .sm z3 (fun z4=>
   .cond (z4.1)
   (
    .bnd (bR N.n x3 z4.2.1 z4.2.2.1 z4.2.2.2.1 z4.2.2.2.2.1 z4.2.2.2.2.2) fun z5=>
    .sm z5 (fun z6=>
     .bnd (aA N.n ({ kind:=1,a:=0,b:=0,set_:=(none:Option (List Bool)) }:Vstep) z6.2.1 z6.2.2.1 z6.2.2.2.1 z6.2.2.2.2.1 z6.2.2.2.2.2) fun z7=>
     .sm z7 (fun z8=>
      .bnd (dP z8.2.2.2.2.1 z8.1) fun z9=>
      .bnd (z8.2.2.2.2.2[z9]?) fun z10=>
      .bnd (bk N.n z6.1 x3 z8.2.1 z8.2.2.1 z8.2.2.2.1 z8.2.2.2.2.1 (List.set z8.2.2.2.2.2 z9 ({ kind:=z10.kind,a:=(z8.2.2.2.2.1:Int),b:=z10.b,set_:=z10.set_ }:Vstep))) fun z11=>
      .sm z11 (fun z12=>
       .bnd (aA N.n ({ kind:=2,a:=0,b:=0,set_:=(none:Option (List Bool)) }:Vstep) z12.1 z12.2.1 z12.2.2.1 z12.2.2.2.1 z12.2.2.2.2) fun z13=>
       .sm z13 (fun z14=>
        .bnd (dP z14.2.2.2.2.1 z8.1) fun z15=>
        .bnd (z14.2.2.2.2.2[z15]?) fun z16=>
        .bnd (cW N z14.2.1 z14.2.2.1 z14.2.2.2.1 z14.2.2.2.2.1 (List.set z14.2.2.2.2.2 z15 ({ kind:=z16.kind,a:=z16.a,b:=(z14.2.2.2.2.1:Int),set_:=z16.set_ }:Vstep))) fun z17=>
        .sm z17 (fun z18=>
         .cond (z18.1)
         (
          w6 (ai 0 Try.f34) (b7 N (bd N n) n) true z14.1 z18.2.1 z18.2.2.1 z18.2.2.2.1 z18.2.2.2.2.1 z18.2.2.2.2.2)
         (
          w6 (ai 0 Try.f34) (b7 N (bd N n) n) x4 z14.1 z18.2.1 z18.2.2.1 z18.2.2.2.1 z18.2.2.2.2.1 z18.2.2.2.2.2)) (fun vz17=>
         jc (.pan vz17))) (fun vz13=>
        jc (.pan vz13))) (fun vz11=>
       jc (.pan vz11))) (fun vz7=>
      jc (.pan vz7))) (fun vz5=>
     jc (.pan vz5)))
   (
    jc (.ok (x4,z4.2.1,z4.2.2.1,z4.2.2.2.1,z4.2.2.2.2.1,z4.2.2.2.2.2)))) (fun vz3=>
   jc (.pan vz3))) (by kernel_rfl) (by kernel_rfl) h (fun _=>⟨fun _=>⟨fun _=>⟨fun _=>fun _=>⟨fun _=>fun _=>fun _=>fun _=>⟨fun _=>fun _=>⟨fun _=>fun _=>fun _=>fun _=>⟨fun _=>⟨fun h=>wk (ui n) n _ _ _ _ _ _ _ h,fun h=>wk (ui n) n _ _ _ _ _ _ _ h⟩,fun _=>bm (enc:=fi) rfl⟩,fun _=>bm (enc:=fi) rfl⟩,fun _=>bm (enc:=fi) rfl⟩,fun _=>bm (enc:=fi) rfl⟩,fun _=>bm (enc:=fi) rfl⟩,bm (enc:=fi) rfl⟩,fun _=>bm (enc:=fi) rfl⟩)
theorem GA{N:RecC}{r:PR aG}(y0_0:List UInt8)(y0_1:Int)(y0_2:Int)(y0_3:Nat)(y1:List Vstep)(h:cF N y0_0 y0_1 y0_2 y0_3 y1=some r):sM N r (HK (ai 0 Try.f34)) (GN y0_0 y0_1 y0_2 y0_3 y1):=
 aX (m:=4000) (t:=
 .bnd (dc N y0_0 y0_1 y0_2 y0_3 y1) fun z1=>
 .sm z1 (fun z2=>
  Fq (ai 0 Try.f34) (bd N N.n) (y0_3:Int) z2.1 z2.2.1 z2.2.2.1 z2.2.2.2.1 z2.2.2.2.2.1 z2.2.2.2.2.2) (fun vz1=>
  jc (.pan vz1))) (by kernel_rfl) (by kernel_rfl) h (fun _=>⟨fun _=>fun h=>ui N.n _ _ _ _ _ _ _ h,fun _=>bm (enc:=fi) rfl⟩)
def Dm(y0_0:List UInt8)(y0_1:Int)(y0_2:Int)(y0_3:Nat)(y1:List Vstep):List (TV EE.T):=[.a (.box 100000 0)]
def xr(y0_0:List UInt8)(y0_1:Int)(y0_2:Int)(y0_3:Nat)(y1:List Vstep):List (Nat × TB EE.T):=[(100000,.cs [.d .str y0_0,.d (.int .i64) y0_1,.d (.int .i64) y0_2,.vec (.nam 7) 200001 y0_3]),(200001,.vec 200001 (.nam 7) y1)]
theorem gj{N:RecC}(hN:iq N)(y0_0:List UInt8)(y0_1:Int)(y0_2:Int)(y0_3:Nat)(y1:List Vstep){r:PR aG}(h:cF N y0_0 y0_1 y0_2 y0_3 y1=some r)(ρ:Rn)(hi:Inj ρ (xr y0_0 y0_1 y0_2 y0_3 y1)):aW Try.prog 34 ((Dm y0_0 y0_1 y0_2 y0_3 y1).map (TV.to EE.toEnc ρ)) (hTo EE.toEnc ρ (xr y0_0 y0_1 y0_2 y0_3 y1)) (dw EE ρ fun u=>u=fi r):=
 fd (ai 0 Try.f34) 70 mixed (Fz N hN) Try.func34 (by kernel_rfl) rfl rfl rfl rfl (GA y0_0 y0_1 y0_2 y0_3 y1 h) ρ hi
def kZ(N:RecC)(us:List (TV EE.T))(hs:List (Nat × TB EE.T)):XR EE.T:=
 gdX (fG us 1) <|
 bnX (aB us 0) fun i0=>
 bnX (bC hs i0) fun l0=>
 gdX (fG l0 4) <|
 bnX (cD .str l0 0) fun y0_0=>
 bnX (cD (.int .i64) l0 1) fun y0_1=>
 bnX (cD (.int .i64) l0 2) fun y0_2=>
 bnX (cVi (.nam 7) l0 3) fun i1=>
 bnX (cVn (.nam 7) l0 3) fun y0_3=>
 bnX (bV (.nam 7) hs i1) fun y1=>
 gdX (ci hs [i0,i1]) <|
 gdX (il [i0,i1]) <|
 .mv (cF N y0_0 y0_1 y0_2 y0_3 y1) [i0,i1] (mvL [i0,i1] [100000,200001]) 0 (dZ i0 i1) (sO i0 i1)
theorem kc(N:RecC)(hN:iq N):XOk Try.prog EE 34 (kZ N):=fun us hs=>
 ba fun h1=>aE fun i0 h2=>aE fun l0 h3=>ba fun h4=>aE fun y0_0 h5=>aE fun y0_1 h6=>aE fun y0_2 h7=>aE fun i1 h8=>aE fun y0_3 h9=>aE fun y1 h10=>ba fun h11=>ba fun h12=>fun p hz ρ hi=>gc (ex:=[]) (ks:=[100000,200001]) (us':=Dm y0_0 y0_1 y0_2 y0_3 y1) (h0:=xr y0_0 y0_1 y0_2 y0_3 y1) (ρ':=m8 ρ [i0,i1]) (uc:=dZ 100000 200001) (u:=dZ i0 i1) (hc:=sO 100000 200001) (h:=sO i0 i1) hi h11 (by kernel_rfl) ⟨i9 h2 (by kernel_rfl),cA h1⟩ ⟨(by kernel_rfl),lr h3 ⟨dp h5,dp h6,dp h7,iA h8 h9 (by kernel_rfl),cA h4⟩,(by kernel_rfl),jQ h10 (by kernel_rfl),trivial⟩ ⟨.inr rfl,.inl rfl,trivial⟩ h12 (fun hj=>gj hN y0_0 y0_1 y0_2 y0_3 y1 hz _ hj) (fun z=>⟨by kernel_rfl,by kernel_rfl,by kernel_rfl,by kernel_rfl⟩)
theorem gT(n0:Nat):∀m,iq ⟨n0,bj n0 m⟩
 |0=>Hv n0
 |m+1=>kc ⟨n0,bj n0 m⟩ (gT n0 m)
def fy(r:aK):TV EE.T:=.a (.d (.sl .str) r.1)
def ye(i0:Nat)(r:aK):List (Nat × TB EE.T):=[(i0,.cs (eD EE (.nam 8) r.2))]
def u7(r:aK):RL EE.T:=.ret (fy r) (ye 100000 r)
def Kw:Lvs:=⟨[(6,⟨[(0,false),(1,false),(2,false),(7,false),(8,false),(9,false)],[],[(100000,(some 8,[]))],[]⟩),(7,⟨[(0,false),(1,false),(2,false),(7,false),(8,false)],[],[(100000,(some 8,[]))],[]⟩),(8,⟨[(0,false),(1,false),(2,false),(7,false),(8,false),(9,false)],[],[(100000,(some 8,[]))],[]⟩)],[(3,⟨[(0,false),(1,false),(2,false),(7,false),(8,false)],[],[(100000,(some 8,[]))],[]⟩)],[8],[],false,[(100000,(some 8,[]))],[100000],[],[]⟩
def KD:List ResultVar:=[.tmp 6]
def Is(N:Nat):Gam EE:=⟨[],EQT,[],[]⟩
theorem E5(N:Nat):GOk Try.prog TT EE (Is N):=GOk.nil dQ
def zT(c:Code):List It2:=atR 8 c
def zl(x1:List UInt8)(x2:List Int)(x7:List (List UInt8))(x8:Int)(x9:List UInt8)(NX:VMask):TS EE.T:=⟨56,[(0,.a (.box 100000 0)),(1,.a (.d .str x1)),(2,.a (.d (.sl (.int .i64)) x2)),(7,.a (.own .str x7)),(8,.a (.d (.int .i64) x8)),(9,.a (.d .str x9))],[(100000,.cs (eD EE (.nam 8) NX))],[]⟩
def um(c:Code):List It2:=atL 3 c
def uo(x1:List UInt8)(x2:List Int)(x7:List (List UInt8))(x8:Int)(NX:VMask):TS EE.T:=⟨56,[(0,.a (.box 100000 0)),(1,.a (.d .str x1)),(2,.a (.d (.sl (.int .i64)) x2)),(7,.a (.own .str x7)),(8,.a (.d (.int .i64) x8))],[(100000,.cs (eD EE (.nam 8) NX))],[]⟩
def GR(c:Code):List It2:=[.c c]
def Iv(x1:List UInt8)(x2:List Int)(y0:VMask):TS EE.T:=⟨56,[(0,.a (.box 100000 0)),(1,.a (.d .str x1)),(2,.a (.d (.sl (.int .i64)) x2))],[(100000,.cs (eD EE (.nam 8) y0))],[]⟩
def uf(c:Code)(f:(List UInt8)→(List Int)→(List (List UInt8))→Int→(List UInt8)→VMask→Option aK)(x1:List UInt8)(x2:List Int)(x7:List (List UInt8))(x8:Int)(x9:List UInt8)(NX:VMask):Tree (Lf EE.T × Option aK):=.leaf (.go (zT c) (zl x1 x2 x7 x8 x9 NX),f x1 x2 x7 x8 x9 NX)
def AZ(c:Code)(f:(List UInt8)→(List Int)→(List (List UInt8))→Int→VMask→Option aK)(x1:List UInt8)(x2:List Int)(x7:List (List UInt8))(x8:Int)(NX:VMask):Tree (Lf EE.T × Option aK):=.leaf (.go (um c) (uo x1 x2 x7 x8 NX),f x1 x2 x7 x8 NX)
abbrev sS(N:Nat)(r:aK)(k:List It2)(s:TS EE.T):Prop:=gB (Y:=TT) EE (Is N) Kw KD (fun u=>u=u7 r) k s
def JN(x:aK):Tree (Lf EE.T × Option aK):=.leaf (.done (u7 x),some x)
theorem u4{N:Nat}{r:aK}{k3:(List UInt8)→(List Int)→(List (List UInt8))→Int→VMask→Option aK}(hk3:∀x1 x2 x7 x8 NX,k3 x1 x2 x7 x8 NX=some r→sS N r (um (ai 0 Try.f39)) (uo x1 x2 x7 x8 NX))(n:Nat)(x1:List UInt8)(x2:List Int)(x7:List (List UInt8))(x8:Int)(x9:List UInt8)(NX:VMask)(h:bO N k3 n x1 x2 x7 x8 x9 NX=some r):sS N r (zT (ai 0 Try.f39)) (zl x1 x2 x7 x8 x9 NX):=
 aX (m:=4000) (t:=
 .bnd (iQ 16 x7 ([x9] :List (List UInt8))) fun z7=>
 AZ (ai 0 Try.f39) k3 x1 x2 z7 (w64 (x8+1)) NX) (by kernel_rfl) (by kernel_rfl) h (fun _=>fun h=>hk3 _ _ _ _ _ h)
theorem qm{N:Nat}{r:aK}:∀ (n:Nat) (x1:List UInt8) (x2:List Int) (x7:List (List UInt8)) (x8:Int) (NX:VMask),bh N n x1 x2 x7 x8 NX=some r→sS N r (um (ai 0 Try.f39)) (uo x1 x2 x7 x8 NX)
 |0,_,_,_,_,_,h=>by cases h
 |n+1,x1,x2,x7,x8,NX,h=>aX (m:=4000) (t:=
  .cond (decide (x8≤NX.Groups))
  (
   .bnd (ap x2 (w64 (2 * x8))) fun z1=>
   .cond (decide (z1≥0))
   (
    .bnd (ap x2 (w64 ((w64 (2 * x8))+1))) fun z2=>
    .bnd (ap x2 (w64 (2 * x8))) fun z3=>
    .cond (decide (z2≥z3))
    (
     .bnd (ap x2 (w64 (2 * x8))) fun z4=>
     .bnd (ap x2 (w64 ((w64 (2 * x8))+1))) fun z5=>
     .bnd (lb x1 z4 z5) fun z6=>
     uf (ai 0 Try.f39) (bO N (bh N n) n) x1 x2 x7 x8 z6 NX)
    (
     uf (ai 0 Try.f39) (bO N (bh N n) n) x1 x2 x7 x8 ([] :List UInt8) NX))
   (
    uf (ai 0 Try.f39) (bO N (bh N n) n) x1 x2 x7 x8 ([] :List UInt8) NX))
  (
   JN (x7,NX))) (by kernel_rfl) (by kernel_rfl) h (⟨fun _=>⟨fun _=>fun _=>⟨fun _=>fun _=>fun _=>fun h=>u4 (qm n) n _ _ _ _ _ _ h,fun h=>u4 (qm n) n _ _ _ _ _ _ h⟩,fun h=>u4 (qm n) n _ _ _ _ _ _ h⟩,bm (enc:=u7) rfl⟩)
theorem FY{N:Nat}{r:aK}(x1:List UInt8)(x2:List Int)(y0:VMask)(h:dy N x1 x2 y0=some r):sS N r (GR (ai 0 Try.f39)) (Iv x1 x2 y0):=
 aX (m:=4000) (t:=
 AZ (ai 0 Try.f39) (bh N N) x1 x2 ([] :List (List UInt8)) 1 y0) (by kernel_rfl) (by kernel_rfl) h (fun h=>qm N _ _ _ _ _ h)
def C8(x1:List UInt8)(x2:List Int)(y0:VMask):List (TV EE.T):=[.a (.box 100000 0),.a (.d .str x1),.a (.d (.sl (.int .i64)) x2)]
def yX(x1:List UInt8)(x2:List Int)(y0:VMask):List (Nat × TB EE.T):=[(100000,.cs (eD EE (.nam 8) y0))]
theorem lT{N:Nat}(x1:List UInt8)(x2:List Int)(y0:VMask){r:aK}(h:dy N x1 x2 y0=some r)(ρ:Rn)(hi:Inj ρ (yX x1 x2 y0)):aW Try.prog 39 ((C8 x1 x2 y0).map (TV.to EE.toEnc ρ)) (hTo EE.toEnc ρ (yX x1 x2 y0)) (fun out H=>out=.ret ((fy r).to EE.toEnc ρ)∧H=hTo EE.toEnc ρ (ye 100000 r)):=
 (fd (ai 0 Try.f39) 56 mixed (E5 N) Try.func39 (by kernel_rfl) rfl rfl rfl rfl (FY x1 x2 y0 h) ρ hi).mono fun out H h=>dw.retH rfl rfl h
def im(N:Nat)(us:List (TV EE.T))(hs:List (Nat × TB EE.T)):XR EE.T:=
 gdX (fG us 3) <|
 bnX (aB us 0) fun i0=>
 bnX (aD .str us 1) fun x1=>
 bnX (aD (.sl (.int .i64)) us 2) fun x2=>
 bnX (bS EE 8 hs i0) fun y0=>
 gdX (ci hs [i0]) <|
 .ret (dy N x1 x2 y0) [i0] fy (ye i0)
theorem lB(N:Nat):XOk Try.prog EE 39 (im N):=fun us hs=>
 ba fun h1=>aE fun i0 h2=>aE fun x1 h3=>aE fun x2 h4=>aE fun y0 h5=>ba fun h6=>fun z hz=>⟨rfl,fun ρ hi=>L7 (us':=C8 x1 x2 y0) (h0:=yX x1 x2 y0) (ρ':=m8 ρ [i0]) hi h6 (by kernel_rfl) ⟨i9 h2 (by kernel_rfl),mP h3,mP h4,cA h1⟩ ⟨(by kernel_rfl),GS h5,trivial⟩ (fun hj=>lT x1 x2 y0 hz _ hj) (fun out H h=>⟨h.1.trans (by kernel_rfl),h.2.trans (by kernel_rfl)⟩)⟩
def jR(r:Bool):TV EE.T:=.a (.d .bool r)
def yr(r:Bool):RL EE.T:=.ret (jR r) []
def MT:Lvs:=⟨[],[],[],[],false,[],[],[],[]⟩
def M6:List ResultVar:=[.tmp 2]
def M0(N:Nat):Gam EE:=⟨[],EQT,[],[]⟩
theorem Lr(N:Nat):GOk Try.prog TT EE (M0 N):=GOk.nil dQ
def L1(c:Code):List It2:=[.c c]
def Md(x0:UInt8):TS EE.T:=⟨9,[(0,.a (.d .byte x0))],[],[]⟩
abbrev MK(N:Nat)(r:Bool)(k:List It2)(s:TS EE.T):Prop:=gB (Y:=TT) EE (M0 N) MT M6 (fun u=>u=yr r) k s
def Ln(x:Bool):Tree (Lf EE.T × Option Bool):=.leaf (.done (yr x),some x)
theorem L4{N:Nat}{r:Bool}(x0:UInt8)(h:eZ N x0=some r):MK N r (L1 (ai 0 Try.f47)) (Md x0):=
 aX (m:=4000) (t:=
 .cond (decide ((b2i x0)≥(b2i 48)))
 (
  Ln (decide ((b2i x0)≤(b2i 57))))
 (
  Ln false)) (by kernel_rfl) (by kernel_rfl) h (⟨bm (enc:=yr) rfl,bm (enc:=yr) rfl⟩)
theorem sy{N:Nat}(x0:UInt8){r:Bool}(h:eZ N x0=some r)(ρ:Rn):aW Try.prog 47 (([.a (.d .byte x0)] :List (TV EE.T)).map (TV.to EE.toEnc ρ)) [] (fun out H=>out=.ret ((jR r).to EE.toEnc ρ)∧H=[]):=
 (u9 (ai 0 Try.f47) 9 mixed (Lr N) Try.func47 (by kernel_rfl) rfl rfl rfl rfl (L4 x0 h) ρ).mono fun out H h=>dw.ret rfl h
def js(N:Nat):List (TV EE.T)→PV EE.T
 | [u0] =>match mj .byte u0 with
   |some x0=>.opt (eZ N x0) jR
   |_=>.bad
 |_=>.bad
theorem rn(N:Nat)(us:List (TV EE.T)):(js N us).ok fun u=>∀ρ,aW Try.prog 47 (us.map (TV.to EE.toEnc ρ)) [] (fun out H=>out=.ret (u.to EE.toEnc ρ)∧H=[]):=by
 unfold js
 split
 ·split
  ·rename_i h0
   intro z hz ρ;refine gM ?_ (sy _ hz ρ);exact⟨eL h0 ρ,trivial⟩
  ·trivial
 ·trivial
def oF(r:cO):TV EE.T:=.tu [.a (.d (.sl (.nam 6)) r.1),.a (.d .bool r.2)]
def ng(r:cO):RL EE.T:=.ret (oF r) []
def Nf:Lvs:=⟨[],[(2,⟨[(0,false),(4,false)],[],[],[]⟩)],[],[],false,[],[],[],[]⟩
def NB:List ResultVar:=[.tmp 2,.tmp 3]
def Nb(N:Nat):Gam EE:=⟨[⟨47,js N⟩,⟨46,ec N⟩],EQT,[],[]⟩
theorem L5(N:Nat):GOk Try.prog TT EE (Nb N):=GOk.cons (rn N) (GOk.cons (fx N) (GOk.nil dQ))
def FA(c:Code):List It2:=atL 2 c
def Ho(x0:List UInt8)(x4:List Vpiece):TS EE.T:=⟨83,[(0,.a (.d .str x0)),(4,.a (.own (.nam 6) x4))],[],[]⟩
def Mm(c:Code):List It2:=[.c c]
def MD(x0:List UInt8):TS EE.T:=⟨83,[(0,.a (.d .str x0))],[],[]⟩
def tY(c:Code)(f:(List UInt8)→(List Vpiece)→Option cO)(x0:List UInt8)(x4:List Vpiece):Tree (Lf EE.T × Option cO):=.leaf (.go (FA c) (Ho x0 x4),f x0 x4)
abbrev K8(N:Nat)(r:cO)(k:List It2)(s:TS EE.T):Prop:=gB (Y:=TT) EE (Nb N) Nf NB (fun u=>u=ng r) k s
def wQ(x:cO):Tree (Lf EE.T × Option cO):=.leaf (.done (ng x),some x)
theorem tK{N:Nat}{r:cO}:∀ (n:Nat) (x0:List UInt8) (x4:List Vpiece),cM N n x0 x4=some r→K8 N r (FA (ai 0 Try.f28)) (Ho x0 x4)
 |0,_,_,h=>by cases h
 |n+1,x0,x4,h=>aX (m:=4000) (t:=
  .cond (!decide (x0=([] :List UInt8)))
  (
   .bnd (ap x0 0) fun z1=>
   .cond ((b2i z1) != (b2i 36))
   (
    .bnd (ss x0 ([36] :List UInt8)) fun z2=>
    .bnd (cq N z2 36) fun z3=>
    .bnd (lb x0 0 z3) fun z4=>
    .bnd (iQ 24 x4 ([({ text:=z4,group:=(-1) }:Vpiece)] :List Vpiece)) fun z5=>
    .bnd (lb x0 z3 (x0.length:Int)) fun z6=>
    tY (ai 0 Try.f28) (cM N n) z6 z5)
   (
    .bnd (lb x0 1 (x0.length:Int)) fun z7=>
    .cond (decide (z7=([] :List UInt8)))
    (
     wQ (([] :List Vpiece),false))
    (
     .bnd (ap z7 0) fun z8=>
     .cond ((b2i z8)==(b2i 36))
     (
      .bnd (iQ 24 x4 ([({ text:=([36] :List UInt8),group:=(-1) }:Vpiece)] :List Vpiece)) fun z9=>
      .bnd (lb z7 1 (z7.length:Int)) fun z10=>
      tY (ai 0 Try.f28) (cM N n) z10 z9)
     (
      .bnd (ap z7 0) fun z11=>
      .bnd (eZ N z11) fun z12=>
      .cond (z12)
      (
       .bnd (ap z7 0) fun z13=>
       .bnd (iQ 24 x4 ([({ text:=([] :List UInt8),group:=w64 (b2i (toB (IntKind.wrap .u8 ((b2i z13) - (b2i 48))))) }:Vpiece)] :List Vpiece)) fun z14=>
       .bnd (lb z7 1 (z7.length:Int)) fun z15=>
       tY (ai 0 Try.f28) (cM N n) z15 z14)
      (
       .cond (decide ((z7.length:Int) > 2))
       (
        .bnd (ap z7 0) fun z16=>
        .cond ((b2i z16)==(b2i 123))
        (
         .bnd (ap z7 1) fun z17=>
         .bnd (eZ N z17) fun z18=>
         .cond (z18)
         (
          .bnd (ap z7 2) fun z19=>
          .cond ((b2i z19)==(b2i 125))
          (
           .bnd (ap z7 1) fun z20=>
           .bnd (iQ 24 x4 ([({ text:=([] :List UInt8),group:=w64 (b2i (toB (IntKind.wrap .u8 ((b2i z20) - (b2i 48))))) }:Vpiece)] :List Vpiece)) fun z21=>
           .bnd (lb z7 3 (z7.length:Int)) fun z22=>
           tY (ai 0 Try.f28) (cM N n) z22 z21)
          (
           wQ (([] :List Vpiece),false)))
         (
          wQ (([] :List Vpiece),false)))
        (
         wQ (([] :List Vpiece),false)))
       (
        wQ (([] :List Vpiece),false)))))))
  (
   wQ (x4,true))) (by kernel_rfl) (by kernel_rfl) h (⟨fun _=>⟨fun _=>fun _=>fun _=>fun _=>fun _=>fun h=>(tK n) _ _ h,fun _=>⟨bm (enc:=ng) rfl,fun _=>⟨fun _=>fun _=>fun h=>(tK n) _ _ h,fun _=>fun _=>⟨fun _=>fun _=>fun _=>fun h=>(tK n) _ _ h,⟨fun _=>⟨fun _=>fun _=>⟨fun _=>⟨fun _=>fun _=>fun _=>fun h=>(tK n) _ _ h,bm (enc:=ng) rfl⟩,bm (enc:=ng) rfl⟩,bm (enc:=ng) rfl⟩,bm (enc:=ng) rfl⟩⟩⟩⟩⟩,bm (enc:=ng) rfl⟩)
theorem LX{N:Nat}{r:cO}(x0:List UInt8)(h:iM N x0=some r):K8 N r (Mm (ai 0 Try.f28)) (MD x0):=
 aX (m:=4000) (t:=
 tY (ai 0 Try.f28) (cM N N) x0 ([] :List Vpiece)) (by kernel_rfl) (by kernel_rfl) h (fun h=>tK N _ _ h)
theorem mq{N:Nat}(x0:List UInt8){r:cO}(h:iM N x0=some r)(ρ:Rn):aW Try.prog 28 (([.a (.d .str x0)] :List (TV EE.T)).map (TV.to EE.toEnc ρ)) [] (fun out H=>out=.ret ((oF r).to EE.toEnc ρ)∧H=[]):=
 (u9 (ai 0 Try.f28) 83 mixed (L5 N) Try.func28 (by kernel_rfl) rfl rfl rfl rfl (LX x0 h) ρ).mono fun out H h=>dw.ret rfl h
def qy(i0:Nat)(i1:Nat)(i2:Nat)(r:Nat × VMask × (List Vthread) × (List (Int × Bool))):TV EE.T:=.a (.vec (.nam 10) i1 r.1)
def pu(i0:Nat)(i1:Nat)(i2:Nat)(r:Nat × VMask × (List Vthread) × (List (Int × Bool))):List (Nat × TB EE.T):=[(i0,.cs (eD EE (.nam 8) r.2.1)),(i1,.vec i1 (.nam 10) r.2.2.1),(i2,.imap .bool r.2.2.2)]
def fA(N:RecC2)(us:List (TV EE.T))(hs:List (Nat × TB EE.T)):XR EE.T:=
 gdX (fG us 5) <|
 bnX (aB us 0) fun i0=>
 bnX (aVi (.nam 10) us 1) fun i1=>
 bnX (aVn (.nam 10) us 1) fun x1_n=>
 bnX (aM us 2) fun i2=>
 bnX (aS EE 10 us 3) fun x3=>
 bnX (aD (.int .i64) us 4) fun x4=>
 bnX (bS EE 8 hs i0) fun y0=>
 bnX (bV (.nam 10) hs i1) fun y1=>
 bnX (bI .bool hs i2) fun y2=>
 gdX (ci hs [i0,i1,i2]) <|
 gdX (il [i0,i1,i2]) <|
 .mv (bU N x1_n x3 x4 y0 y1 y2) [i0,i1,i2] (mvL [i0,i1,i2] [100000,200001,100002]) 0 (qy i0 i1 i2) (pu i0 i1 i2)
def ra(N:RecC2):Prop:=XOk Try.prog EE 38 (fA N)
theorem oz(N:RecC2)(hN:ra N):XOk Try.prog EE 38 (fA N):=hN
theorem EC(n:Nat):ra ⟨n,fun _ _ _ _ _ _=>none⟩:=fun us hs=>
 ba fun h1=>aE fun i0 h2=>aE fun i1 h3=>aE fun x1_n h4=>aE fun i2 h5=>aE fun x3 h6=>aE fun x4 h7=>aE fun y0 h8=>aE fun y1 h9=>aE fun y2 h10=>ba fun h11=>ba fun h12=>fun p hz=>by cases hz
def fh(i0:Nat)(i1:Nat)(i2:Nat)(r:bv):TV EE.T:=.a (.vec (.nam 10) i1 r.1)
def sF(i0:Nat)(i1:Nat)(i2:Nat)(r:bv):List (Nat × TB EE.T):=[(i0,.cs (eD EE (.nam 8) r.2.1)),(i1,.vec i1 (.nam 10) r.2.2.1),(i2,.imap .bool r.2.2.2)]
def eP(r:PR bv):RL EE.T:=nr (fh 100000 200001 100002) (sF 100000 200001 100002) r
def KN:Lvs:=⟨[(4,⟨[(0,false),(1,false),(2,false),(4,false),(8,false)],[],[(8,(some 10,[])),(100000,(some 8,[])),(100002,(none,[])),(200001,(none,[]))],[]⟩),(5,⟨[(0,false),(1,false),(2,false),(4,false),(8,false),(11,false)],[],[(8,(some 10,[])),(11,(some 7,[])),(100000,(some 8,[])),(100002,(none,[])),(200001,(none,[]))],[]⟩)],[],[5],[],false,[(100000,(some 8,[]))],[100000,200001,100002],[(14,[.cl 401104 (.v (.int .i64)) (.s 12)])],[(88,200001)]⟩
def JL:List ResultVar:=[.tmp 10]
def Hn(N:RecC2):Gam EE:=⟨[],EQT,[⟨38,fA N⟩,⟨55,nc N.n⟩],[]⟩
theorem GV(N:RecC2)(hN:ra N):GOk Try.prog TT EE (Hn N):=GOk.consx (oz N hN) (GOk.consx (oJ N.n) (GOk.nil dQ))
def Be(c:Code):List It2:=atR 5 c
def Ax(x1_n:Nat)(x4:Int)(b8:Vthread)(b11:Vstep)(NX:VMask)(N5:List (Int × Bool))(N2:List Vthread):TS EE.T:=⟨89,[(0,.a (.box 100000 0)),(1,.a (.vec (.nam 10) 200001 x1_n)),(2,.a (.mpr 100002)),(4,.a (.d (.int .i64) x4)),(8,.a (.box 8 0)),(11,.a (.box 11 0))],[(8,.cs (eD EE (.nam 10) b8)),(11,.cs (eD EE (.nam 7) b11)),(100000,.cs (eD EE (.nam 8) NX)),(100002,.imap .bool N5),(200001,.vec 200001 (.nam 10) N2)],[]⟩
def FL(c:Code):List It2:=[.c c]
def Hd(x1_n:Nat)(x3:Vthread)(x4:Int)(y0:VMask)(y1:List Vthread)(y2:List (Int × Bool)):TS EE.T:=⟨89,[(0,.a (.box 100000 0)),(1,.a (.vec (.nam 10) 200001 x1_n)),(2,.a (.mpr 100002)),(3,.ag (eD EE (.nam 10) x3)),(4,.a (.d (.int .i64) x4))],[(100000,.cs (eD EE (.nam 8) y0)),(200001,.vec 200001 (.nam 10) y1),(100002,.imap .bool y2)],[]⟩
def au(c:Code)(f:Nat→Int→Vthread→Vstep→VMask→(List (Int × Bool))→(List Vthread)→Option (PR bv))(x1_n:Nat)(x4:Int)(b8:Vthread)(b11:Vstep)(NX:VMask)(N5:List (Int × Bool))(N2:List Vthread):Tree (Lf EE.T × Option (PR bv)):=.leaf (.go (Be c) (Ax x1_n x4 b8 b11 NX N5 N2),f x1_n x4 b8 b11 NX N5 N2)
abbrev CZ(N:RecC2)(r:PR bv)(k:List It2)(s:TS EE.T):Prop:=gB (Y:=TT) EE (Hn N) KN JL (fun u=>u=eP r) k s
def iI(x:PR bv):Tree (Lf EE.T × Option (PR bv)):=.leaf (.done (eP x),some x)
theorem aw{N:RecC2}{r:PR bv}(n:Nat)(x1_n:Nat)(x4:Int)(b8:Vthread)(b11:Vstep)(NX:VMask)(N5:List (Int × Bool))(N2:List Vthread)(h:ae N n x1_n x4 b8 b11 NX N5 N2=some r):CZ N r (Be (ai 0 Try.f38)) (Ax x1_n x4 b8 b11 NX N5 N2):=
 aX (m:=4000) (t:=
 .cond (b11.kind==2)
 (
  .bnd (bU N x1_n ({ at_:=b11.a,slots:=b8.slots }:Vthread) x4 NX N2 N5) fun z121=>
  .sm z121 (fun z122=>
   iI (.ok (z122.1,z122.2.1,z122.2.2.1,z122.2.2.2))) (fun vz121=>
   iI (.pan vz121)))
 (
  .cond (b11.kind==1)
  (
   .bnd (bU N x1_n ({ at_:=b11.a,slots:=b8.slots }:Vthread) x4 NX N2 N5) fun z123=>
   .sm z123 (fun z124=>
    .bnd (bU N z124.1 ({ at_:=b11.b,slots:=b8.slots }:Vthread) x4 z124.2.1 z124.2.2.1 z124.2.2.2) fun z125=>
    .sm z125 (fun z126=>
     iI (.ok (z126.1,z126.2.1,z126.2.2.1,z126.2.2.2))) (fun vz125=>
     iI (.pan vz125))) (fun vz123=>
    iI (.pan vz123)))
  (
   .cond (b11.kind==3)
   (
    .bnd (f0 N.n b8.slots) fun z127=>
    .sm z127 (fun z128=>
     .bnd (dP z128.1 b11.a) fun z129=>
     .bnd (z128.2[z129]?) fun z130=>
     .bnd (j8 z128.1 (List.set z128.2 z129 x4)) fun z131=>
     .bnd (bU N x1_n ({ at_:=w64 (b8.at_+1),slots:=z131 }:Vthread) x4 NX N2 N5) fun z132=>
     .sm z132 (fun z133=>
      iI (.ok (z133.1,z133.2.1,z133.2.2.1,z133.2.2.2))) (fun vz132=>
      iI (.pan vz132))) (fun vz127=>
     iI (.pan vz127)))
   (
    .bnd (kA 32 x1_n N2 ([b8] :List Vthread)) fun z134=>
    iI (.ok (z134.length,NX,z134,N5)))))) (by kernel_rfl) (by kernel_rfl) h (⟨fun _=>⟨fun _=>bm (enc:=eP) rfl,fun _=>bm (enc:=eP) rfl⟩,⟨fun _=>⟨fun _=>fun _=>⟨fun _=>bm (enc:=eP) rfl,fun _=>bm (enc:=eP) rfl⟩,fun _=>bm (enc:=eP) rfl⟩,⟨fun _=>⟨fun _=>fun _=>fun _=>fun _=>fun _=>⟨fun _=>bm (enc:=eP) rfl,fun _=>bm (enc:=eP) rfl⟩,fun _=>bm (enc:=eP) rfl⟩,fun _=>bm (enc:=eP) rfl⟩⟩⟩)
theorem HN{N:RecC2}{r:PR bv}(x1_n:Nat)(x3:Vthread)(x4:Int)(y0:VMask)(y1:List Vthread)(y2:List (Int × Bool))(h:ew N x1_n x3 x4 y0 y1 y2=some r):CZ N r (FL (ai 0 Try.f38)) (Hd x1_n x3 x4 y0 y1 y2):=
 aX (m:=4000) (t:=
 .cond ((kH y2 x3.at_).getD false)
 (
  iI (.ok (x1_n,y0,y1,y2)))
 (
  .nl (([] :List Nat))
  (
   .nl (([] :List Nat))
   (
    .nl (([] :List Nat))
    (
     .nl (([] :List Nat))
     (
      .nl (([] :List Nat))
      (
       .nl (([] :List Nat))
       (
        .nl (([] :List Nat))
        (
         .bnd (ap y0.steps x3.at_) fun z1=>
         .nl (([] :List Nat))
         (
          au (ai 0 Try.f38) (ae N N.n) x1_n x4 x3 z1 y0 (aF y2 x3.at_ true) y1)
         (
          au (ai 0 Try.f38) (ae N N.n) x1_n x4 x3 z1 y0 (aF y2 x3.at_ true) y1))
        (
         .bnd (ap y0.steps x3.at_) fun z2=>
         au (ai 0 Try.f38) (ae N N.n) x1_n x4 x3 z2 y0 (aF y2 x3.at_ true) y1))
       (
        .bnd (ap y0.steps x3.at_) fun z3=>
        au (ai 0 Try.f38) (ae N N.n) x1_n x4 x3 z3 y0 (aF y2 x3.at_ true) y1))
      (
       .bnd (ap y0.steps x3.at_) fun z4=>
       au (ai 0 Try.f38) (ae N N.n) x1_n x4 x3 z4 y0 (aF y2 x3.at_ true) y1))
     (
      .nl (([] :List Nat))
      (
       .nl (([] :List Nat))
       (
        .nl (([] :List Nat))
        (
         .nl (([] :List Nat))
         (
          .bnd (ap y0.steps x3.at_) fun z5=>
          .nl (([] :List Nat))
          (
           au (ai 0 Try.f38) (ae N N.n) x1_n x4 x3 z5 y0 (aF y2 x3.at_ true) y1)
          (
           au (ai 0 Try.f38) (ae N N.n) x1_n x4 x3 z5 y0 (aF y2 x3.at_ true) y1))
         (
          .bnd (ap y0.steps x3.at_) fun z6=>
          au (ai 0 Try.f38) (ae N N.n) x1_n x4 x3 z6 y0 (aF y2 x3.at_ true) y1))
        (
         .bnd (ap y0.steps x3.at_) fun z7=>
         au (ai 0 Try.f38) (ae N N.n) x1_n x4 x3 z7 y0 (aF y2 x3.at_ true) y1))
       (
        .nl (([] :List Nat))
        (
         .nl (([] :List Nat))
         (
          .nl (([] :List Nat))
          (
           .bnd (ap y0.steps x3.at_) fun z8=>
           .nl (([] :List Nat))
           (
            au (ai 0 Try.f38) (ae N N.n) x1_n x4 x3 z8 y0 (aF y2 x3.at_ true) y1)
           (
            au (ai 0 Try.f38) (ae N N.n) x1_n x4 x3 z8 y0 (aF y2 x3.at_ true) y1))
          (
           .bnd (ap y0.steps x3.at_) fun z9=>
           au (ai 0 Try.f38) (ae N N.n) x1_n x4 x3 z9 y0 (aF y2 x3.at_ true) y1))
         (
          .bnd (ap y0.steps x3.at_) fun z10=>
          au (ai 0 Try.f38) (ae N N.n) x1_n x4 x3 z10 y0 (aF y2 x3.at_ true) y1))
        (
         .nl (([] :List Nat))
         (
          .bnd (ap y0.steps x3.at_) fun z11=>
          au (ai 0 Try.f38) (ae N N.n) x1_n x4 x3 z11 y0 (aF y2 x3.at_ true) y1)
         (
          .bnd (ap y0.steps x3.at_) fun z12=>
          au (ai 0 Try.f38) (ae N N.n) x1_n x4 x3 z12 y0 (aF y2 x3.at_ true) y1))))
      (
       .nl (([] :List Nat))
       (
        .bnd (ap y0.steps x3.at_) fun z13=>
        au (ai 0 Try.f38) (ae N N.n) x1_n x4 x3 z13 y0 (aF y2 x3.at_ true) y1)
       (
        .nl (([] :List Nat))
        (
         .bnd (ap y0.steps x3.at_) fun z14=>
         au (ai 0 Try.f38) (ae N N.n) x1_n x4 x3 z14 y0 (aF y2 x3.at_ true) y1)
        (
         .bnd (ap y0.steps x3.at_) fun z15=>
         au (ai 0 Try.f38) (ae N N.n) x1_n x4 x3 z15 y0 (aF y2 x3.at_ true) y1)))))
    (
     .nl (([] :List Nat))
     (
      .nl (([] :List Nat))
      (
       .nl (([] :List Nat))
       (
        .nl (([] :List Nat))
        (
         .nl (([] :List Nat))
         (
          .bnd (ap y0.steps x3.at_) fun z16=>
          .nl (([] :List Nat))
          (
           au (ai 0 Try.f38) (ae N N.n) x1_n x4 x3 z16 y0 (aF y2 x3.at_ true) y1)
          (
           au (ai 0 Try.f38) (ae N N.n) x1_n x4 x3 z16 y0 (aF y2 x3.at_ true) y1))
         (
          .bnd (ap y0.steps x3.at_) fun z17=>
          au (ai 0 Try.f38) (ae N N.n) x1_n x4 x3 z17 y0 (aF y2 x3.at_ true) y1))
        (
         .bnd (ap y0.steps x3.at_) fun z18=>
         au (ai 0 Try.f38) (ae N N.n) x1_n x4 x3 z18 y0 (aF y2 x3.at_ true) y1))
       (
        .nl (([] :List Nat))
        (
         .nl (([] :List Nat))
         (
          .nl (([] :List Nat))
          (
           .bnd (ap y0.steps x3.at_) fun z19=>
           .nl (([] :List Nat))
           (
            au (ai 0 Try.f38) (ae N N.n) x1_n x4 x3 z19 y0 (aF y2 x3.at_ true) y1)
           (
            au (ai 0 Try.f38) (ae N N.n) x1_n x4 x3 z19 y0 (aF y2 x3.at_ true) y1))
          (
           .bnd (ap y0.steps x3.at_) fun z20=>
           au (ai 0 Try.f38) (ae N N.n) x1_n x4 x3 z20 y0 (aF y2 x3.at_ true) y1))
         (
          .bnd (ap y0.steps x3.at_) fun z21=>
          au (ai 0 Try.f38) (ae N N.n) x1_n x4 x3 z21 y0 (aF y2 x3.at_ true) y1))
        (
         .nl (([] :List Nat))
         (
          .bnd (ap y0.steps x3.at_) fun z22=>
          au (ai 0 Try.f38) (ae N N.n) x1_n x4 x3 z22 y0 (aF y2 x3.at_ true) y1)
         (
          .bnd (ap y0.steps x3.at_) fun z23=>
          au (ai 0 Try.f38) (ae N N.n) x1_n x4 x3 z23 y0 (aF y2 x3.at_ true) y1))))
      (
       .nl (([] :List Nat))
       (
        .nl (([] :List Nat))
        (
         .nl (([] :List Nat))
         (
          .nl (([] :List Nat))
          (
           .bnd (ap y0.steps x3.at_) fun z24=>
           .nl (([] :List Nat))
           (
            au (ai 0 Try.f38) (ae N N.n) x1_n x4 x3 z24 y0 (aF y2 x3.at_ true) y1)
           (
            au (ai 0 Try.f38) (ae N N.n) x1_n x4 x3 z24 y0 (aF y2 x3.at_ true) y1))
          (
           .bnd (ap y0.steps x3.at_) fun z25=>
           au (ai 0 Try.f38) (ae N N.n) x1_n x4 x3 z25 y0 (aF y2 x3.at_ true) y1))
         (
          .bnd (ap y0.steps x3.at_) fun z26=>
          au (ai 0 Try.f38) (ae N N.n) x1_n x4 x3 z26 y0 (aF y2 x3.at_ true) y1))
        (
         .bnd (ap y0.steps x3.at_) fun z27=>
         au (ai 0 Try.f38) (ae N N.n) x1_n x4 x3 z27 y0 (aF y2 x3.at_ true) y1))
       (
        .nl (([] :List Nat))
        (
         .nl (([] :List Nat))
         (
          .bnd (ap y0.steps x3.at_) fun z28=>
          au (ai 0 Try.f38) (ae N N.n) x1_n x4 x3 z28 y0 (aF y2 x3.at_ true) y1)
         (
          .bnd (ap y0.steps x3.at_) fun z29=>
          au (ai 0 Try.f38) (ae N N.n) x1_n x4 x3 z29 y0 (aF y2 x3.at_ true) y1))
        (
         .bnd (ap y0.steps x3.at_) fun z30=>
         au (ai 0 Try.f38) (ae N N.n) x1_n x4 x3 z30 y0 (aF y2 x3.at_ true) y1))))
     (
      .nl (([] :List Nat))
      (
       .nl (([] :List Nat))
       (
        .bnd (ap y0.steps x3.at_) fun z31=>
        au (ai 0 Try.f38) (ae N N.n) x1_n x4 x3 z31 y0 (aF y2 x3.at_ true) y1)
       (
        .nl (([] :List Nat))
        (
         .bnd (ap y0.steps x3.at_) fun z32=>
         au (ai 0 Try.f38) (ae N N.n) x1_n x4 x3 z32 y0 (aF y2 x3.at_ true) y1)
        (
         .bnd (ap y0.steps x3.at_) fun z33=>
         au (ai 0 Try.f38) (ae N N.n) x1_n x4 x3 z33 y0 (aF y2 x3.at_ true) y1)))
      (
       .nl (([] :List Nat))
       (
        .nl (([] :List Nat))
        (
         .bnd (ap y0.steps x3.at_) fun z34=>
         au (ai 0 Try.f38) (ae N N.n) x1_n x4 x3 z34 y0 (aF y2 x3.at_ true) y1)
        (
         .bnd (ap y0.steps x3.at_) fun z35=>
         au (ai 0 Try.f38) (ae N N.n) x1_n x4 x3 z35 y0 (aF y2 x3.at_ true) y1))
       (
        .bnd (ap y0.steps x3.at_) fun z36=>
        au (ai 0 Try.f38) (ae N N.n) x1_n x4 x3 z36 y0 (aF y2 x3.at_ true) y1)))))
   (
    .nl (([] :List Nat))
    (
     .nl (([] :List Nat))
     (
      .nl (([] :List Nat))
      (
       .nl (([] :List Nat))
       (
        .nl (([] :List Nat))
        (
         .nl (([] :List Nat))
         (
          .bnd (ap y0.steps x3.at_) fun z37=>
          .nl (([] :List Nat))
          (
           au (ai 0 Try.f38) (ae N N.n) x1_n x4 x3 z37 y0 (aF y2 x3.at_ true) y1)
          (
           au (ai 0 Try.f38) (ae N N.n) x1_n x4 x3 z37 y0 (aF y2 x3.at_ true) y1))
         (
          .bnd (ap y0.steps x3.at_) fun z38=>
          au (ai 0 Try.f38) (ae N N.n) x1_n x4 x3 z38 y0 (aF y2 x3.at_ true) y1))
        (
         .bnd (ap y0.steps x3.at_) fun z39=>
         au (ai 0 Try.f38) (ae N N.n) x1_n x4 x3 z39 y0 (aF y2 x3.at_ true) y1))
       (
        .nl (([] :List Nat))
        (
         .nl (([] :List Nat))
         (
          .nl (([] :List Nat))
          (
           .bnd (ap y0.steps x3.at_) fun z40=>
           .nl (([] :List Nat))
           (
            au (ai 0 Try.f38) (ae N N.n) x1_n x4 x3 z40 y0 (aF y2 x3.at_ true) y1)
           (
            au (ai 0 Try.f38) (ae N N.n) x1_n x4 x3 z40 y0 (aF y2 x3.at_ true) y1))
          (
           .bnd (ap y0.steps x3.at_) fun z41=>
           au (ai 0 Try.f38) (ae N N.n) x1_n x4 x3 z41 y0 (aF y2 x3.at_ true) y1))
         (
          .bnd (ap y0.steps x3.at_) fun z42=>
          au (ai 0 Try.f38) (ae N N.n) x1_n x4 x3 z42 y0 (aF y2 x3.at_ true) y1))
        (
         .nl (([] :List Nat))
         (
          .bnd (ap y0.steps x3.at_) fun z43=>
          au (ai 0 Try.f38) (ae N N.n) x1_n x4 x3 z43 y0 (aF y2 x3.at_ true) y1)
         (
          .bnd (ap y0.steps x3.at_) fun z44=>
          au (ai 0 Try.f38) (ae N N.n) x1_n x4 x3 z44 y0 (aF y2 x3.at_ true) y1))))
      (
       .nl (([] :List Nat))
       (
        .nl (([] :List Nat))
        (
         .nl (([] :List Nat))
         (
          .nl (([] :List Nat))
          (
           .bnd (ap y0.steps x3.at_) fun z45=>
           .nl (([] :List Nat))
           (
            au (ai 0 Try.f38) (ae N N.n) x1_n x4 x3 z45 y0 (aF y2 x3.at_ true) y1)
           (
            au (ai 0 Try.f38) (ae N N.n) x1_n x4 x3 z45 y0 (aF y2 x3.at_ true) y1))
          (
           .bnd (ap y0.steps x3.at_) fun z46=>
           au (ai 0 Try.f38) (ae N N.n) x1_n x4 x3 z46 y0 (aF y2 x3.at_ true) y1))
         (
          .bnd (ap y0.steps x3.at_) fun z47=>
          au (ai 0 Try.f38) (ae N N.n) x1_n x4 x3 z47 y0 (aF y2 x3.at_ true) y1))
        (
         .bnd (ap y0.steps x3.at_) fun z48=>
         au (ai 0 Try.f38) (ae N N.n) x1_n x4 x3 z48 y0 (aF y2 x3.at_ true) y1))
       (
        .nl (([] :List Nat))
        (
         .nl (([] :List Nat))
         (
          .bnd (ap y0.steps x3.at_) fun z49=>
          au (ai 0 Try.f38) (ae N N.n) x1_n x4 x3 z49 y0 (aF y2 x3.at_ true) y1)
         (
          .bnd (ap y0.steps x3.at_) fun z50=>
          au (ai 0 Try.f38) (ae N N.n) x1_n x4 x3 z50 y0 (aF y2 x3.at_ true) y1))
        (
         .bnd (ap y0.steps x3.at_) fun z51=>
         au (ai 0 Try.f38) (ae N N.n) x1_n x4 x3 z51 y0 (aF y2 x3.at_ true) y1))))
     (
      .nl (([] :List Nat))
      (
       .nl (([] :List Nat))
       (
        .nl (([] :List Nat))
        (
         .nl (([] :List Nat))
         (
          .nl (([] :List Nat))
          (
           .bnd (ap y0.steps x3.at_) fun z52=>
           .nl (([] :List Nat))
           (
            au (ai 0 Try.f38) (ae N N.n) x1_n x4 x3 z52 y0 (aF y2 x3.at_ true) y1)
           (
            au (ai 0 Try.f38) (ae N N.n) x1_n x4 x3 z52 y0 (aF y2 x3.at_ true) y1))
          (
           .bnd (ap y0.steps x3.at_) fun z53=>
           au (ai 0 Try.f38) (ae N N.n) x1_n x4 x3 z53 y0 (aF y2 x3.at_ true) y1))
         (
          .bnd (ap y0.steps x3.at_) fun z54=>
          au (ai 0 Try.f38) (ae N N.n) x1_n x4 x3 z54 y0 (aF y2 x3.at_ true) y1))
        (
         .bnd (ap y0.steps x3.at_) fun z55=>
         au (ai 0 Try.f38) (ae N N.n) x1_n x4 x3 z55 y0 (aF y2 x3.at_ true) y1))
       (
        .bnd (ap y0.steps x3.at_) fun z56=>
        au (ai 0 Try.f38) (ae N N.n) x1_n x4 x3 z56 y0 (aF y2 x3.at_ true) y1))
      (
       .nl (([] :List Nat))
       (
        .nl (([] :List Nat))
        (
         .nl (([] :List Nat))
         (
          .bnd (ap y0.steps x3.at_) fun z57=>
          au (ai 0 Try.f38) (ae N N.n) x1_n x4 x3 z57 y0 (aF y2 x3.at_ true) y1)
         (
          .bnd (ap y0.steps x3.at_) fun z58=>
          au (ai 0 Try.f38) (ae N N.n) x1_n x4 x3 z58 y0 (aF y2 x3.at_ true) y1))
        (
         .bnd (ap y0.steps x3.at_) fun z59=>
         au (ai 0 Try.f38) (ae N N.n) x1_n x4 x3 z59 y0 (aF y2 x3.at_ true) y1))
       (
        .bnd (ap y0.steps x3.at_) fun z60=>
        au (ai 0 Try.f38) (ae N N.n) x1_n x4 x3 z60 y0 (aF y2 x3.at_ true) y1))))
    (
     .nl (([] :List Nat))
     (
      .nl (([] :List Nat))
      (
       .nl (([] :List Nat))
       (
        .bnd (ap y0.steps x3.at_) fun z61=>
        au (ai 0 Try.f38) (ae N N.n) x1_n x4 x3 z61 y0 (aF y2 x3.at_ true) y1)
       (
        .nl (([] :List Nat))
        (
         .bnd (ap y0.steps x3.at_) fun z62=>
         au (ai 0 Try.f38) (ae N N.n) x1_n x4 x3 z62 y0 (aF y2 x3.at_ true) y1)
        (
         .bnd (ap y0.steps x3.at_) fun z63=>
         au (ai 0 Try.f38) (ae N N.n) x1_n x4 x3 z63 y0 (aF y2 x3.at_ true) y1)))
      (
       .nl (([] :List Nat))
       (
        .nl (([] :List Nat))
        (
         .bnd (ap y0.steps x3.at_) fun z64=>
         au (ai 0 Try.f38) (ae N N.n) x1_n x4 x3 z64 y0 (aF y2 x3.at_ true) y1)
        (
         .bnd (ap y0.steps x3.at_) fun z65=>
         au (ai 0 Try.f38) (ae N N.n) x1_n x4 x3 z65 y0 (aF y2 x3.at_ true) y1))
       (
        .bnd (ap y0.steps x3.at_) fun z66=>
        au (ai 0 Try.f38) (ae N N.n) x1_n x4 x3 z66 y0 (aF y2 x3.at_ true) y1)))
     (
      .nl (([] :List Nat))
      (
       .nl (([] :List Nat))
       (
        .nl (([] :List Nat))
        (
         .bnd (ap y0.steps x3.at_) fun z67=>
         au (ai 0 Try.f38) (ae N N.n) x1_n x4 x3 z67 y0 (aF y2 x3.at_ true) y1)
        (
         .bnd (ap y0.steps x3.at_) fun z68=>
         au (ai 0 Try.f38) (ae N N.n) x1_n x4 x3 z68 y0 (aF y2 x3.at_ true) y1))
       (
        .bnd (ap y0.steps x3.at_) fun z69=>
        au (ai 0 Try.f38) (ae N N.n) x1_n x4 x3 z69 y0 (aF y2 x3.at_ true) y1))
      (
       .bnd (ap y0.steps x3.at_) fun z70=>
       au (ai 0 Try.f38) (ae N N.n) x1_n x4 x3 z70 y0 (aF y2 x3.at_ true) y1)))))
  (
   .nl (([] :List Nat))
   (
    .nl (([] :List Nat))
    (
     .nl (([] :List Nat))
     (
      .nl (([] :List Nat))
      (
       .nl (([] :List Nat))
       (
        .nl (([] :List Nat))
        (
         .nl (([] :List Nat))
         (
          .bnd (ap y0.steps x3.at_) fun z71=>
          .nl (([] :List Nat))
          (
           au (ai 0 Try.f38) (ae N N.n) x1_n x4 x3 z71 y0 (aF y2 x3.at_ true) y1)
          (
           au (ai 0 Try.f38) (ae N N.n) x1_n x4 x3 z71 y0 (aF y2 x3.at_ true) y1))
         (
          .bnd (ap y0.steps x3.at_) fun z72=>
          au (ai 0 Try.f38) (ae N N.n) x1_n x4 x3 z72 y0 (aF y2 x3.at_ true) y1))
        (
         .bnd (ap y0.steps x3.at_) fun z73=>
         au (ai 0 Try.f38) (ae N N.n) x1_n x4 x3 z73 y0 (aF y2 x3.at_ true) y1))
       (
        .nl (([] :List Nat))
        (
         .nl (([] :List Nat))
         (
          .nl (([] :List Nat))
          (
           .bnd (ap y0.steps x3.at_) fun z74=>
           .nl (([] :List Nat))
           (
            au (ai 0 Try.f38) (ae N N.n) x1_n x4 x3 z74 y0 (aF y2 x3.at_ true) y1)
           (
            au (ai 0 Try.f38) (ae N N.n) x1_n x4 x3 z74 y0 (aF y2 x3.at_ true) y1))
          (
           .bnd (ap y0.steps x3.at_) fun z75=>
           au (ai 0 Try.f38) (ae N N.n) x1_n x4 x3 z75 y0 (aF y2 x3.at_ true) y1))
         (
          .bnd (ap y0.steps x3.at_) fun z76=>
          au (ai 0 Try.f38) (ae N N.n) x1_n x4 x3 z76 y0 (aF y2 x3.at_ true) y1))
        (
         .nl (([] :List Nat))
         (
          .bnd (ap y0.steps x3.at_) fun z77=>
          au (ai 0 Try.f38) (ae N N.n) x1_n x4 x3 z77 y0 (aF y2 x3.at_ true) y1)
         (
          .bnd (ap y0.steps x3.at_) fun z78=>
          au (ai 0 Try.f38) (ae N N.n) x1_n x4 x3 z78 y0 (aF y2 x3.at_ true) y1))))
      (
       .nl (([] :List Nat))
       (
        .nl (([] :List Nat))
        (
         .nl (([] :List Nat))
         (
          .nl (([] :List Nat))
          (
           .bnd (ap y0.steps x3.at_) fun z79=>
           .nl (([] :List Nat))
           (
            au (ai 0 Try.f38) (ae N N.n) x1_n x4 x3 z79 y0 (aF y2 x3.at_ true) y1)
           (
            au (ai 0 Try.f38) (ae N N.n) x1_n x4 x3 z79 y0 (aF y2 x3.at_ true) y1))
          (
           .bnd (ap y0.steps x3.at_) fun z80=>
           au (ai 0 Try.f38) (ae N N.n) x1_n x4 x3 z80 y0 (aF y2 x3.at_ true) y1))
         (
          .bnd (ap y0.steps x3.at_) fun z81=>
          au (ai 0 Try.f38) (ae N N.n) x1_n x4 x3 z81 y0 (aF y2 x3.at_ true) y1))
        (
         .bnd (ap y0.steps x3.at_) fun z82=>
         au (ai 0 Try.f38) (ae N N.n) x1_n x4 x3 z82 y0 (aF y2 x3.at_ true) y1))
       (
        .nl (([] :List Nat))
        (
         .nl (([] :List Nat))
         (
          .bnd (ap y0.steps x3.at_) fun z83=>
          au (ai 0 Try.f38) (ae N N.n) x1_n x4 x3 z83 y0 (aF y2 x3.at_ true) y1)
         (
          .bnd (ap y0.steps x3.at_) fun z84=>
          au (ai 0 Try.f38) (ae N N.n) x1_n x4 x3 z84 y0 (aF y2 x3.at_ true) y1))
        (
         .bnd (ap y0.steps x3.at_) fun z85=>
         au (ai 0 Try.f38) (ae N N.n) x1_n x4 x3 z85 y0 (aF y2 x3.at_ true) y1))))
     (
      .nl (([] :List Nat))
      (
       .nl (([] :List Nat))
       (
        .nl (([] :List Nat))
        (
         .nl (([] :List Nat))
         (
          .nl (([] :List Nat))
          (
           .bnd (ap y0.steps x3.at_) fun z86=>
           .nl (([] :List Nat))
           (
            au (ai 0 Try.f38) (ae N N.n) x1_n x4 x3 z86 y0 (aF y2 x3.at_ true) y1)
           (
            au (ai 0 Try.f38) (ae N N.n) x1_n x4 x3 z86 y0 (aF y2 x3.at_ true) y1))
          (
           .bnd (ap y0.steps x3.at_) fun z87=>
           au (ai 0 Try.f38) (ae N N.n) x1_n x4 x3 z87 y0 (aF y2 x3.at_ true) y1))
         (
          .bnd (ap y0.steps x3.at_) fun z88=>
          au (ai 0 Try.f38) (ae N N.n) x1_n x4 x3 z88 y0 (aF y2 x3.at_ true) y1))
        (
         .bnd (ap y0.steps x3.at_) fun z89=>
         au (ai 0 Try.f38) (ae N N.n) x1_n x4 x3 z89 y0 (aF y2 x3.at_ true) y1))
       (
        .bnd (ap y0.steps x3.at_) fun z90=>
        au (ai 0 Try.f38) (ae N N.n) x1_n x4 x3 z90 y0 (aF y2 x3.at_ true) y1))
      (
       .nl (([] :List Nat))
       (
        .nl (([] :List Nat))
        (
         .nl (([] :List Nat))
         (
          .bnd (ap y0.steps x3.at_) fun z91=>
          au (ai 0 Try.f38) (ae N N.n) x1_n x4 x3 z91 y0 (aF y2 x3.at_ true) y1)
         (
          .bnd (ap y0.steps x3.at_) fun z92=>
          au (ai 0 Try.f38) (ae N N.n) x1_n x4 x3 z92 y0 (aF y2 x3.at_ true) y1))
        (
         .bnd (ap y0.steps x3.at_) fun z93=>
         au (ai 0 Try.f38) (ae N N.n) x1_n x4 x3 z93 y0 (aF y2 x3.at_ true) y1))
       (
        .bnd (ap y0.steps x3.at_) fun z94=>
        au (ai 0 Try.f38) (ae N N.n) x1_n x4 x3 z94 y0 (aF y2 x3.at_ true) y1))))
    (
     .nl (([] :List Nat))
     (
      .nl (([] :List Nat))
      (
       .nl (([] :List Nat))
       (
        .nl (([] :List Nat))
        (
         .nl (([] :List Nat))
         (
          .nl (([] :List Nat))
          (
           .bnd (ap y0.steps x3.at_) fun z95=>
           .nl (([] :List Nat))
           (
            au (ai 0 Try.f38) (ae N N.n) x1_n x4 x3 z95 y0 (aF y2 x3.at_ true) y1)
           (
            au (ai 0 Try.f38) (ae N N.n) x1_n x4 x3 z95 y0 (aF y2 x3.at_ true) y1))
          (
           .bnd (ap y0.steps x3.at_) fun z96=>
           au (ai 0 Try.f38) (ae N N.n) x1_n x4 x3 z96 y0 (aF y2 x3.at_ true) y1))
         (
          .bnd (ap y0.steps x3.at_) fun z97=>
          au (ai 0 Try.f38) (ae N N.n) x1_n x4 x3 z97 y0 (aF y2 x3.at_ true) y1))
        (
         .bnd (ap y0.steps x3.at_) fun z98=>
         au (ai 0 Try.f38) (ae N N.n) x1_n x4 x3 z98 y0 (aF y2 x3.at_ true) y1))
       (
        .bnd (ap y0.steps x3.at_) fun z99=>
        au (ai 0 Try.f38) (ae N N.n) x1_n x4 x3 z99 y0 (aF y2 x3.at_ true) y1))
      (
       .bnd (ap y0.steps x3.at_) fun z100=>
       au (ai 0 Try.f38) (ae N N.n) x1_n x4 x3 z100 y0 (aF y2 x3.at_ true) y1))
     (
      .nl (([] :List Nat))
      (
       .nl (([] :List Nat))
       (
        .nl (([] :List Nat))
        (
         .nl (([] :List Nat))
         (
          .bnd (ap y0.steps x3.at_) fun z101=>
          au (ai 0 Try.f38) (ae N N.n) x1_n x4 x3 z101 y0 (aF y2 x3.at_ true) y1)
         (
          .bnd (ap y0.steps x3.at_) fun z102=>
          au (ai 0 Try.f38) (ae N N.n) x1_n x4 x3 z102 y0 (aF y2 x3.at_ true) y1))
        (
         .bnd (ap y0.steps x3.at_) fun z103=>
         au (ai 0 Try.f38) (ae N N.n) x1_n x4 x3 z103 y0 (aF y2 x3.at_ true) y1))
       (
        .bnd (ap y0.steps x3.at_) fun z104=>
        au (ai 0 Try.f38) (ae N N.n) x1_n x4 x3 z104 y0 (aF y2 x3.at_ true) y1))
      (
       .bnd (ap y0.steps x3.at_) fun z105=>
       au (ai 0 Try.f38) (ae N N.n) x1_n x4 x3 z105 y0 (aF y2 x3.at_ true) y1))))
   (
    .nl (([] :List Nat))
    (
     .nl (([] :List Nat))
     (
      .nl (([] :List Nat))
      (
       .nl (([] :List Nat))
       (
        .bnd (ap y0.steps x3.at_) fun z106=>
        au (ai 0 Try.f38) (ae N N.n) x1_n x4 x3 z106 y0 (aF y2 x3.at_ true) y1)
       (
        .nl (([] :List Nat))
        (
         .bnd (ap y0.steps x3.at_) fun z107=>
         au (ai 0 Try.f38) (ae N N.n) x1_n x4 x3 z107 y0 (aF y2 x3.at_ true) y1)
        (
         .bnd (ap y0.steps x3.at_) fun z108=>
         au (ai 0 Try.f38) (ae N N.n) x1_n x4 x3 z108 y0 (aF y2 x3.at_ true) y1)))
      (
       .nl (([] :List Nat))
       (
        .nl (([] :List Nat))
        (
         .bnd (ap y0.steps x3.at_) fun z109=>
         au (ai 0 Try.f38) (ae N N.n) x1_n x4 x3 z109 y0 (aF y2 x3.at_ true) y1)
        (
         .bnd (ap y0.steps x3.at_) fun z110=>
         au (ai 0 Try.f38) (ae N N.n) x1_n x4 x3 z110 y0 (aF y2 x3.at_ true) y1))
       (
        .bnd (ap y0.steps x3.at_) fun z111=>
        au (ai 0 Try.f38) (ae N N.n) x1_n x4 x3 z111 y0 (aF y2 x3.at_ true) y1)))
     (
      .nl (([] :List Nat))
      (
       .nl (([] :List Nat))
       (
        .nl (([] :List Nat))
        (
         .bnd (ap y0.steps x3.at_) fun z112=>
         au (ai 0 Try.f38) (ae N N.n) x1_n x4 x3 z112 y0 (aF y2 x3.at_ true) y1)
        (
         .bnd (ap y0.steps x3.at_) fun z113=>
         au (ai 0 Try.f38) (ae N N.n) x1_n x4 x3 z113 y0 (aF y2 x3.at_ true) y1))
       (
        .bnd (ap y0.steps x3.at_) fun z114=>
        au (ai 0 Try.f38) (ae N N.n) x1_n x4 x3 z114 y0 (aF y2 x3.at_ true) y1))
      (
       .bnd (ap y0.steps x3.at_) fun z115=>
       au (ai 0 Try.f38) (ae N N.n) x1_n x4 x3 z115 y0 (aF y2 x3.at_ true) y1)))
    (
     .nl (([] :List Nat))
     (
      .nl (([] :List Nat))
      (
       .nl (([] :List Nat))
       (
        .nl (([] :List Nat))
        (
         .bnd (ap y0.steps x3.at_) fun z116=>
         au (ai 0 Try.f38) (ae N N.n) x1_n x4 x3 z116 y0 (aF y2 x3.at_ true) y1)
        (
         .bnd (ap y0.steps x3.at_) fun z117=>
         au (ai 0 Try.f38) (ae N N.n) x1_n x4 x3 z117 y0 (aF y2 x3.at_ true) y1))
       (
        .bnd (ap y0.steps x3.at_) fun z118=>
        au (ai 0 Try.f38) (ae N N.n) x1_n x4 x3 z118 y0 (aF y2 x3.at_ true) y1))
      (
       .bnd (ap y0.steps x3.at_) fun z119=>
       au (ai 0 Try.f38) (ae N N.n) x1_n x4 x3 z119 y0 (aF y2 x3.at_ true) y1))
     (
      .bnd (ap y0.steps x3.at_) fun z120=>
      au (ai 0 Try.f38) (ae N N.n) x1_n x4 x3 z120 y0 (aF y2 x3.at_ true) y1)))))) (by kernel_rfl) (by kernel_rfl) h (⟨bm (enc:=eP) rfl,⟨fun _ _ h=>Eq.trans (by kernel_rfl) h,⟨fun _ _ h=>Eq.trans (by kernel_rfl) h,⟨fun _ _ h=>Eq.trans (by kernel_rfl) h,⟨fun _ _ h=>Eq.trans (by kernel_rfl) h,⟨fun _ _ h=>Eq.trans (by kernel_rfl) h,⟨fun _ _ h=>Eq.trans (by kernel_rfl) h,⟨fun _ _ h=>Eq.trans (by kernel_rfl) h,fun _=>⟨fun _ _ h=>Eq.trans (by kernel_rfl) h,fun h=>aw N.n _ _ _ _ _ _ _ h,fun h=>aw N.n _ _ _ _ _ _ _ h⟩,fun _=>fun h=>aw N.n _ _ _ _ _ _ _ h⟩,fun _=>fun h=>aw N.n _ _ _ _ _ _ _ h⟩,fun _=>fun h=>aw N.n _ _ _ _ _ _ _ h⟩,⟨fun _ _ h=>Eq.trans (by kernel_rfl) h,⟨fun _ _ h=>Eq.trans (by kernel_rfl) h,⟨fun _ _ h=>Eq.trans (by kernel_rfl) h,⟨fun _ _ h=>Eq.trans (by kernel_rfl) h,fun _=>⟨fun _ _ h=>Eq.trans (by kernel_rfl) h,fun h=>aw N.n _ _ _ _ _ _ _ h,fun h=>aw N.n _ _ _ _ _ _ _ h⟩,fun _=>fun h=>aw N.n _ _ _ _ _ _ _ h⟩,fun _=>fun h=>aw N.n _ _ _ _ _ _ _ h⟩,⟨fun _ _ h=>Eq.trans (by kernel_rfl) h,⟨fun _ _ h=>Eq.trans (by kernel_rfl) h,⟨fun _ _ h=>Eq.trans (by kernel_rfl) h,fun _=>⟨fun _ _ h=>Eq.trans (by kernel_rfl) h,fun h=>aw N.n _ _ _ _ _ _ _ h,fun h=>aw N.n _ _ _ _ _ _ _ h⟩,fun _=>fun h=>aw N.n _ _ _ _ _ _ _ h⟩,fun _=>fun h=>aw N.n _ _ _ _ _ _ _ h⟩,⟨fun _ _ h=>Eq.trans (by kernel_rfl) h,fun _=>fun h=>aw N.n _ _ _ _ _ _ _ h,fun _=>fun h=>aw N.n _ _ _ _ _ _ _ h⟩⟩⟩,⟨fun _ _ h=>Eq.trans (by kernel_rfl) h,fun _=>fun h=>aw N.n _ _ _ _ _ _ _ h,⟨fun _ _ h=>Eq.trans (by kernel_rfl) h,fun _=>fun h=>aw N.n _ _ _ _ _ _ _ h,fun _=>fun h=>aw N.n _ _ _ _ _ _ _ h⟩⟩⟩⟩,⟨fun _ _ h=>Eq.trans (by kernel_rfl) h,⟨fun _ _ h=>Eq.trans (by kernel_rfl) h,⟨fun _ _ h=>Eq.trans (by kernel_rfl) h,⟨fun _ _ h=>Eq.trans (by kernel_rfl) h,⟨fun _ _ h=>Eq.trans (by kernel_rfl) h,fun _=>⟨fun _ _ h=>Eq.trans (by kernel_rfl) h,fun h=>aw N.n _ _ _ _ _ _ _ h,fun h=>aw N.n _ _ _ _ _ _ _ h⟩,fun _=>fun h=>aw N.n _ _ _ _ _ _ _ h⟩,fun _=>fun h=>aw N.n _ _ _ _ _ _ _ h⟩,⟨fun _ _ h=>Eq.trans (by kernel_rfl) h,⟨fun _ _ h=>Eq.trans (by kernel_rfl) h,⟨fun _ _ h=>Eq.trans (by kernel_rfl) h,fun _=>⟨fun _ _ h=>Eq.trans (by kernel_rfl) h,fun h=>aw N.n _ _ _ _ _ _ _ h,fun h=>aw N.n _ _ _ _ _ _ _ h⟩,fun _=>fun h=>aw N.n _ _ _ _ _ _ _ h⟩,fun _=>fun h=>aw N.n _ _ _ _ _ _ _ h⟩,⟨fun _ _ h=>Eq.trans (by kernel_rfl) h,fun _=>fun h=>aw N.n _ _ _ _ _ _ _ h,fun _=>fun h=>aw N.n _ _ _ _ _ _ _ h⟩⟩⟩,⟨fun _ _ h=>Eq.trans (by kernel_rfl) h,⟨fun _ _ h=>Eq.trans (by kernel_rfl) h,⟨fun _ _ h=>Eq.trans (by kernel_rfl) h,⟨fun _ _ h=>Eq.trans (by kernel_rfl) h,fun _=>⟨fun _ _ h=>Eq.trans (by kernel_rfl) h,fun h=>aw N.n _ _ _ _ _ _ _ h,fun h=>aw N.n _ _ _ _ _ _ _ h⟩,fun _=>fun h=>aw N.n _ _ _ _ _ _ _ h⟩,fun _=>fun h=>aw N.n _ _ _ _ _ _ _ h⟩,fun _=>fun h=>aw N.n _ _ _ _ _ _ _ h⟩,⟨fun _ _ h=>Eq.trans (by kernel_rfl) h,⟨fun _ _ h=>Eq.trans (by kernel_rfl) h,fun _=>fun h=>aw N.n _ _ _ _ _ _ _ h,fun _=>fun h=>aw N.n _ _ _ _ _ _ _ h⟩,fun _=>fun h=>aw N.n _ _ _ _ _ _ _ h⟩⟩⟩,⟨fun _ _ h=>Eq.trans (by kernel_rfl) h,⟨fun _ _ h=>Eq.trans (by kernel_rfl) h,fun _=>fun h=>aw N.n _ _ _ _ _ _ _ h,⟨fun _ _ h=>Eq.trans (by kernel_rfl) h,fun _=>fun h=>aw N.n _ _ _ _ _ _ _ h,fun _=>fun h=>aw N.n _ _ _ _ _ _ _ h⟩⟩,⟨fun _ _ h=>Eq.trans (by kernel_rfl) h,⟨fun _ _ h=>Eq.trans (by kernel_rfl) h,fun _=>fun h=>aw N.n _ _ _ _ _ _ _ h,fun _=>fun h=>aw N.n _ _ _ _ _ _ _ h⟩,fun _=>fun h=>aw N.n _ _ _ _ _ _ _ h⟩⟩⟩⟩,⟨fun _ _ h=>Eq.trans (by kernel_rfl) h,⟨fun _ _ h=>Eq.trans (by kernel_rfl) h,⟨fun _ _ h=>Eq.trans (by kernel_rfl) h,⟨fun _ _ h=>Eq.trans (by kernel_rfl) h,⟨fun _ _ h=>Eq.trans (by kernel_rfl) h,⟨fun _ _ h=>Eq.trans (by kernel_rfl) h,fun _=>⟨fun _ _ h=>Eq.trans (by kernel_rfl) h,fun h=>aw N.n _ _ _ _ _ _ _ h,fun h=>aw N.n _ _ _ _ _ _ _ h⟩,fun _=>fun h=>aw N.n _ _ _ _ _ _ _ h⟩,fun _=>fun h=>aw N.n _ _ _ _ _ _ _ h⟩,⟨fun _ _ h=>Eq.trans (by kernel_rfl) h,⟨fun _ _ h=>Eq.trans (by kernel_rfl) h,⟨fun _ _ h=>Eq.trans (by kernel_rfl) h,fun _=>⟨fun _ _ h=>Eq.trans (by kernel_rfl) h,fun h=>aw N.n _ _ _ _ _ _ _ h,fun h=>aw N.n _ _ _ _ _ _ _ h⟩,fun _=>fun h=>aw N.n _ _ _ _ _ _ _ h⟩,fun _=>fun h=>aw N.n _ _ _ _ _ _ _ h⟩,⟨fun _ _ h=>Eq.trans (by kernel_rfl) h,fun _=>fun h=>aw N.n _ _ _ _ _ _ _ h,fun _=>fun h=>aw N.n _ _ _ _ _ _ _ h⟩⟩⟩,⟨fun _ _ h=>Eq.trans (by kernel_rfl) h,⟨fun _ _ h=>Eq.trans (by kernel_rfl) h,⟨fun _ _ h=>Eq.trans (by kernel_rfl) h,⟨fun _ _ h=>Eq.trans (by kernel_rfl) h,fun _=>⟨fun _ _ h=>Eq.trans (by kernel_rfl) h,fun h=>aw N.n _ _ _ _ _ _ _ h,fun h=>aw N.n _ _ _ _ _ _ _ h⟩,fun _=>fun h=>aw N.n _ _ _ _ _ _ _ h⟩,fun _=>fun h=>aw N.n _ _ _ _ _ _ _ h⟩,fun _=>fun h=>aw N.n _ _ _ _ _ _ _ h⟩,⟨fun _ _ h=>Eq.trans (by kernel_rfl) h,⟨fun _ _ h=>Eq.trans (by kernel_rfl) h,fun _=>fun h=>aw N.n _ _ _ _ _ _ _ h,fun _=>fun h=>aw N.n _ _ _ _ _ _ _ h⟩,fun _=>fun h=>aw N.n _ _ _ _ _ _ _ h⟩⟩⟩,⟨fun _ _ h=>Eq.trans (by kernel_rfl) h,⟨fun _ _ h=>Eq.trans (by kernel_rfl) h,⟨fun _ _ h=>Eq.trans (by kernel_rfl) h,⟨fun _ _ h=>Eq.trans (by kernel_rfl) h,⟨fun _ _ h=>Eq.trans (by kernel_rfl) h,fun _=>⟨fun _ _ h=>Eq.trans (by kernel_rfl) h,fun h=>aw N.n _ _ _ _ _ _ _ h,fun h=>aw N.n _ _ _ _ _ _ _ h⟩,fun _=>fun h=>aw N.n _ _ _ _ _ _ _ h⟩,fun _=>fun h=>aw N.n _ _ _ _ _ _ _ h⟩,fun _=>fun h=>aw N.n _ _ _ _ _ _ _ h⟩,fun _=>fun h=>aw N.n _ _ _ _ _ _ _ h⟩,⟨fun _ _ h=>Eq.trans (by kernel_rfl) h,⟨fun _ _ h=>Eq.trans (by kernel_rfl) h,⟨fun _ _ h=>Eq.trans (by kernel_rfl) h,fun _=>fun h=>aw N.n _ _ _ _ _ _ _ h,fun _=>fun h=>aw N.n _ _ _ _ _ _ _ h⟩,fun _=>fun h=>aw N.n _ _ _ _ _ _ _ h⟩,fun _=>fun h=>aw N.n _ _ _ _ _ _ _ h⟩⟩⟩,⟨fun _ _ h=>Eq.trans (by kernel_rfl) h,⟨fun _ _ h=>Eq.trans (by kernel_rfl) h,⟨fun _ _ h=>Eq.trans (by kernel_rfl) h,fun _=>fun h=>aw N.n _ _ _ _ _ _ _ h,⟨fun _ _ h=>Eq.trans (by kernel_rfl) h,fun _=>fun h=>aw N.n _ _ _ _ _ _ _ h,fun _=>fun h=>aw N.n _ _ _ _ _ _ _ h⟩⟩,⟨fun _ _ h=>Eq.trans (by kernel_rfl) h,⟨fun _ _ h=>Eq.trans (by kernel_rfl) h,fun _=>fun h=>aw N.n _ _ _ _ _ _ _ h,fun _=>fun h=>aw N.n _ _ _ _ _ _ _ h⟩,fun _=>fun h=>aw N.n _ _ _ _ _ _ _ h⟩⟩,⟨fun _ _ h=>Eq.trans (by kernel_rfl) h,⟨fun _ _ h=>Eq.trans (by kernel_rfl) h,⟨fun _ _ h=>Eq.trans (by kernel_rfl) h,fun _=>fun h=>aw N.n _ _ _ _ _ _ _ h,fun _=>fun h=>aw N.n _ _ _ _ _ _ _ h⟩,fun _=>fun h=>aw N.n _ _ _ _ _ _ _ h⟩,fun _=>fun h=>aw N.n _ _ _ _ _ _ _ h⟩⟩⟩⟩,⟨fun _ _ h=>Eq.trans (by kernel_rfl) h,⟨fun _ _ h=>Eq.trans (by kernel_rfl) h,⟨fun _ _ h=>Eq.trans (by kernel_rfl) h,⟨fun _ _ h=>Eq.trans (by kernel_rfl) h,⟨fun _ _ h=>Eq.trans (by kernel_rfl) h,⟨fun _ _ h=>Eq.trans (by kernel_rfl) h,⟨fun _ _ h=>Eq.trans (by kernel_rfl) h,fun _=>⟨fun _ _ h=>Eq.trans (by kernel_rfl) h,fun h=>aw N.n _ _ _ _ _ _ _ h,fun h=>aw N.n _ _ _ _ _ _ _ h⟩,fun _=>fun h=>aw N.n _ _ _ _ _ _ _ h⟩,fun _=>fun h=>aw N.n _ _ _ _ _ _ _ h⟩,⟨fun _ _ h=>Eq.trans (by kernel_rfl) h,⟨fun _ _ h=>Eq.trans (by kernel_rfl) h,⟨fun _ _ h=>Eq.trans (by kernel_rfl) h,fun _=>⟨fun _ _ h=>Eq.trans (by kernel_rfl) h,fun h=>aw N.n _ _ _ _ _ _ _ h,fun h=>aw N.n _ _ _ _ _ _ _ h⟩,fun _=>fun h=>aw N.n _ _ _ _ _ _ _ h⟩,fun _=>fun h=>aw N.n _ _ _ _ _ _ _ h⟩,⟨fun _ _ h=>Eq.trans (by kernel_rfl) h,fun _=>fun h=>aw N.n _ _ _ _ _ _ _ h,fun _=>fun h=>aw N.n _ _ _ _ _ _ _ h⟩⟩⟩,⟨fun _ _ h=>Eq.trans (by kernel_rfl) h,⟨fun _ _ h=>Eq.trans (by kernel_rfl) h,⟨fun _ _ h=>Eq.trans (by kernel_rfl) h,⟨fun _ _ h=>Eq.trans (by kernel_rfl) h,fun _=>⟨fun _ _ h=>Eq.trans (by kernel_rfl) h,fun h=>aw N.n _ _ _ _ _ _ _ h,fun h=>aw N.n _ _ _ _ _ _ _ h⟩,fun _=>fun h=>aw N.n _ _ _ _ _ _ _ h⟩,fun _=>fun h=>aw N.n _ _ _ _ _ _ _ h⟩,fun _=>fun h=>aw N.n _ _ _ _ _ _ _ h⟩,⟨fun _ _ h=>Eq.trans (by kernel_rfl) h,⟨fun _ _ h=>Eq.trans (by kernel_rfl) h,fun _=>fun h=>aw N.n _ _ _ _ _ _ _ h,fun _=>fun h=>aw N.n _ _ _ _ _ _ _ h⟩,fun _=>fun h=>aw N.n _ _ _ _ _ _ _ h⟩⟩⟩,⟨fun _ _ h=>Eq.trans (by kernel_rfl) h,⟨fun _ _ h=>Eq.trans (by kernel_rfl) h,⟨fun _ _ h=>Eq.trans (by kernel_rfl) h,⟨fun _ _ h=>Eq.trans (by kernel_rfl) h,⟨fun _ _ h=>Eq.trans (by kernel_rfl) h,fun _=>⟨fun _ _ h=>Eq.trans (by kernel_rfl) h,fun h=>aw N.n _ _ _ _ _ _ _ h,fun h=>aw N.n _ _ _ _ _ _ _ h⟩,fun _=>fun h=>aw N.n _ _ _ _ _ _ _ h⟩,fun _=>fun h=>aw N.n _ _ _ _ _ _ _ h⟩,fun _=>fun h=>aw N.n _ _ _ _ _ _ _ h⟩,fun _=>fun h=>aw N.n _ _ _ _ _ _ _ h⟩,⟨fun _ _ h=>Eq.trans (by kernel_rfl) h,⟨fun _ _ h=>Eq.trans (by kernel_rfl) h,⟨fun _ _ h=>Eq.trans (by kernel_rfl) h,fun _=>fun h=>aw N.n _ _ _ _ _ _ _ h,fun _=>fun h=>aw N.n _ _ _ _ _ _ _ h⟩,fun _=>fun h=>aw N.n _ _ _ _ _ _ _ h⟩,fun _=>fun h=>aw N.n _ _ _ _ _ _ _ h⟩⟩⟩,⟨fun _ _ h=>Eq.trans (by kernel_rfl) h,⟨fun _ _ h=>Eq.trans (by kernel_rfl) h,⟨fun _ _ h=>Eq.trans (by kernel_rfl) h,⟨fun _ _ h=>Eq.trans (by kernel_rfl) h,⟨fun _ _ h=>Eq.trans (by kernel_rfl) h,⟨fun _ _ h=>Eq.trans (by kernel_rfl) h,fun _=>⟨fun _ _ h=>Eq.trans (by kernel_rfl) h,fun h=>aw N.n _ _ _ _ _ _ _ h,fun h=>aw N.n _ _ _ _ _ _ _ h⟩,fun _=>fun h=>aw N.n _ _ _ _ _ _ _ h⟩,fun _=>fun h=>aw N.n _ _ _ _ _ _ _ h⟩,fun _=>fun h=>aw N.n _ _ _ _ _ _ _ h⟩,fun _=>fun h=>aw N.n _ _ _ _ _ _ _ h⟩,fun _=>fun h=>aw N.n _ _ _ _ _ _ _ h⟩,⟨fun _ _ h=>Eq.trans (by kernel_rfl) h,⟨fun _ _ h=>Eq.trans (by kernel_rfl) h,⟨fun _ _ h=>Eq.trans (by kernel_rfl) h,⟨fun _ _ h=>Eq.trans (by kernel_rfl) h,fun _=>fun h=>aw N.n _ _ _ _ _ _ _ h,fun _=>fun h=>aw N.n _ _ _ _ _ _ _ h⟩,fun _=>fun h=>aw N.n _ _ _ _ _ _ _ h⟩,fun _=>fun h=>aw N.n _ _ _ _ _ _ _ h⟩,fun _=>fun h=>aw N.n _ _ _ _ _ _ _ h⟩⟩⟩,⟨fun _ _ h=>Eq.trans (by kernel_rfl) h,⟨fun _ _ h=>Eq.trans (by kernel_rfl) h,⟨fun _ _ h=>Eq.trans (by kernel_rfl) h,⟨fun _ _ h=>Eq.trans (by kernel_rfl) h,fun _=>fun h=>aw N.n _ _ _ _ _ _ _ h,⟨fun _ _ h=>Eq.trans (by kernel_rfl) h,fun _=>fun h=>aw N.n _ _ _ _ _ _ _ h,fun _=>fun h=>aw N.n _ _ _ _ _ _ _ h⟩⟩,⟨fun _ _ h=>Eq.trans (by kernel_rfl) h,⟨fun _ _ h=>Eq.trans (by kernel_rfl) h,fun _=>fun h=>aw N.n _ _ _ _ _ _ _ h,fun _=>fun h=>aw N.n _ _ _ _ _ _ _ h⟩,fun _=>fun h=>aw N.n _ _ _ _ _ _ _ h⟩⟩,⟨fun _ _ h=>Eq.trans (by kernel_rfl) h,⟨fun _ _ h=>Eq.trans (by kernel_rfl) h,⟨fun _ _ h=>Eq.trans (by kernel_rfl) h,fun _=>fun h=>aw N.n _ _ _ _ _ _ _ h,fun _=>fun h=>aw N.n _ _ _ _ _ _ _ h⟩,fun _=>fun h=>aw N.n _ _ _ _ _ _ _ h⟩,fun _=>fun h=>aw N.n _ _ _ _ _ _ _ h⟩⟩,⟨fun _ _ h=>Eq.trans (by kernel_rfl) h,⟨fun _ _ h=>Eq.trans (by kernel_rfl) h,⟨fun _ _ h=>Eq.trans (by kernel_rfl) h,⟨fun _ _ h=>Eq.trans (by kernel_rfl) h,fun _=>fun h=>aw N.n _ _ _ _ _ _ _ h,fun _=>fun h=>aw N.n _ _ _ _ _ _ _ h⟩,fun _=>fun h=>aw N.n _ _ _ _ _ _ _ h⟩,fun _=>fun h=>aw N.n _ _ _ _ _ _ _ h⟩,fun _=>fun h=>aw N.n _ _ _ _ _ _ _ h⟩⟩⟩⟩⟩)
def CI(x1_n:Nat)(x3:Vthread)(x4:Int)(y0:VMask)(y1:List Vthread)(y2:List (Int × Bool)):List (TV EE.T):=[.a (.box 100000 0),.a (.vec (.nam 10) 200001 x1_n),.a (.mpr 100002),.ag (eD EE (.nam 10) x3),.a (.d (.int .i64) x4)]
def yw(x1_n:Nat)(x3:Vthread)(x4:Int)(y0:VMask)(y1:List Vthread)(y2:List (Int × Bool)):List (Nat × TB EE.T):=[(100000,.cs (eD EE (.nam 8) y0)),(200001,.vec 200001 (.nam 10) y1),(100002,.imap .bool y2)]
theorem oy{N:RecC2}(hN:ra N)(x1_n:Nat)(x3:Vthread)(x4:Int)(y0:VMask)(y1:List Vthread)(y2:List (Int × Bool)){r:PR bv}(h:ew N x1_n x3 x4 y0 y1 y2=some r)(ρ:Rn)(hi:Inj ρ (yw x1_n x3 x4 y0 y1 y2)):aW Try.prog 38 ((CI x1_n x3 x4 y0 y1 y2).map (TV.to EE.toEnc ρ)) (hTo EE.toEnc ρ (yw x1_n x3 x4 y0 y1 y2)) (dw EE ρ fun u=>u=eP r):=
 fd (ai 0 Try.f38) 89 mixed (GV N hN) Try.func38 (by kernel_rfl) rfl rfl rfl rfl (HN x1_n x3 x4 y0 y1 y2 h) ρ hi
def pA(N:RecC2)(us:List (TV EE.T))(hs:List (Nat × TB EE.T)):XR EE.T:=
 gdX (fG us 5) <|
 bnX (aB us 0) fun i0=>
 bnX (aVi (.nam 10) us 1) fun i1=>
 bnX (aVn (.nam 10) us 1) fun x1_n=>
 bnX (aM us 2) fun i2=>
 bnX (aS EE 10 us 3) fun x3=>
 bnX (aD (.int .i64) us 4) fun x4=>
 bnX (bS EE 8 hs i0) fun y0=>
 bnX (bV (.nam 10) hs i1) fun y1=>
 bnX (bI .bool hs i2) fun y2=>
 gdX (ci hs [i0,i1,i2]) <|
 gdX (il [i0,i1,i2]) <|
 .mv (ew N x1_n x3 x4 y0 y1 y2) [i0,i1,i2] (mvL [i0,i1,i2] [100000,200001,100002]) 0 (fh i0 i1 i2) (sF i0 i1 i2)
theorem mX(N:RecC2)(hN:ra N):XOk Try.prog EE 38 (pA N):=fun us hs=>
 ba fun h1=>aE fun i0 h2=>aE fun i1 h3=>aE fun x1_n h4=>aE fun i2 h5=>aE fun x3 h6=>aE fun x4 h7=>aE fun y0 h8=>aE fun y1 h9=>aE fun y2 h10=>ba fun h11=>ba fun h12=>fun p hz ρ hi=>gc (ex:=[]) (ks:=[100000,200001,100002]) (us':=CI x1_n x3 x4 y0 y1 y2) (h0:=yw x1_n x3 x4 y0 y1 y2) (ρ':=m8 ρ [i0,i1,i2]) (uc:=fh 100000 200001 100002) (u:=fh i0 i1 i2) (hc:=sF 100000 200001 100002) (h:=sF i0 i1 i2) hi h11 (by kernel_rfl) ⟨i9 h2 (by kernel_rfl),LK h3 h4 (by kernel_rfl),Lh h5 (by kernel_rfl),II h6,mP h7,cA h1⟩ ⟨(by kernel_rfl),GS h8,(by kernel_rfl),jQ h9 (by kernel_rfl),(by kernel_rfl),K6 h10,trivial⟩ ⟨.inr rfl,.inl rfl,.inr rfl,trivial⟩ h12 (fun hj=>oy hN x1_n x3 x4 y0 y1 y2 hz _ hj) (fun z=>⟨by kernel_rfl,by kernel_rfl,by kernel_rfl,by kernel_rfl⟩)
theorem kg(n0:Nat):∀m,ra ⟨n0,ca n0 m⟩
 |0=>EC n0
 |m+1=>mX ⟨n0,ca n0 m⟩ (kg n0 m)
def hD(N:Nat):List (TV EE.T)→List (Nat × TB EE.T)→XR EE.T:=fA ⟨N,ca N N⟩
theorem i8(N:Nat):XOk Try.prog EE 38 (hD N):=kg N N
end Go.Proofs.Ytlhjbhgkhpbnfaa
