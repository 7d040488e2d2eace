import Derived.Test.YtlhjbhgkhpbnfaaBk05
set_option linter.unusedSimpArgs false
set_option linter.unusedVariables false
namespace Go.Proofs.Ytlhjbhgkhpbnfaa
open Go.RowKit P
set_option linter.unusedSimpArgs false
set_option linter.unusedVariables false
section
attribute [local irreducible] AS.nf OpV bb Stk lY Iu aT cE FY H7 Awp Mz Me NF
set_option maxHeartbeats 2000000
set_option maxRecDepth 100000 in
theorem H9(n:Int)(l:List Int)(hl:l.length < 1000000):
  aT Try.prog 55 [.sl false 1 ((n::l).map fun x=>[.v (.int .i64 x)])] [] (fun out H=>∃ (k c:Nat) (vs:List Value),out=.ret (.v (.slice (some ⟨k,0,none⟩) (l.length+1) c))∧H=[(k,((n::l).map fun x=>[AV.v (.int .i64 x)]).flatten++vs.map AV.v)] ∧(l.length+1)+vs.length=c):=by
 have hone:∀r∈((n::l).map fun x=>[AV.v (.int .i64 x)]),r.length=1∧∀u∈r,u.one=true∧b7 (some u)=none:=fun r hr=>by
  obtain⟨x,_,rfl⟩:=List.mem_map.1 hr
  exact⟨rfl,fun u hu=>by rw [List.mem_singleton.1 hu];exact⟨rfl,rfl⟩⟩
 have hln:((n::l).map fun x=>[AV.v (.int .i64 x)]).length=l.length+1:=by simp
 generalize hL:((n::l).map fun x=>[AV.v (.int .i64 x)])=L at hone hln ⊢
 have hne:L≠[] :=fun e=>by rw [e] at hln;simp at hln
 refine xZ _ 8 [.tmp 2] Try.func55 (by kernel_rfl) rfl rfl rfl rfl ?_
 dsimp only [slotsOf]
 repeat (first
  | ((first|apply zw|apply uR);(next=>(first| (simp only [go_sem,Nat.reduceBEq,Nat.reduceEqDiff,reduceIte,reduceCtorEq,String.reduceEq,Nat.reduceAdd,Int.reduceToNat];exact rfl)|exact rfl)))
  | (apply qT rfl rfl rfl rfl;(next=>(first
   | (refine ny (T:=TT) rfl ?_;(first|exact trivial|omega| (simp [NFL] <;> omega)))
   | (apply opk ⟨_,.move _,_,_,_,_⟩;first|exact fc (eC _) (.inl rfl)|fail)
   | (apply opk ⟨_,.binOp .eql _ _ _ _,_,_,_,_⟩;first
    | (refine qJ rfl rfl rfl ?_;(next=>(first|exact rfl| (simp only [ox];omega)| (simp only [ox];simp [NFL] <;> omega))))
    | (refine qD rfl rfl rfl ?_;(next=>(first|exact rfl| (simp only [ox];omega)| (simp only [ox];simp [NFL] <;> omega))))
    |exact dp rfl rfl rfl
    | (refine qZ rfl rfl rfl ?_;(next=>(first|rfl|assumption)))
    | (refine rj rfl rfl rfl ?_;(next=>(first|rfl|assumption)))
    |exact ik rfl rfl rfl
    |fail)
   | (apply opk ⟨_,.buildSlice _ _ _,_,_,_,_⟩;first|exact gJ (T:=TT) rfl rfl rfl rfl rfl rfl rfl|fail)
   |fail)))
  | (refine arO _ ?_;first
   | (refine arO ⟨_,.move _,_,_,_,_⟩ ?_;first|refine jP rfl rfl rfl rfl ?_|fail)
   | (refine arO ⟨_,.assign _,_,_,_,_⟩ ?_;first
    |refine hQ rfl rfl rfl rfl ?_
    |refine A4 rfl rfl rfl rfl (fc (eC _) (.inr rfl)) ?_
    |fail)
   | (refine arO ⟨_,.call { callee:=.builtin .append,args:=_,argTypes:=_ },_,_,_,_⟩ ?_;first
    | (apply qe rfl rfl;(next=>(first
     | (apply dJ (T:=TT) rfl rfl rfl rfl rfl rfl rfl rfl rfl rfl;(next=>(first|exact trivial|exact cB _|assumption| (simp [eF,AV.one,AV.rd,AV.cells,cst,Value.oneCell'] <;> omega)));(next=>(first|omega| (simp [NFL] <;> omega))))
     | (apply dJ (T:=TT) rfl (wM bY rfl) rfl rfl rfl rfl rfl rfl rfl rfl;(next=>(first|exact trivial|exact cB _|assumption| (simp [eF,AV.one,AV.rd,AV.cells,cst,Value.oneCell'] <;> omega)));(next=>(first|omega| (simp [NFL] <;> omega))))
     | (apply dJ (T:=TT) rfl (wM (ez (by first|assumption| (intro e;exact absurd e.symm (by assumption))) bY) rfl) rfl rfl rfl rfl rfl rfl rfl rfl;(next=>(first|exact trivial|exact cB _|assumption| (simp [eF,AV.one,AV.rd,AV.cells,cst,Value.oneCell'] <;> omega)));(next=>(first|omega| (simp [NFL] <;> omega))))
     | (apply ge (T:=TT) rfl rfl rfl rfl rfl rfl rfl rfl rfl;(next=>(first|exact trivial|exact cB _|assumption| (simp [eF,AV.one,AV.rd,AV.cells,cst,Value.oneCell'] <;> omega)));(next=>(first|omega| (simp [NFL] <;> omega))))
     |fail)))
    |fail)
   |fail)
  |refine rg ?_
  | (refine arE ?_;refine nC [0,2,4] rfl ?_)
  |refine jv ?_
  |refine lD ?_
  |refine nM ?_
  |refine rq ?_
  |refine nt rfl ?_
  | (refine arC (.cond _ _ _) ?_;first
   | (refine fk rfl ?_ ?_;(next=>(first|rfl| (simp only [decide_eq_true_eq,beq_iff_eq,bne_iff_ne,ge_iff_le,gt_iff_lt,ne_eq,Bool.not_eq_true',decide_eq_false_iff_not];omega))))
   | (refine eN rfl ?_ ?_;(next=>(first
    |rfl
    | (simp only [decide_eq_false_iff_not,beq_eq_false_iff_ne,bne_eq_false_iff_eq,ge_iff_le,gt_iff_lt,ne_eq,Bool.not_eq_false',decide_eq_true_eq];omega))))
   |fail)
  |refine oe ?_
  |refine ly ?_
  |refine jR rfl ?_
  |refine jX ?_
  |refine jT ?_
  | (refine arC .ret ?_;refine pJ [2] ?_)
  |refine la ?_
  |refine lf ?_
  |refine kR ?_
  |refine pK ?_
  |fail)
 refine iv rfl rfl (xq (.inl ⟨rfl,rfl⟩) (TT.tyOk 38 (.slice 3) rfl) rfl rfl rfl (fun b hb=> ?_))
 cases b with
 |true=>exact absurd (hb rfl) hne
 |false=>
  repeat (first
   | ((first|apply zw|apply uR);(next=>(first| (simp only [go_sem,Nat.reduceBEq,Nat.reduceEqDiff,reduceIte,reduceCtorEq,String.reduceEq,Nat.reduceAdd,Int.reduceToNat];exact rfl)|exact rfl)))
   | (apply qT rfl rfl rfl rfl;(next=>exact un (T:=TT) rfl rfl))
   | (apply qT rfl rfl rfl rfl;(next=>(first
    | (refine ny (T:=TT) rfl ?_;(first|exact trivial|omega| (simp [NFL] <;> omega)))
    | (apply opk ⟨_,.move _,_,_,_,_⟩;first|exact fc (eC _) (.inl rfl)|fail)
    | (apply opk ⟨_,.binOp .eql _ _ _ _,_,_,_,_⟩;first
     | (refine qJ rfl rfl rfl ?_;(next=>(first|exact rfl| (simp only [ox];omega)| (simp only [ox];simp [NFL] <;> omega))))
     | (refine qD rfl rfl rfl ?_;(next=>(first|exact rfl| (simp only [ox];omega)| (simp only [ox];simp [NFL] <;> omega))))
     |exact dp rfl rfl rfl
     | (refine qZ rfl rfl rfl ?_;(next=>(first|rfl|assumption)))
     | (refine rj rfl rfl rfl ?_;(next=>(first|rfl|assumption)))
     |exact ik rfl rfl rfl
     |fail)
    | (apply opk ⟨_,.buildSlice _ _ _,_,_,_,_⟩;first|exact gJ (T:=TT) rfl rfl rfl rfl rfl rfl rfl|fail)
    |fail)))
   | (refine arO _ ?_;first
    | (refine arO ⟨_,.move _,_,_,_,_⟩ ?_;first|refine jP rfl rfl rfl rfl ?_|fail)
    | (refine arO ⟨_,.assign _,_,_,_,_⟩ ?_;first
     |refine hQ rfl rfl rfl rfl ?_
     |refine A4 rfl rfl rfl rfl (fc (eC _) (.inr rfl)) ?_
     |fail)
    | (refine arO ⟨_,.call { callee:=.builtin .append,args:=_,argTypes:=_ },_,_,_,_⟩ ?_;first
     | (apply qe rfl rfl;(next=>(first
      | (apply dJ (T:=TT) rfl rfl rfl rfl rfl rfl rfl rfl rfl rfl;(next=>(first|exact trivial|exact cB _|assumption| (simp [eF,AV.one,AV.rd,AV.cells,cst,Value.oneCell'] <;> omega)));(next=>(first|omega| (simp [NFL] <;> omega))))
      | (apply dJ (T:=TT) rfl (wM bY rfl) rfl rfl rfl rfl rfl rfl rfl rfl;(next=>(first|exact trivial|exact cB _|assumption| (simp [eF,AV.one,AV.rd,AV.cells,cst,Value.oneCell'] <;> omega)));(next=>(first|omega| (simp [NFL] <;> omega))))
      | (apply dJ (T:=TT) rfl (wM (ez (by first|assumption| (intro e;exact absurd e.symm (by assumption))) bY) rfl) rfl rfl rfl rfl rfl rfl rfl rfl;(next=>(first|exact trivial|exact cB _|assumption| (simp [eF,AV.one,AV.rd,AV.cells,cst,Value.oneCell'] <;> omega)));(next=>(first|omega| (simp [NFL] <;> omega))))
      | (apply ge (T:=TT) rfl rfl rfl rfl rfl rfl rfl rfl rfl;(next=>(first|exact trivial|exact cB _|assumption| (simp [eF,AV.one,AV.rd,AV.cells,cst,Value.oneCell'] <;> omega)));(next=>(first|omega| (simp [NFL] <;> omega))))
      |fail)))
     |fail)
    |fail)
   |refine rg ?_
   | (refine arE ?_;refine nC [0,2,4] rfl ?_)
   |refine jv ?_
   |refine lD ?_
   |refine nM ?_
   |refine rq ?_
   |refine nt rfl ?_
   | (refine arC (.cond _ _ _) ?_;first
    | (refine fk rfl ?_ ?_;(next=>(first|rfl| (simp only [decide_eq_true_eq,beq_iff_eq,bne_iff_ne,ge_iff_le,gt_iff_lt,ne_eq,Bool.not_eq_true',decide_eq_false_iff_not];omega))))
    | (refine eN rfl ?_ ?_;(next=>(first
     |rfl
     | (simp only [decide_eq_false_iff_not,beq_eq_false_iff_ne,bne_eq_false_iff_eq,ge_iff_le,gt_iff_lt,ne_eq,Bool.not_eq_false',decide_eq_true_eq];omega))))
    |fail)
   |refine oe ?_
   |refine ly ?_
   |refine jR rfl ?_
   |refine jX ?_
   |refine jT ?_
   | (refine arC .ret ?_;refine pJ [2] ?_)
   |refine la ?_
   |refine lf ?_
   |refine kR ?_
   |refine pK ?_
   |fail)
  have hfl:L.flatten.length=L.length * 1:=qk (L:=L) fun q hq=>(hone q hq).1
  refine iv rfl rfl (ud (T:=TT) (sz:=1) (by_:=8) (N:=L.length) (us:=L.flatten) rfl rfl rfl (.inr ⟨_,rfl⟩) rfl (by decide) (fun F X a hs=> ?_) (by omega) (by omega) (fun u hu=> ?_) rfl ?_)
  ·exact Cn (P:=Try.prog) (by decide) (bz hs (u:=.sl false 1 L) rfl) (fun q hq u hu=>((hone q hq).2 u hu).1)
  ·obtain⟨r,h1,h2⟩:=List.mem_flatten.1 hu
   exact((hone r h1).2 u h2).2
  intro k' cap vs hk' h1 h2
  repeat (first
   | ((first|apply zw|apply uR);(next=>(first| (simp only [go_sem,Nat.reduceBEq,Nat.reduceEqDiff,reduceIte,reduceCtorEq,String.reduceEq,Nat.reduceAdd,Int.reduceToNat];exact rfl)|exact rfl)))
   | (apply qT rfl rfl rfl rfl;(next=>(first
    | (refine ny (T:=TT) rfl ?_;(first|exact trivial|omega| (simp [NFL] <;> omega)))
    | (apply opk ⟨_,.move _,_,_,_,_⟩;first|exact fc (eC _) (.inl rfl)|fail)
    | (apply opk ⟨_,.binOp .eql _ _ _ _,_,_,_,_⟩;first
     | (refine qJ rfl rfl rfl ?_;(next=>(first|exact rfl| (simp only [ox];omega)| (simp only [ox];simp [NFL] <;> omega))))
     | (refine qD rfl rfl rfl ?_;(next=>(first|exact rfl| (simp only [ox];omega)| (simp only [ox];simp [NFL] <;> omega))))
     |exact dp rfl rfl rfl
     | (refine qZ rfl rfl rfl ?_;(next=>(first|rfl|assumption)))
     | (refine rj rfl rfl rfl ?_;(next=>(first|rfl|assumption)))
     |exact ik rfl rfl rfl
     |fail)
    | (apply opk ⟨_,.buildSlice _ _ _,_,_,_,_⟩;first|exact gJ (T:=TT) rfl rfl rfl rfl rfl rfl rfl|fail)
    |fail)))
   | (refine arO _ ?_;first
    | (refine arO ⟨_,.move _,_,_,_,_⟩ ?_;first|refine jP rfl rfl rfl rfl ?_|fail)
    | (refine arO ⟨_,.assign _,_,_,_,_⟩ ?_;first
     |refine hQ rfl rfl rfl rfl ?_
     |refine A4 rfl rfl rfl rfl (fc (eC _) (.inr rfl)) ?_
     |fail)
    | (refine arO ⟨_,.call { callee:=.builtin .append,args:=_,argTypes:=_ },_,_,_,_⟩ ?_;first
     | (apply qe rfl rfl;(next=>(first
      | (apply dJ (T:=TT) rfl rfl rfl rfl rfl rfl rfl rfl rfl rfl;(next=>(first|exact trivial|exact cB _|assumption| (simp [eF,AV.one,AV.rd,AV.cells,cst,Value.oneCell'] <;> omega)));(next=>(first|omega| (simp [NFL] <;> omega))))
      | (apply dJ (T:=TT) rfl (wM bY rfl) rfl rfl rfl rfl rfl rfl rfl rfl;(next=>(first|exact trivial|exact cB _|assumption| (simp [eF,AV.one,AV.rd,AV.cells,cst,Value.oneCell'] <;> omega)));(next=>(first|omega| (simp [NFL] <;> omega))))
      | (apply dJ (T:=TT) rfl (wM (ez (by first|assumption| (intro e;exact absurd e.symm (by assumption))) bY) rfl) rfl rfl rfl rfl rfl rfl rfl rfl;(next=>(first|exact trivial|exact cB _|assumption| (simp [eF,AV.one,AV.rd,AV.cells,cst,Value.oneCell'] <;> omega)));(next=>(first|omega| (simp [NFL] <;> omega))))
      | (apply ge (T:=TT) rfl rfl rfl rfl rfl rfl rfl rfl rfl;(next=>(first|exact trivial|exact cB _|assumption| (simp [eF,AV.one,AV.rd,AV.cells,cst,Value.oneCell'] <;> omega)));(next=>(first|omega| (simp [NFL] <;> omega))))
      |fail)))
     |fail)
    |fail)
   |refine rg ?_
   | (refine arE ?_;refine nC [0,2,4] rfl ?_)
   |refine jv ?_
   |refine lD ?_
   |refine nM ?_
   |refine rq ?_
   |refine nt rfl ?_
   | (refine arC (.cond _ _ _) ?_;first
    | (refine fk rfl ?_ ?_;(next=>(first|rfl| (simp only [decide_eq_true_eq,beq_iff_eq,bne_iff_ne,ge_iff_le,gt_iff_lt,ne_eq,Bool.not_eq_true',decide_eq_false_iff_not];omega))))
    | (refine eN rfl ?_ ?_;(next=>(first
     |rfl
     | (simp only [decide_eq_false_iff_not,beq_eq_false_iff_ne,bne_eq_false_iff_eq,ge_iff_le,gt_iff_lt,ne_eq,Bool.not_eq_false',decide_eq_true_eq];omega))))
    |fail)
   |refine oe ?_
   |refine ly ?_
   |refine jR rfl ?_
   |refine jX ?_
   |refine jT ?_
   | (refine arC .ret ?_;refine pJ [2] ?_)
   |refine la ?_
   |refine lf ?_
   |refine kR ?_
   |refine pK ?_
   |fail)
  exact⟨_,rfl,k',cap,vs,by rw [hln],rfl,by rw [List.length_append,hfl,List.length_map] at h2;omega⟩
end
def jq(N:Nat)(l:List Int):Option (PR (Nat × List Int)):=match l with
 | [] =>none
 |n::r=>if r.length < 1000000 then some (.ok (r.length+1,n::r)) else none
def zD(r:Nat × List Int):TV EE.T:=.a (.vec (.int .i64) 300000 r.1)
def xR(r:Nat × List Int):List (Nat × TB EE.T):=[(300000,.vec 300000 (.int .i64) r.2)]
def ng(N:Nat)(us:List (TV EE.T))(hs:List (Nat × TB EE.T)):XR EE.T:=
 gdX (fU us 1) <| bnX (aD (.sl (.int .i64)) us 0) fun x0=>.mv (jq N x0) [] [] 1 zD xR
theorem oM(N:Nat):XOk Try.prog EE 55 (ng N):=fun us hs=>
 a8 fun h1=>aA fun x0 h2=>fun p hz ρ hi=>by
  unfold jq at hz
  split at hz
  ·cases hz
  ·rename_i n r
   split at hz
   ·rename_i hl
    cases hz
    refine Ih (us':=[.a (.d (.sl (.int .i64)) (n::r))]) (h0:=[]) (ids:=[]) (ρ':=ρ) ⟨mo h2,cf h1⟩ trivial (H9 n r hl) ?_
    rintro out H ⟨k,c,vs,rfl,rfl,hc⟩
    have hlive:ba (cO ρ 300000 ⟨k,false,vs⟩) (TB.vec 300000 (.int .i64) (n::r):TB EE.T)=true:=by simp [ba]
    refine⟨cO ρ 300000 ⟨k,false,vs⟩,(fun i hi=>by cases hi),?_,?_,Inj.one⟩
    ·show AOut.ret _=AOut.ret (.v (vecV _ _ _))
     congr 2
     simp [vecV,cO,csz]
     omega
    ·refine Eq.trans ?_ (cU (ρ:=cO ρ 300000 ⟨k,false,vs⟩) (k:=300000) EE.toEnc [] hlive).symm
     have e1:(cO ρ 300000 ⟨k,false,vs⟩) 300000=k:=by simp [Rn.b,cO]
     have e2:(TB.vec 300000 (.int .i64) (n::r):TB EE.T).to EE.toEnc (cO ρ 300000 ⟨k,false,vs⟩)=((n::r).map fun x=>[AV.v (.int .i64 x)]).flatten++vs.map AV.v:=by
      show _++ ((cO ρ 300000 ⟨k,false,vs⟩).k 300000).sp.map AV.v=_
      rw [show(cO ρ 300000 ⟨k,false,vs⟩).k 300000=⟨k,false,vs⟩ by simp [cO]]
      rfl
     rw [e1,e2];rfl
   ·cases hz
end Go.Proofs.Ytlhjbhgkhpbnfaa
namespace Go.Proofs.Ytlhjbhgkhpbnfaa
open Go.RowKit P
set_option linter.unusedVariables false
set_option linter.unusedSimpArgs false
set_option maxRecDepth 100000
abbrev bB:=Int × (List UInt8) × Int × Int × Nat × (List Vstep)
def aC(N:Nat)(x1:Vstep)(y0_0:List UInt8)(y0_1:Int)(y0_2:Int)(y0_3:Nat)(y1:List Vstep):Option (PR bB):=
 (rp 32 y0_3 y1 ([x1] :List Vstep)).bind fun z1=>
 some (.ok (w64 ((z1.length:Int) - 1),y0_0,y0_1,y0_2,z1.length,z1))
abbrev bt:=UInt8 × Bool × (List UInt8) × Int × Int × Nat × (List Vstep)
def bg(N:Nat)(y0_0:List UInt8)(y0_1:Int)(y0_2:Int)(y0_3:Nat)(y1:List Vstep):Option (PR bt):=
 bif decide (y0_1 < (y0_0.length:Int)) then
  (ap y0_0 y0_1).bind fun z1=>
  some (.ok (z1,true,y0_0,y0_1,y0_2,y0_3,y1))
 else
  some (.ok (0,false,y0_0,y0_1,y0_2,y0_3,y1))
abbrev bu:=(List UInt8) × Int × Int × Nat × (List Vstep)
def aX(N:Nat)(x1:Int)(x2:Int)(y0_0:List UInt8)(y0_1:Int)(y0_2:Int)(y0_3:Nat)(y1:List Vstep):Option (PR bu):=
 some (.pan (Value.iface 28 (.agg #[.int .i64 x1,.int .i64 x2])))
abbrev fR:=Option (List Bool)
def im(N:Nat)(x0:UInt8):Option fR:=
 (eW 256 (b2i x0)).bind fun z1=>
 (vD (List.replicate 256 false) (0+z1) true).bind fun z2=>
 (pV 256 z2).bind fun z3=>
 some (some z3)
abbrev bE:=Bool × (List UInt8) × Int × Int × Nat × (List Vstep)
def bi(N:Nat)(x1:UInt8)(y0_0:List UInt8)(y0_1:Int)(y0_2:Int)(y0_3:Nat)(y1:List Vstep):Option (PR bE):=
 (bg N y0_0 y0_1 y0_2 y0_3 y1).bind fun z1=>
 match z1 with
 |.pan vz1=>
  some (.pan vz1)
 |.ok z2=>
  bif z2.2.1 then
   bif (b2i z2.1)==(b2i x1) then
    some (.ok (true,z2.2.2.1,w64 (z2.2.2.2.1+1),z2.2.2.2.2.1,z2.2.2.2.2.2.1,z2.2.2.2.2.2.2))
   else
    some (.ok (false,z2.2.2.1,z2.2.2.2.1,z2.2.2.2.2.1,z2.2.2.2.2.2.1,z2.2.2.2.2.2.2))
  else
   some (.ok (false,z2.2.2.1,z2.2.2.2.1,z2.2.2.2.2.1,z2.2.2.2.2.2.1,z2.2.2.2.2.2.2))
def bN(N:Nat)(x0:List UInt8)(x1:UInt8):Option Int:=
 (jm N x0 x1).bind fun z1=>
 some z1
abbrev aZ:=UInt8 × (List UInt8) × Int × Int × Nat × (List Vstep)
def cG(N:Nat)(n:Nat)(x3:UInt8)(b100000_0:List UInt8)(b100000_1:Int)(b100000_2:Int)(b100000_3_n:Nat)(b200001:List Vstep):Option (PR aZ):=
 (aX N 1 b100000_1 b100000_0 b100000_1 b100000_2 b100000_3_n b200001).bind fun z4=>
 match z4 with
 |.pan vz4=>
  some (.pan vz4)
 |.ok z5=>
  some (.ok (x3,z5.1,w64 (z5.2.1+1),z5.2.2.1,z5.2.2.2.1,z5.2.2.2.2))
def ci(N:Nat)(y0_0:List UInt8)(y0_1:Int)(y0_2:Int)(y0_3:Nat)(y1:List Vstep):Option (PR aZ):=
 (bg N y0_0 y0_1 y0_2 y0_3 y1).bind fun z1=>
 match z1 with
 |.pan vz1=>
  some (.pan vz1)
 |.ok z2=>
  bif !z2.2.1 then
   cG N N z2.1 z2.2.2.1 z2.2.2.2.1 z2.2.2.2.2.1 z2.2.2.2.2.2.1 z2.2.2.2.2.2.2
  else
   (bN N ([91,93,92,94,45] :List UInt8) z2.1).bind fun z3=>
   bif decide (z3≥0) then
    cG N N z2.1 z2.2.2.1 z2.2.2.2.1 z2.2.2.2.2.1 z2.2.2.2.2.2.1 z2.2.2.2.2.2.2
   else
    some (.ok (z2.1,z2.2.2.1,w64 (z2.2.2.2.1+1),z2.2.2.2.2.1,z2.2.2.2.2.2.1,z2.2.2.2.2.2.2))
abbrev ax:=(Option (List Bool)) × (List UInt8) × Int × Int × Nat × (List Vstep)
def cR(N:Nat)(k4:Bool→Bool→(List Bool)→(List UInt8)→Int→Int→Nat→(List Vstep)→Option (PR ax)):Nat→Bool→UInt8→Int→(List Bool)→(List UInt8)→Int→Int→Nat→(List Vstep)→Option (PR ax)
 |0,_,_,_,_,_,_,_,_,_=>none
 |n+1,x3,x7,x9,b4,b100000_0,b100000_1,b100000_2,b100000_3_n,b200001=>
  bif decide (x9≤(w64 (b2i x7))) then
   (eW 256 x9).bind fun z18=>
   (vD b4 (0+z18) true).bind fun z19=>
   cR N k4 n x3 x7 (w64 (x9+1)) z19 b100000_0 b100000_1 b100000_2 b100000_3_n b200001
  else
   k4 x3 false b4 b100000_0 b100000_1 b100000_2 b100000_3_n b200001
def bR(N:Nat)(k4:Bool→Bool→(List Bool)→(List UInt8)→Int→Int→Nat→(List Vstep)→Option (PR ax))(n:Nat)(x3:Bool)(x6:UInt8)(x7:UInt8)(b4:List Bool)(b100000_0:List UInt8)(b100000_1:Int)(b100000_2:Int)(b100000_3_n:Nat)(b200001:List Vstep):Option (PR ax):=
 cR N k4 n x3 x7 (w64 (b2i x6)) b4 b100000_0 b100000_1 b100000_2 b100000_3_n b200001
def cY(N:Nat)(k4:Bool→Bool→(List Bool)→(List UInt8)→Int→Int→Nat→(List Vstep)→Option (PR ax))(n:Nat)(x3:Bool)(b4:List Bool)(b100000_0:List UInt8)(b100000_1:Int)(b100000_2:Int)(b100000_3_n:Nat)(b200001:List Vstep):Option (PR ax):=
 (ci N b100000_0 b100000_1 b100000_2 b100000_3_n b200001).bind fun z5=>
 match z5 with
 |.pan vz5=>
  some (.pan vz5)
 |.ok z6=>
  (bi N 45 z6.2.1 z6.2.2.1 z6.2.2.2.1 z6.2.2.2.2.1 z6.2.2.2.2.2).bind fun z7=>
  match z7 with
  |.pan vz7=>
   some (.pan vz7)
  |.ok z8=>
   bif z8.1 then
    (ci N z8.2.1 z8.2.2.1 z8.2.2.2.1 z8.2.2.2.2.1 z8.2.2.2.2.2).bind fun z9=>
    match z9 with
    |.pan vz9=>
     some (.pan vz9)
    |.ok z10=>
     bif decide ((b2i z10.1) < (b2i z6.1)) then
      (aX N 3 z8.2.2.1 z10.2.1 z10.2.2.1 z10.2.2.2.1 z10.2.2.2.2.1 z10.2.2.2.2.2).bind fun z11=>
      match z11 with
      |.pan vz11=>
       some (.pan vz11)
      |.ok z12=>
       bR N k4 n x3 z6.1 z10.1 b4 z12.1 z12.2.1 z12.2.2.1 z12.2.2.2.1 z12.2.2.2.2
     else
      bR N k4 n x3 z6.1 z10.1 b4 z10.2.1 z10.2.2.1 z10.2.2.2.1 z10.2.2.2.2.1 z10.2.2.2.2.2
   else
    bR N k4 n x3 z6.1 z6.1 b4 z8.2.1 z8.2.2.1 z8.2.2.2.1 z8.2.2.2.2.1 z8.2.2.2.2.2
def cQ(N:Nat):Nat→Bool→Int→(List Bool)→(List UInt8)→Int→Int→Nat→(List Vstep)→Option (PR ax)
 |0,_,_,_,_,_,_,_,_=>none
 |n+1,x3,x46,b4,b100000_0,b100000_1,b100000_2,b100000_3_n,b200001=>
  bif decide (x46 < 256) then
   (eW 256 x46).bind fun z13=>
   (b4[0+z13]?).bind fun z14=>
   (eW 256 x46).bind fun z15=>
   (vD b4 (0+z15) (!(z14==x3))).bind fun z16=>
   cQ N n x3 (w64 (x46+1)) z16 b100000_0 b100000_1 b100000_2 b100000_3_n b200001
  else
   (pV 256 b4).bind fun z17=>
   some (.ok ((some z17),b100000_0,b100000_1,b100000_2,b100000_3_n,b200001))
def bZ(N:Nat):Nat→Bool→Bool→(List Bool)→(List UInt8)→Int→Int→Nat→(List Vstep)→Option (PR ax)
 |0,_,_,_,_,_,_,_,_=>none
 |n+1,x3,x5,b4,b100000_0,b100000_1,b100000_2,b100000_3_n,b200001=>
  bif x5 then
   cY N (bZ N n) n x3 b4 b100000_0 b100000_1 b100000_2 b100000_3_n b200001
  else
   (bi N 93 b100000_0 b100000_1 b100000_2 b100000_3_n b200001).bind fun z3=>
   match z3 with
   |.pan vz3=>
    some (.pan vz3)
   |.ok z4=>
    bif !z4.1 then
     cY N (bZ N n) n x3 b4 z4.2.1 z4.2.2.1 z4.2.2.2.1 z4.2.2.2.2.1 z4.2.2.2.2.2
    else
     cQ N n x3 0 b4 z4.2.1 z4.2.2.1 z4.2.2.2.1 z4.2.2.2.2.1 z4.2.2.2.2.2
def dQ(N:Nat)(y0_0:List UInt8)(y0_1:Int)(y0_2:Int)(y0_3:Nat)(y1:List Vstep):Option (PR ax):=
 (bi N 94 y0_0 y0_1 y0_2 y0_3 y1).bind fun z1=>
 match z1 with
 |.pan vz1=>
  some (.pan vz1)
 |.ok z2=>
  bZ N N z2.1 true (List.replicate 256 false) z2.2.1 z2.2.2.1 z2.2.2.2.1 z2.2.2.2.2.1 z2.2.2.2.2.2
abbrev aW:=(List Vstep) × (List Vstep)
def bx(N:Nat)(x0_o:Nat)(x0_n:Nat)(y0:List Vstep):Option (PR aW):=
 (Ek x0_o x0_n y0).bind fun z1=>
 (eE 32 ([] :List Vstep) z1).bind fun z2=>
 some (.ok (z2,y0))
abbrev bA:=(List Vstep) × (List UInt8) × Int × Int × Nat × (List Vstep)
def cz(N:Nat)(x1:Int)(y0_0:List UInt8)(y0_1:Int)(y0_2:Int)(y0_3:Nat)(y1:List Vstep):Option (PR bA):=
 (Bf y0_3 x1 (y0_3:Int)).bind fun z1=>
 (bx N z1.1 (y0_3 - z1.1) y1).bind fun z2=>
 match z2 with
 |.pan vz2=>
  some (.pan vz2)
 |.ok z3=>
  (Ii y0_3 z3.2 x1).bind fun z4=>
  some (.ok (z3.1,y0_0,y0_1,y0_2,z4.length,z4))
abbrev aK:=(List UInt8) × Int × Int × Nat × (List Vstep)
def b9(N:Nat)(k2:Int→(List Vstep)→Int→Int→(List UInt8)→Int→Int→Nat→(List Vstep)→Option (PR aK))(n:Nat)(x6:Int)(x16:List Vstep)(x17:Int)(x18:Int)(b8:Vstep)(b100000_0:List UInt8)(b100000_1:Int)(b100000_2:Int)(b100000_3_n:Nat)(b200001:List Vstep):Option (PR aK):=
 (aC N b8 b100000_0 b100000_1 b100000_2 b100000_3_n b200001).bind fun z2=>
 match z2 with
 |.pan vz2=>
  some (.pan vz2)
 |.ok z3=>
  k2 x6 x16 x17 (w64 (x18+1)) z3.2.1 z3.2.2.1 z3.2.2.2.1 z3.2.2.2.2.1 z3.2.2.2.2.2
def bv(N:Nat):Nat→Int→(List Vstep)→Int→Int→(List UInt8)→Int→Int→Nat→(List Vstep)→Option (PR aK)
 |0,_,_,_,_,_,_,_,_,_=>none
 |n+1,x6,x16,x17,x18,b100000_0,b100000_1,b100000_2,b100000_3_n,b200001=>
  bif decide (x18 < x17) then
   (ap x16 x18).bind fun z1=>
   bif z1.kind==1 then
    b9 N (bv N n) n x6 x16 x17 x18 ({ kind:=z1.kind,a:=w64 (z1.a+x6),b:=w64 (z1.b+x6),set_:=z1.set_ }:Vstep) b100000_0 b100000_1 b100000_2 b100000_3_n b200001
   else
    bif z1.kind==2 then
     b9 N (bv N n) n x6 x16 x17 x18 ({ kind:=z1.kind,a:=w64 (z1.a+x6),b:=z1.b,set_:=z1.set_ }:Vstep) b100000_0 b100000_1 b100000_2 b100000_3_n b200001
    else
     b9 N (bv N n) n x6 x16 x17 x18 z1 b100000_0 b100000_1 b100000_2 b100000_3_n b200001
  else
   some (.ok (b100000_0,b100000_1,b100000_2,b100000_3_n,b200001))
def bq(N:Nat)(x1:List Vstep)(x2:Int)(y0_0:List UInt8)(y0_1:Int)(y0_2:Int)(y0_3:Nat)(y1:List Vstep):Option (PR aK):=
 bv N N (w64 ((y0_3:Int) - x2)) x1 (x1.length:Int) 0 y0_0 y0_1 y0_2 y0_3 y1
structure RecC where
 n:Nat
 k:(List UInt8)→Int→Int→Nat→(List Vstep)→Option (PR (Bool × (List UInt8) × Int × Int × Nat × (List Vstep)))
def dR(N:RecC)(y0_0:List UInt8)(y0_1:Int)(y0_2:Int)(y0_3:Nat)(y1:List Vstep):Option (PR (Bool × (List UInt8) × Int × Int × Nat × (List Vstep))):=N.k y0_0 y0_1 y0_2 y0_3 y1
abbrev az:=Bool × (List UInt8) × Int × Int × Nat × (List Vstep)
def cH(N:RecC):Nat→Int→(List Bool)→(List UInt8)→Int→Int→Nat→(List Vstep)→Option (PR az)
 |0,_,_,_,_,_,_,_=>none
 |n+1,x51,b4,b100000_0,b100000_1,b100000_2,b100000_3_n,b200001=>
  bif decide (x51 < 256) then
   (eW 256 x51).bind fun z13=>
   (vD b4 (0+z13) true).bind fun z14=>
   cH N n (w64 (x51+1)) z14 b100000_0 b100000_1 b100000_2 b100000_3_n b200001
  else
   (pV 256 b4).bind fun z15=>
   (aC N.n ({ kind:=0,a:=0,b:=0,set_:=(some z15) }:Vstep) b100000_0 b100000_1 b100000_2 b100000_3_n b200001).bind fun z16=>
   match z16 with
   |.pan vz16=>
    some (.pan vz16)
   |.ok z17=>
    some (.ok (false,z17.2.1,z17.2.2.1,z17.2.2.2.1,z17.2.2.2.2.1,z17.2.2.2.2.2))
def cK(N:RecC)(n:Nat)(x6:UInt8)(b100000_0:List UInt8)(b100000_1:Int)(b100000_2:Int)(b100000_3_n:Nat)(b200001:List Vstep):Option (PR az):=
 (aX N.n 1 b100000_1 b100000_0 b100000_1 b100000_2 b100000_3_n b200001).bind fun z34=>
 match z34 with
 |.pan vz34=>
  some (.pan vz34)
 |.ok z35=>
  (im N.n x6).bind fun z36=>
  (aC N.n ({ kind:=0,a:=0,b:=0,set_:=z36 }:Vstep) z35.1 (w64 (z35.2.1+1)) z35.2.2.1 z35.2.2.2.1 z35.2.2.2.2).bind fun z37=>
  match z37 with
  |.pan vz37=>
   some (.pan vz37)
  |.ok z38=>
   some (.ok (false,z38.2.1,z38.2.2.1,z38.2.2.2.1,z38.2.2.2.2.1,z38.2.2.2.2.2))
def aF(N:RecC)(n:Nat)(x6:UInt8)(x7:Bool)(x8:Bool)(b100000_0:List UInt8)(b100000_1:Int)(b100000_2:Int)(b100000_3_n:Nat)(b200001:List Vstep):Option (PR az):=
 bif !x7 then
  cK N n x6 b100000_0 b100000_1 b100000_2 b100000_3_n b200001
 else
  bif x8 then
   cK N n x6 b100000_0 b100000_1 b100000_2 b100000_3_n b200001
  else
   (im N.n x6).bind fun z18=>
   (aC N.n ({ kind:=0,a:=0,b:=0,set_:=z18 }:Vstep) b100000_0 (w64 (b100000_1+1)) b100000_2 b100000_3_n b200001).bind fun z19=>
   match z19 with
   |.pan vz19=>
    some (.pan vz19)
   |.ok z20=>
    some (.ok (false,z20.2.1,z20.2.2.1,z20.2.2.2.1,z20.2.2.2.2.1,z20.2.2.2.2.2))
def cL(N:RecC)(n:Nat)(b100000_0:List UInt8)(b100000_1:Int)(b100000_2:Int)(b100000_3_n:Nat)(b200001:List Vstep):Option (PR az):=
 (aC N.n ({ kind:=3,a:=w64 (2 * (w64 (b100000_2+1))),b:=0,set_:=(none:Option (List Bool)) }:Vstep) b100000_0 (w64 (b100000_1+1)) (w64 (b100000_2+1)) b100000_3_n b200001).bind fun z21=>
 match z21 with
 |.pan vz21=>
  some (.pan vz21)
 |.ok z22=>
  (dR N z22.2.1 z22.2.2.1 z22.2.2.2.1 z22.2.2.2.2.1 z22.2.2.2.2.2).bind fun z23=>
  match z23 with
  |.pan vz23=>
   some (.pan vz23)
  |.ok z24=>
   (aC N.n ({ kind:=3,a:=w64 ((w64 (2 * (w64 (b100000_2+1))))+1),b:=0,set_:=(none:Option (List Bool)) }:Vstep) z24.2.1 z24.2.2.1 z24.2.2.2.1 z24.2.2.2.2.1 z24.2.2.2.2.2).bind fun z25=>
   match z25 with
   |.pan vz25=>
    some (.pan vz25)
   |.ok z26=>
    (bi N.n 41 z26.2.1 z26.2.2.1 z26.2.2.2.1 z26.2.2.2.2.1 z26.2.2.2.2.2).bind fun z27=>
    match z27 with
    |.pan vz27=>
     some (.pan vz27)
    |.ok z28=>
     bif !z28.1 then
      (aX N.n 1 z28.2.2.1 z28.2.1 z28.2.2.1 z28.2.2.2.1 z28.2.2.2.2.1 z28.2.2.2.2.2).bind fun z29=>
      match z29 with
      |.pan vz29=>
       some (.pan vz29)
      |.ok z30=>
       some (.ok (z24.1,z30.1,z30.2.1,z30.2.2.1,z30.2.2.2.1,z30.2.2.2.2))
     else
      some (.ok (z24.1,z28.2.1,z28.2.2.1,z28.2.2.2.1,z28.2.2.2.2.1,z28.2.2.2.2.2))
def cT(N:RecC)(n:Nat)(x3:UInt8)(b100000_0:List UInt8)(b100000_1:Int)(b100000_2:Int)(b100000_3_n:Nat)(b200001:List Vstep):Option (PR az):=
 (im N.n x3).bind fun z31=>
 (aC N.n ({ kind:=0,a:=0,b:=0,set_:=z31 }:Vstep) b100000_0 (w64 (b100000_1+1)) b100000_2 b100000_3_n b200001).bind fun z32=>
 match z32 with
 |.pan vz32=>
  some (.pan vz32)
 |.ok z33=>
  some (.ok (false,z33.2.1,z33.2.2.1,z33.2.2.2.1,z33.2.2.2.2.1,z33.2.2.2.2.2))
def dC(N:RecC)(y0_0:List UInt8)(y0_1:Int)(y0_2:Int)(y0_3:Nat)(y1:List Vstep):Option (PR az):=
 (ap y0_0 y0_1).bind fun z1=>
 bif (b2i z1)==(b2i 46) then
  cH N N.n 0 (List.replicate 256 false) y0_0 (w64 (y0_1+1)) y0_2 y0_3 y1
 else
  bif (b2i z1)==(b2i 92) then
   (bg N.n y0_0 (w64 (y0_1+1)) y0_2 y0_3 y1).bind fun z2=>
   match z2 with
   |.pan vz2=>
    some (.pan vz2)
   |.ok z3=>
    bif decide ((b2i z3.1)≥(b2i 97)) then
     bif decide ((b2i z3.1)≤(b2i 122)) then
      aF N N.n z3.1 z3.2.1 true z3.2.2.1 z3.2.2.2.1 z3.2.2.2.2.1 z3.2.2.2.2.2.1 z3.2.2.2.2.2.2
     else
      bif decide ((b2i z3.1)≥(b2i 65)) then
       bif decide ((b2i z3.1)≤(b2i 90)) then
        aF N N.n z3.1 z3.2.1 true z3.2.2.1 z3.2.2.2.1 z3.2.2.2.2.1 z3.2.2.2.2.2.1 z3.2.2.2.2.2.2
       else
        bif decide ((b2i z3.1)≥(b2i 48)) then
         aF N N.n z3.1 z3.2.1 (decide ((b2i z3.1)≤(b2i 57))) z3.2.2.1 z3.2.2.2.1 z3.2.2.2.2.1 z3.2.2.2.2.2.1 z3.2.2.2.2.2.2
        else
         aF N N.n z3.1 z3.2.1 false z3.2.2.1 z3.2.2.2.1 z3.2.2.2.2.1 z3.2.2.2.2.2.1 z3.2.2.2.2.2.2
      else
       bif decide ((b2i z3.1)≥(b2i 48)) then
        aF N N.n z3.1 z3.2.1 (decide ((b2i z3.1)≤(b2i 57))) z3.2.2.1 z3.2.2.2.1 z3.2.2.2.2.1 z3.2.2.2.2.2.1 z3.2.2.2.2.2.2
       else
        aF N N.n z3.1 z3.2.1 false z3.2.2.1 z3.2.2.2.1 z3.2.2.2.2.1 z3.2.2.2.2.2.1 z3.2.2.2.2.2.2
    else
     bif decide ((b2i z3.1)≥(b2i 65)) then
      bif decide ((b2i z3.1)≤(b2i 90)) then
       aF N N.n z3.1 z3.2.1 true z3.2.2.1 z3.2.2.2.1 z3.2.2.2.2.1 z3.2.2.2.2.2.1 z3.2.2.2.2.2.2
      else
       bif decide ((b2i z3.1)≥(b2i 48)) then
        aF N N.n z3.1 z3.2.1 (decide ((b2i z3.1)≤(b2i 57))) z3.2.2.1 z3.2.2.2.1 z3.2.2.2.2.1 z3.2.2.2.2.2.1 z3.2.2.2.2.2.2
       else
        aF N N.n z3.1 z3.2.1 false z3.2.2.1 z3.2.2.2.1 z3.2.2.2.2.1 z3.2.2.2.2.2.1 z3.2.2.2.2.2.2
     else
      bif decide ((b2i z3.1)≥(b2i 48)) then
       aF N N.n z3.1 z3.2.1 (decide ((b2i z3.1)≤(b2i 57))) z3.2.2.1 z3.2.2.2.1 z3.2.2.2.2.1 z3.2.2.2.2.2.1 z3.2.2.2.2.2.2
      else
       aF N N.n z3.1 z3.2.1 false z3.2.2.1 z3.2.2.2.1 z3.2.2.2.2.1 z3.2.2.2.2.2.1 z3.2.2.2.2.2.2
  else
   bif (b2i z1)==(b2i 91) then
    (dQ N.n y0_0 (w64 (y0_1+1)) y0_2 y0_3 y1).bind fun z4=>
    match z4 with
    |.pan vz4=>
     some (.pan vz4)
    |.ok z5=>
     (aC N.n ({ kind:=0,a:=0,b:=0,set_:=z5.1 }:Vstep) z5.2.1 z5.2.2.1 z5.2.2.2.1 z5.2.2.2.2.1 z5.2.2.2.2.2).bind fun z6=>
     match z6 with
     |.pan vz6=>
      some (.pan vz6)
     |.ok z7=>
      some (.ok (false,z7.2.1,z7.2.2.1,z7.2.2.2.1,z7.2.2.2.2.1,z7.2.2.2.2.2))
   else
    bif (b2i z1)==(b2i 40) then
     bif y0_2==9 then
      (aX N.n 2 y0_1 y0_0 y0_1 y0_2 y0_3 y1).bind fun z8=>
      match z8 with
      |.pan vz8=>
       some (.pan vz8)
      |.ok z9=>
       cL N N.n z9.1 z9.2.1 z9.2.2.1 z9.2.2.2.1 z9.2.2.2.2
     else
      cL N N.n y0_0 y0_1 y0_2 y0_3 y1
    else
     (bN N.n ([42,43,63,41,124,93] :List UInt8) z1).bind fun z10=>
     bif decide (z10≥0) then
      (aX N.n 1 y0_1 y0_0 y0_1 y0_2 y0_3 y1).bind fun z11=>
      match z11 with
      |.pan vz11=>
       some (.pan vz11)
      |.ok z12=>
       cT N N.n z1 z12.1 z12.2.1 z12.2.2.1 z12.2.2.2.1 z12.2.2.2.2
     else
      cT N N.n z1 y0_0 y0_1 y0_2 y0_3 y1
abbrev aL:=Bool × (List UInt8) × Int × Int × Nat × (List Vstep)
def bl(N:RecC)(n:Nat)(x3:Int)(x6:UInt8)(b100000_0:List UInt8)(b100000_1:Int)(b100000_2:Int)(b100000_3_n:Nat)(b200001:List Vstep):Option (PR aL):=
 (cz N.n x3 b100000_0 (w64 (b100000_1+1)) b100000_2 b100000_3_n b200001).bind fun z8=>
 match z8 with
 |.pan vz8=>
  some (.pan vz8)
 |.ok z9=>
  bif (b2i x6)==(b2i 42) then
   (aC N.n ({ kind:=1,a:=0,b:=0,set_:=(none:Option (List Bool)) }:Vstep) z9.2.1 z9.2.2.1 z9.2.2.2.1 z9.2.2.2.2.1 z9.2.2.2.2.2).bind fun z10=>
   match z10 with
   |.pan vz10=>
    some (.pan vz10)
   |.ok z11=>
    (eW z11.2.2.2.2.1 z11.1).bind fun z12=>
    (z11.2.2.2.2.2[z12]?).bind fun z13=>
    (bq N.n z9.1 x3 z11.2.1 z11.2.2.1 z11.2.2.2.1 z11.2.2.2.2.1 (List.set z11.2.2.2.2.2 z12 ({ kind:=z13.kind,a:=(z11.2.2.2.2.1:Int),b:=z13.b,set_:=z13.set_ }:Vstep))).bind fun z14=>
    match z14 with
    |.pan vz14=>
     some (.pan vz14)
    |.ok z15=>
     (aC N.n ({ kind:=2,a:=z11.1,b:=0,set_:=(none:Option (List Bool)) }:Vstep) z15.1 z15.2.1 z15.2.2.1 z15.2.2.2.1 z15.2.2.2.2).bind fun z16=>
     match z16 with
     |.pan vz16=>
      some (.pan vz16)
     |.ok z17=>
      (eW z17.2.2.2.2.1 z11.1).bind fun z18=>
      (z17.2.2.2.2.2[z18]?).bind fun z19=>
      some (.ok (true,z17.2.1,z17.2.2.1,z17.2.2.2.1,z17.2.2.2.2.1,List.set z17.2.2.2.2.2 z18 ({ kind:=z19.kind,a:=z19.a,b:=(z17.2.2.2.2.1:Int),set_:=z19.set_ }:Vstep)))
  else
   bif (b2i x6)==(b2i 43) then
    (bq N.n z9.1 x3 z9.2.1 z9.2.2.1 z9.2.2.2.1 z9.2.2.2.2.1 z9.2.2.2.2.2).bind fun z20=>
    match z20 with
    |.pan vz20=>
     some (.pan vz20)
    |.ok z21=>
     (aC N.n ({ kind:=1,a:=x3,b:=0,set_:=(none:Option (List Bool)) }:Vstep) z21.1 z21.2.1 z21.2.2.1 z21.2.2.2.1 z21.2.2.2.2).bind fun z22=>
     match z22 with
     |.pan vz22=>
      some (.pan vz22)
     |.ok z23=>
      (eW z23.2.2.2.2.1 z23.1).bind fun z24=>
      (z23.2.2.2.2.2[z24]?).bind fun z25=>
      some (.ok (false,z23.2.1,z23.2.2.1,z23.2.2.2.1,z23.2.2.2.2.1,List.set z23.2.2.2.2.2 z24 ({ kind:=z25.kind,a:=z25.a,b:=(z23.2.2.2.2.1:Int),set_:=z25.set_ }:Vstep)))
   else
    (aC N.n ({ kind:=1,a:=0,b:=0,set_:=(none:Option (List Bool)) }:Vstep) z9.2.1 z9.2.2.1 z9.2.2.2.1 z9.2.2.2.2.1 z9.2.2.2.2.2).bind fun z26=>
    match z26 with
    |.pan vz26=>
     some (.pan vz26)
    |.ok z27=>
     (eW z27.2.2.2.2.1 z27.1).bind fun z28=>
     (z27.2.2.2.2.2[z28]?).bind fun z29=>
     (bq N.n z9.1 x3 z27.2.1 z27.2.2.1 z27.2.2.2.1 z27.2.2.2.2.1 (List.set z27.2.2.2.2.2 z28 ({ kind:=z29.kind,a:=(z27.2.2.2.2.1:Int),b:=z29.b,set_:=z29.set_ }:Vstep))).bind fun z30=>
     match z30 with
     |.pan vz30=>
      some (.pan vz30)
     |.ok z31=>
      (eW z31.2.2.2.1 z27.1).bind fun z32=>
      (z31.2.2.2.2[z32]?).bind fun z33=>
      some (.ok (true,z31.1,z31.2.1,z31.2.2.1,z31.2.2.2.1,List.set z31.2.2.2.2 z32 ({ kind:=z33.kind,a:=z33.a,b:=(z31.2.2.2.1:Int),set_:=z33.set_ }:Vstep)))
def bL(N:RecC)(n:Nat)(x3:Int)(x4:Bool)(x5:Bool)(x6:UInt8)(b100000_0:List UInt8)(b100000_1:Int)(b100000_2:Int)(b100000_3_n:Nat)(b200001:List Vstep):Option (PR aL):=
 bif x5 then
  bif x4 then
   bif (b2i x6) != (b2i 63) then
    (aX N.n 4 b100000_1 b100000_0 b100000_1 b100000_2 b100000_3_n b200001).bind fun z6=>
    match z6 with
    |.pan vz6=>
     some (.pan vz6)
    |.ok z7=>
     bl N n x3 x6 z7.1 z7.2.1 z7.2.2.1 z7.2.2.2.1 z7.2.2.2.2
   else
    bl N n x3 x6 b100000_0 b100000_1 b100000_2 b100000_3_n b200001
  else
   bl N n x3 x6 b100000_0 b100000_1 b100000_2 b100000_3_n b200001
 else
  bl N n x3 x6 b100000_0 b100000_1 b100000_2 b100000_3_n b200001
def dl(N:RecC)(y0_0:List UInt8)(y0_1:Int)(y0_2:Int)(y0_3:Nat)(y1:List Vstep):Option (PR aL):=
 (ap y0_0 y0_1).bind fun z1=>
 (dC N y0_0 y0_1 y0_2 y0_3 y1).bind fun z2=>
 match z2 with
 |.pan vz2=>
  some (.pan vz2)
 |.ok z3=>
  (bg N.n z3.2.1 z3.2.2.1 z3.2.2.2.1 z3.2.2.2.2.1 z3.2.2.2.2.2).bind fun z4=>
  match z4 with
  |.pan vz4=>
   some (.pan vz4)
  |.ok z5=>
   bif !z5.2.1 then
    some (.ok (z3.1,z5.2.2.1,z5.2.2.2.1,z5.2.2.2.2.1,z5.2.2.2.2.2.1,z5.2.2.2.2.2.2))
   else
    bif (b2i z5.1) != (b2i 42) then
     bif (b2i z5.1) != (b2i 43) then
      bif (b2i z5.1) != (b2i 63) then
       some (.ok (z3.1,z5.2.2.1,z5.2.2.2.1,z5.2.2.2.2.1,z5.2.2.2.2.2.1,z5.2.2.2.2.2.2))
      else
       bL N N.n (y0_3:Int) ((b2i z1)==(b2i 40)) z3.1 z5.1 z5.2.2.1 z5.2.2.2.1 z5.2.2.2.2.1 z5.2.2.2.2.2.1 z5.2.2.2.2.2.2
     else
      bL N N.n (y0_3:Int) ((b2i z1)==(b2i 40)) z3.1 z5.1 z5.2.2.1 z5.2.2.2.1 z5.2.2.2.2.1 z5.2.2.2.2.2.1 z5.2.2.2.2.2.2
    else
     bL N N.n (y0_3:Int) ((b2i z1)==(b2i 40)) z3.1 z5.1 z5.2.2.1 z5.2.2.2.1 z5.2.2.2.2.1 z5.2.2.2.2.2.1 z5.2.2.2.2.2.2
abbrev bc:=Bool × (List UInt8) × Int × Int × Nat × (List Vstep)
def cb(N:RecC):Nat→Bool→(List UInt8)→Int→Int→Nat→(List Vstep)→Option (PR bc)
 |0,_,_,_,_,_,_=>none
 |n+1,x3,b100000_0,b100000_1,b100000_2,b100000_3_n,b200001=>
  (bg N.n b100000_0 b100000_1 b100000_2 b100000_3_n b200001).bind fun z1=>
  match z1 with
  |.pan vz1=>
   some (.pan vz1)
  |.ok z2=>
   bif !z2.2.1 then
    some (.ok (x3,z2.2.2.1,z2.2.2.2.1,z2.2.2.2.2.1,z2.2.2.2.2.2.1,z2.2.2.2.2.2.2))
   else
    bif (b2i z2.1)==(b2i 124) then
     some (.ok (x3,z2.2.2.1,z2.2.2.2.1,z2.2.2.2.2.1,z2.2.2.2.2.2.1,z2.2.2.2.2.2.2))
    else
     bif (b2i z2.1)==(b2i 41) then
      some (.ok (x3,z2.2.2.1,z2.2.2.2.1,z2.2.2.2.2.1,z2.2.2.2.2.2.1,z2.2.2.2.2.2.2))
     else
      (dl N z2.2.2.1 z2.2.2.2.1 z2.2.2.2.2.1 z2.2.2.2.2.2.1 z2.2.2.2.2.2.2).bind fun z3=>
      match z3 with
      |.pan vz3=>
       some (.pan vz3)
      |.ok z4=>
       bif !z4.1 then
        cb N n false z4.2.1 z4.2.2.1 z4.2.2.2.1 z4.2.2.2.2.1 z4.2.2.2.2.2
       else
        cb N n x3 z4.2.1 z4.2.2.1 z4.2.2.2.1 z4.2.2.2.2.1 z4.2.2.2.2.2
def dS(N:RecC)(y0_0:List UInt8)(y0_1:Int)(y0_2:Int)(y0_3:Nat)(y1:List Vstep):Option (PR bc):=
 cb N N.n true y0_0 y0_1 y0_2 y0_3 y1
abbrev br:=Bool × (List UInt8) × Int × Int × Nat × (List Vstep)
def dz(N:RecC)(y0_0:List UInt8)(y0_1:Int)(y0_2:Int)(y0_3:Nat)(y1:List Vstep):Option (PR br):=
 (dR N y0_0 y0_1 y0_2 y0_3 y1).bind fun z1=>
 match z1 with
 |.pan vz1=>
  some (.pan vz1)
 |.ok z2=>
  some (.ok (z2.1,z2.2.1,z2.2.2.1,z2.2.2.2.1,z2.2.2.2.2.1,z2.2.2.2.2.2))
abbrev aG:=Bool × (List UInt8) × Int × Int × Nat × (List Vstep)
def cJ(N:RecC)(k3:Int→Bool→(List UInt8)→Int→Int→Nat→(List Vstep)→Option (PR aG))(n:Nat)(x4:Bool)(x7:Int)(b100000_0:List UInt8)(b100000_1:Int)(b100000_2:Int)(b100000_3_n:Nat)(b200001:List Vstep):Option (PR aG):=
 (eW b100000_3_n x7).bind fun z19=>
 (b200001[z19]?).bind fun z20=>
 some (.ok (x4,b100000_0,b100000_1,b100000_2,b100000_3_n,List.set b200001 z19 ({ kind:=z20.kind,a:=(b100000_3_n:Int),b:=z20.b,set_:=z20.set_ }:Vstep)))
def bU(N:RecC):Nat→Int→Bool→(List UInt8)→Int→Int→Nat→(List Vstep)→Option (PR aG)
 |0,_,_,_,_,_,_,_=>none
 |n+1,x3,x4,b100000_0,b100000_1,b100000_2,b100000_3_n,b200001=>
  (bi N.n 124 b100000_0 b100000_1 b100000_2 b100000_3_n b200001).bind fun z3=>
  match z3 with
  |.pan vz3=>
   some (.pan vz3)
  |.ok z4=>
   bif z4.1 then
    (cz N.n x3 z4.2.1 z4.2.2.1 z4.2.2.2.1 z4.2.2.2.2.1 z4.2.2.2.2.2).bind fun z5=>
    match z5 with
    |.pan vz5=>
     some (.pan vz5)
    |.ok z6=>
     (aC N.n ({ kind:=1,a:=0,b:=0,set_:=(none:Option (List Bool)) }:Vstep) z6.2.1 z6.2.2.1 z6.2.2.2.1 z6.2.2.2.2.1 z6.2.2.2.2.2).bind fun z7=>
     match z7 with
     |.pan vz7=>
      some (.pan vz7)
     |.ok z8=>
      (eW z8.2.2.2.2.1 z8.1).bind fun z9=>
      (z8.2.2.2.2.2[z9]?).bind fun z10=>
      (bq N.n z6.1 x3 z8.2.1 z8.2.2.1 z8.2.2.2.1 z8.2.2.2.2.1 (List.set z8.2.2.2.2.2 z9 ({ kind:=z10.kind,a:=(z8.2.2.2.2.1:Int),b:=z10.b,set_:=z10.set_ }:Vstep))).bind fun z11=>
      match z11 with
      |.pan vz11=>
       some (.pan vz11)
      |.ok z12=>
       (aC N.n ({ kind:=2,a:=0,b:=0,set_:=(none:Option (List Bool)) }:Vstep) z12.1 z12.2.1 z12.2.2.1 z12.2.2.2.1 z12.2.2.2.2).bind fun z13=>
       match z13 with
       |.pan vz13=>
        some (.pan vz13)
       |.ok z14=>
        (eW z14.2.2.2.2.1 z8.1).bind fun z15=>
        (z14.2.2.2.2.2[z15]?).bind fun z16=>
        (dz N z14.2.1 z14.2.2.1 z14.2.2.2.1 z14.2.2.2.2.1 (List.set z14.2.2.2.2.2 z15 ({ kind:=z16.kind,a:=z16.a,b:=(z14.2.2.2.2.1:Int),set_:=z16.set_ }:Vstep))).bind fun z17=>
        match z17 with
        |.pan vz17=>
         some (.pan vz17)
        |.ok z18=>
         bif z18.1 then
          cJ N (bU N n) n true z14.1 z18.2.1 z18.2.2.1 z18.2.2.2.1 z18.2.2.2.2.1 z18.2.2.2.2.2
         else
          cJ N (bU N n) n x4 z14.1 z18.2.1 z18.2.2.1 z18.2.2.2.1 z18.2.2.2.2.1 z18.2.2.2.2.2
   else
    some (.ok (x4,z4.2.1,z4.2.2.1,z4.2.2.2.1,z4.2.2.2.2.1,z4.2.2.2.2.2))
def dB(N:RecC)(y0_0:List UInt8)(y0_1:Int)(y0_2:Int)(y0_3:Nat)(y1:List Vstep):Option (PR aG):=
 (dS N y0_0 y0_1 y0_2 y0_3 y1).bind fun z1=>
 match z1 with
 |.pan vz1=>
  some (.pan vz1)
 |.ok z2=>
  bU N N.n (y0_3:Int) z2.1 z2.2.1 z2.2.2.1 z2.2.2.2.1 z2.2.2.2.2.1 z2.2.2.2.2.2
def eL(n0:Nat):Nat→(List UInt8)→Int→Int→Nat→(List Vstep)→Option (PR (Bool × (List UInt8) × Int × Int × Nat × (List Vstep)))
 |0,_,_,_,_,_=>none
 |m+1,y0_0,y0_1,y0_2,y0_3,y1=>dB ⟨n0,eL n0 m⟩ y0_0 y0_1 y0_2 y0_3 y1
abbrev aO:=(List (List UInt8)) × VMask
def cn(N:Nat)(k3:(List UInt8)→(List Int)→(List (List UInt8))→Int→VMask→Option aO)(n:Nat)(x1:List UInt8)(x2:List Int)(x7:List (List UInt8))(x8:Int)(x9:List UInt8)(b100000:VMask):Option aO:=
 (eE 16 x7 ([x9] :List (List UInt8))).bind fun z7=>
 k3 x1 x2 z7 (w64 (x8+1)) b100000
def bD(N:Nat):Nat→(List UInt8)→(List Int)→(List (List UInt8))→Int→VMask→Option aO
 |0,_,_,_,_,_=>none
 |n+1,x1,x2,x7,x8,b100000=>
  bif decide (x8≤b100000.Groups) then
   (ap x2 (w64 (2 * x8))).bind fun z1=>
   bif decide (z1≥0) then
    (ap x2 (w64 ((w64 (2 * x8))+1))).bind fun z2=>
    (ap x2 (w64 (2 * x8))).bind fun z3=>
    bif decide (z2≥z3) then
     (ap x2 (w64 (2 * x8))).bind fun z4=>
     (ap x2 (w64 ((w64 (2 * x8))+1))).bind fun z5=>
     (gq x1 z4 z5).bind fun z6=>
     cn N (bD N n) n x1 x2 x7 x8 z6 b100000
    else
     cn N (bD N n) n x1 x2 x7 x8 ([] :List UInt8) b100000
   else
    cn N (bD N n) n x1 x2 x7 x8 ([] :List UInt8) b100000
  else
   some (x7,b100000)
def ef(N:Nat)(x1:List UInt8)(x2:List Int)(y0:VMask):Option aO:=
 bD N N x1 x2 ([] :List (List UInt8)) 1 y0
def er(N:Nat)(x0:UInt8):Option Bool:=
 bif decide ((b2i x0)≥(b2i 48)) then
  some (decide ((b2i x0)≤(b2i 57)))
 else
  some false
abbrev ce:=(List Vpiece) × Bool
def bQ(N:Nat):Nat→(List UInt8)→(List Vpiece)→Option ce
 |0,_,_=>none
 |n+1,x0,x4=>
  bif !decide (x0=([] :List UInt8)) then
   (ap x0 0).bind fun z1=>
   bif (b2i z1) != (b2i 36) then
    (vA x0 ([36] :List UInt8)).bind fun z2=>
    (bN N z2 36).bind fun z3=>
    (gq x0 0 z3).bind fun z4=>
    (eE 24 x4 ([({ text:=z4,group:=(-1) }:Vpiece)] :List Vpiece)).bind fun z5=>
    (gq x0 z3 (x0.length:Int)).bind fun z6=>
    bQ N n z6 z5
   else
    (gq x0 1 (x0.length:Int)).bind fun z7=>
    bif decide (z7=([] :List UInt8)) then
     some (([] :List Vpiece),false)
    else
     (ap z7 0).bind fun z8=>
     bif (b2i z8)==(b2i 36) then
      (eE 24 x4 ([({ text:=([36] :List UInt8),group:=(-1) }:Vpiece)] :List Vpiece)).bind fun z9=>
      (gq z7 1 (z7.length:Int)).bind fun z10=>
      bQ N n z10 z9
     else
      (ap z7 0).bind fun z11=>
      (er N z11).bind fun z12=>
      bif z12 then
       (ap z7 0).bind fun z13=>
       (eE 24 x4 ([({ text:=([] :List UInt8),group:=w64 (b2i (toB (IntKind.wrap .u8 ((b2i z13) - (b2i 48))))) }:Vpiece)] :List Vpiece)).bind fun z14=>
       (gq z7 1 (z7.length:Int)).bind fun z15=>
       bQ N n z15 z14
      else
       bif decide ((z7.length:Int) > 2) then
        (ap z7 0).bind fun z16=>
        bif (b2i z16)==(b2i 123) then
         (ap z7 1).bind fun z17=>
         (er N z17).bind fun z18=>
         bif z18 then
          (ap z7 2).bind fun z19=>
          bif (b2i z19)==(b2i 125) then
           (ap z7 1).bind fun z20=>
           (eE 24 x4 ([({ text:=([] :List UInt8),group:=w64 (b2i (toB (IntKind.wrap .u8 ((b2i z20) - (b2i 48))))) }:Vpiece)] :List Vpiece)).bind fun z21=>
           (gq z7 3 (z7.length:Int)).bind fun z22=>
           bQ N n z22 z21
          else
           some (([] :List Vpiece),false)
         else
          some (([] :List Vpiece),false)
        else
         some (([] :List Vpiece),false)
       else
        some (([] :List Vpiece),false)
  else
   some (x4,true)
def gQ(N:Nat)(x0:List UInt8):Option ce:=
 bQ N N x0 ([] :List Vpiece)
structure RecC2 where
 n:Nat
 k:Nat→Vthread→Int→VMask→(List Vthread)→(List (Int × Bool))→Option (PR (Nat × VMask × (List Vthread) × (List (Int × Bool))))
def cW(N:RecC2)(x1_n:Nat)(x3:Vthread)(x4:Int)(y0:VMask)(y1:List Vthread)(y2:List (Int × Bool)):Option (PR (Nat × VMask × (List Vthread) × (List (Int × Bool)))):=N.k x1_n x3 x4 y0 y1 y2
abbrev bm:=Nat × VMask × (List Vthread) × (List (Int × Bool))
def ai(N:RecC2)(n:Nat)(x1_n:Nat)(x4:Int)(b8:Vthread)(b11:Vstep)(b100000:VMask)(b100002:List (Int × Bool))(b200001:List Vthread):Option (PR bm):=
 bif b11.kind==2 then
  (cW N x1_n ({ at_:=b11.a,slots:=b8.slots }:Vthread) x4 b100000 b200001 b100002).bind fun z121=>
  match z121 with
  |.pan vz121=>
   some (.pan vz121)
  |.ok z122=>
   some (.ok (z122.1,z122.2.1,z122.2.2.1,z122.2.2.2))
 else
  bif b11.kind==1 then
   (cW N x1_n ({ at_:=b11.a,slots:=b8.slots }:Vthread) x4 b100000 b200001 b100002).bind fun z123=>
   match z123 with
   |.pan vz123=>
    some (.pan vz123)
   |.ok z124=>
    (cW N z124.1 ({ at_:=b11.b,slots:=b8.slots }:Vthread) x4 z124.2.1 z124.2.2.1 z124.2.2.2).bind fun z125=>
    match z125 with
    |.pan vz125=>
     some (.pan vz125)
    |.ok z126=>
     some (.ok (z126.1,z126.2.1,z126.2.2.1,z126.2.2.2))
  else
   bif b11.kind==3 then
    (jq N.n b8.slots).bind fun z127=>
    match z127 with
    |.pan vz127=>
     some (.pan vz127)
    |.ok z128=>
     (eW z128.1 b11.a).bind fun z129=>
     (z128.2[z129]?).bind fun z130=>
     (pV z128.1 (List.set z128.2 z129 x4)).bind fun z131=>
     (cW N x1_n ({ at_:=w64 (b8.at_+1),slots:=z131 }:Vthread) x4 b100000 b200001 b100002).bind fun z132=>
     match z132 with
     |.pan vz132=>
      some (.pan vz132)
     |.ok z133=>
      some (.ok (z133.1,z133.2.1,z133.2.2.1,z133.2.2.2))
   else
    (rp 32 x1_n b200001 ([b8] :List Vthread)).bind fun z134=>
    some (.ok (z134.length,b100000,z134,b100002))
def gd(N:RecC2)(x1_n:Nat)(x3:Vthread)(x4:Int)(y0:VMask)(y1:List Vthread)(y2:List (Int × Bool)):Option (PR bm):=
 bif (sq y2 x3.at_).getD false then
  some (.ok (x1_n,y0,y1,y2))
 else
  (ap y0.steps x3.at_).bind fun z120=>
  ai N N.n x1_n x4 x3 z120 y0 (aE y2 x3.at_ true) y1
def fF(n0:Nat):Nat→Nat→Vthread→Int→VMask→(List Vthread)→(List (Int × Bool))→Option (PR (Nat × VMask × (List Vthread) × (List (Int × Bool))))
 |0,_,_,_,_,_,_=>none
 |m+1,x1_n,x3,x4,y0,y1,y2=>gd ⟨n0,fF n0 m⟩ x1_n x3 x4 y0 y1 y2
def cC(N:Nat)(x1_n:Nat)(x3:Vthread)(x4:Int)(y0:VMask)(y1:List Vthread)(y2:List (Int × Bool)):Option (PR (Nat × VMask × (List Vthread) × (List (Int × Bool)))):=fF N N x1_n x3 x4 y0 y1 y2
end Go.Proofs.Ytlhjbhgkhpbnfaa
namespace Go.Proofs.Ytlhjbhgkhpbnfaa
open Go.RowKit P
set_option linter.unusedVariables false
set_option linter.unusedSimpArgs false
set_option maxRecDepth 100000
def eu(i0:Nat)(i1:Nat)(r:bB):TV EE.T:=.a (.d (.int .i64) r.1)
def sY(i0:Nat)(i1:Nat)(r:bB):List (Nat × TB EE.T):=[(i0,.cs [.d .str r.2.1,.d (.int .i64) r.2.2.1,.d (.int .i64) r.2.2.2.1,.vec (.nam 7) i1 r.2.2.2.2.1]),(i1,.vec i1 (.nam 7) r.2.2.2.2.2)]
def p9(r:PR bB):RL EE.T:=mP (eu 100000 200001) (sY 100000 200001) r
def Jt:Lvs:=⟨[(1,⟨[(0,false),(3,false)],[],[(3,(some 7,[])),(100000,(none,[])),(200001,(none,[]))],[]⟩)],[],[],[],false,[(100000,(none,[]))],[100000,200001],[],[(12,200001)]⟩
def JF:List ResultVar:=[.tmp 4]
def Fq(N:Nat):Gam EE:=⟨[],EQT,[],[]⟩
theorem GD(N:Nat):GOk Try.prog TT EE (Fq N):=GOk.nil dh
def Gn(c:Code):List It2:=[.c c]
def Ib(x1:Vstep)(y0_0:List UInt8)(y0_1:Int)(y0_2:Int)(y0_3:Nat)(y1:List Vstep):TS EE.T:=⟨21,[(0,.a (.box 100000 0)),(1,.ag (eK EE (.nam 7) x1))],[(100000,.cs [.d .str y0_0,.d (.int .i64) y0_1,.d (.int .i64) y0_2,.vec (.nam 7) 200001 y0_3]),(200001,.vec 200001 (.nam 7) y1)],[]⟩
abbrev KD(N:Nat)(r:PR bB)(k:List It2)(s:TS EE.T):Prop:=f8 (Y:=TT) EE (Fq N) Jt JF (fun u=>u=p9 r) k s
def IQ(x:PR bB):Tree (Lf EE.T × Option (PR bB)):=.leaf (.done (p9 x),some x)
theorem GX{N:Nat}{r:PR bB}(x1:Vstep)(y0_0:List UInt8)(y0_1:Int)(y0_2:Int)(y0_3:Nat)(y1:List Vstep)(h:aC N x1 y0_0 y0_1 y0_2 y0_3 y1=some r):KD N r (Gn (aa 0 Try.f36)) (Ib x1 y0_0 y0_1 y0_2 y0_3 y1):=
 aJ (m:=4000) (t:=
 .bnd (rp 32 y0_3 y1 ([x1] :List Vstep)) fun z1=>
 IQ (.ok (w64 ((z1.length:Int) - 1),y0_0,y0_1,y0_2,z1.length,z1))) (by kernel_rfl) (by kernel_rfl) h (fun _=>be (enc:=p9) rfl)
def CX(x1:Vstep)(y0_0:List UInt8)(y0_1:Int)(y0_2:Int)(y0_3:Nat)(y1:List Vstep):List (TV EE.T):=[.a (.box 100000 0),.ag (eK EE (.nam 7) x1)]
def xj(x1:Vstep)(y0_0:List UInt8)(y0_1:Int)(y0_2:Int)(y0_3:Nat)(y1:List Vstep):List (Nat × TB EE.T):=[(100000,.cs [.d .str y0_0,.d (.int .i64) y0_1,.d (.int .i64) y0_2,.vec (.nam 7) 200001 y0_3]),(200001,.vec 200001 (.nam 7) y1)]
theorem gR{N:Nat}(x1:Vstep)(y0_0:List UInt8)(y0_1:Int)(y0_2:Int)(y0_3:Nat)(y1:List Vstep){r:PR bB}(h:aC N x1 y0_0 y0_1 y0_2 y0_3 y1=some r)(ρ:Rn)(hi:Inj ρ (xj x1 y0_0 y0_1 y0_2 y0_3 y1)):aT Try.prog 36 ((CX x1 y0_0 y0_1 y0_2 y0_3 y1).map (TV.to EE.toEnc ρ)) (hTo EE.toEnc ρ (xj x1 y0_0 y0_1 y0_2 y0_3 y1)) (cS EE ρ fun u=>u=p9 r):=
 fA (aa 0 Try.f36) 21 mixed (GD N) Try.func36 (by kernel_rfl) rfl rfl rfl rfl (GX x1 y0_0 y0_1 y0_2 y0_3 y1 h) ρ hi
def dn(N:Nat)(us:List (TV EE.T))(hs:List (Nat × TB EE.T)):XR EE.T:=
 gdX (fU us 2) <|
 bnX (aB us 0) fun i0=>
 bnX (aS EE 7 us 1) fun x1=>
 bnX (bC hs i0) fun l0=>
 gdX (fU l0 4) <|
 bnX (cD .str l0 0) fun y0_0=>
 bnX (cD (.int .i64) l0 1) fun y0_1=>
 bnX (cD (.int .i64) l0 2) fun y0_2=>
 bnX (cVi (.nam 7) l0 3) fun i1=>
 bnX (cVn (.nam 7) l0 3) fun y0_3=>
 bnX (bV (.nam 7) hs i1) fun y1=>
 gdX (bX hs [i0,i1]) <|
 gdX (iw [i0,i1]) <|
 .mv (aC N x1 y0_0 y0_1 y0_2 y0_3 y1) [i0,i1] (mvL [i0,i1] [100000,200001]) 0 (eu i0 i1) (sY i0 i1)
theorem dL(N:Nat):XOk Try.prog EE 36 (dn N):=fun us hs=>
 a8 fun h1=>aA fun i0 h2=>aA fun x1 h3=>aA fun l0 h4=>a8 fun h5=>aA fun y0_0 h6=>aA fun y0_1 h7=>aA fun y0_2 h8=>aA fun i1 h9=>aA fun y0_3 h10=>aA fun y1 h11=>a8 fun h12=>a8 fun h13=>fun p hz ρ hi=>gm (ex:=[]) (ks:=[100000,200001]) (us':=CX x1 y0_0 y0_1 y0_2 y0_3 y1) (h0:=xj x1 y0_0 y0_1 y0_2 y0_3 y1) (ρ':=mT ρ [i0,i1]) (uc:=eu 100000 200001) (u:=eu i0 i1) (hc:=sY 100000 200001) (h:=sY i0 i1) hi h12 (by kernel_rfl) ⟨jf h2 (by kernel_rfl),F4 h3,cf h1⟩ ⟨(by kernel_rfl),kM h4 ⟨dm h6,dm h7,dm h8,iM h9 h10 (by kernel_rfl),cf h5⟩,(by kernel_rfl),kc h11 (by kernel_rfl),trivial⟩ ⟨.inr rfl,.inl rfl,trivial⟩ h13 (fun hj=>gR x1 y0_0 y0_1 y0_2 y0_3 y1 hz _ hj) (fun z=>⟨by kernel_rfl,by kernel_rfl,by kernel_rfl,by kernel_rfl⟩)
def d9(i0:Nat)(i1:Nat)(r:bt):TV EE.T:=.tu [.a (.d .byte r.1),.a (.d .bool r.2.1)]
def sU(i0:Nat)(i1:Nat)(r:bt):List (Nat × TB EE.T):=[(i0,.cs [.d .str r.2.2.1,.d (.int .i64) r.2.2.2.1,.d (.int .i64) r.2.2.2.2.1,.vec (.nam 7) i1 r.2.2.2.2.2.1]),(i1,.vec i1 (.nam 7) r.2.2.2.2.2.2)]
def mJ(r:PR bt):RL EE.T:=mP (d9 100000 200001) (sU 100000 200001) r
def Jw:Lvs:=⟨[(1,⟨[(0,false)],[],[(100000,(none,[])),(200001,(none,[]))],[]⟩),(2,⟨[(0,false)],[],[(100000,(none,[])),(200001,(none,[]))],[]⟩)],[],[],[],false,[(100000,(none,[]))],[100000,200001],[],[]⟩
def Kv:List ResultVar:=[.tmp 2,.tmp 3]
def Gj(N:Nat):Gam EE:=⟨[],EQT,[],[]⟩
theorem GE(N:Nat):GOk Try.prog TT EE (Gj N):=GOk.nil dh
def Gk(c:Code):List It2:=[.c c]
def G0(y0_0:List UInt8)(y0_1:Int)(y0_2:Int)(y0_3:Nat)(y1:List Vstep):TS EE.T:=⟨23,[(0,.a (.box 100000 0))],[(100000,.cs [.d .str y0_0,.d (.int .i64) y0_1,.d (.int .i64) y0_2,.vec (.nam 7) 200001 y0_3]),(200001,.vec 200001 (.nam 7) y1)],[]⟩
abbrev J2(N:Nat)(r:PR bt)(k:List It2)(s:TS EE.T):Prop:=f8 (Y:=TT) EE (Gj N) Jw Kv (fun u=>u=mJ r) k s
def CI(x:PR bt):Tree (Lf EE.T × Option (PR bt)):=.leaf (.done (mJ x),some x)
theorem IA{N:Nat}{r:PR bt}(y0_0:List UInt8)(y0_1:Int)(y0_2:Int)(y0_3:Nat)(y1:List Vstep)(h:bg N y0_0 y0_1 y0_2 y0_3 y1=some r):J2 N r (Gk (aa 0 Try.f61)) (G0 y0_0 y0_1 y0_2 y0_3 y1):=
 aJ (m:=4000) (t:=
 .cond (decide (y0_1 < (y0_0.length:Int)))
 (
  .bnd (ap y0_0 y0_1) fun z1=>
  CI (.ok (z1,true,y0_0,y0_1,y0_2,y0_3,y1)))
 (
  CI (.ok (0,false,y0_0,y0_1,y0_2,y0_3,y1)))) (by kernel_rfl) (by kernel_rfl) h (⟨fun _=>be (enc:=mJ) rfl,be (enc:=mJ) rfl⟩)
def Df(y0_0:List UInt8)(y0_1:Int)(y0_2:Int)(y0_3:Nat)(y1:List Vstep):List (TV EE.T):=[.a (.box 100000 0)]
def ym(y0_0:List UInt8)(y0_1:Int)(y0_2:Int)(y0_3:Nat)(y1:List Vstep):List (Nat × TB EE.T):=[(100000,.cs [.d .str y0_0,.d (.int .i64) y0_1,.d (.int .i64) y0_2,.vec (.nam 7) 200001 y0_3]),(200001,.vec 200001 (.nam 7) y1)]
theorem kI{N:Nat}(y0_0:List UInt8)(y0_1:Int)(y0_2:Int)(y0_3:Nat)(y1:List Vstep){r:PR bt}(h:bg N y0_0 y0_1 y0_2 y0_3 y1=some r)(ρ:Rn)(hi:Inj ρ (ym y0_0 y0_1 y0_2 y0_3 y1)):aT Try.prog 61 ((Df y0_0 y0_1 y0_2 y0_3 y1).map (TV.to EE.toEnc ρ)) (hTo EE.toEnc ρ (ym y0_0 y0_1 y0_2 y0_3 y1)) (cS EE ρ fun u=>u=mJ r):=
 fA (aa 0 Try.f61) 23 mixed (GE N) Try.func61 (by kernel_rfl) rfl rfl rfl rfl (IA y0_0 y0_1 y0_2 y0_3 y1 h) ρ hi
def cy(N:Nat)(us:List (TV EE.T))(hs:List (Nat × TB EE.T)):XR EE.T:=
 gdX (fU us 1) <|
 bnX (aB us 0) fun i0=>
 bnX (bC hs i0) fun l0=>
 gdX (fU l0 4) <|
 bnX (cD .str l0 0) fun y0_0=>
 bnX (cD (.int .i64) l0 1) fun y0_1=>
 bnX (cD (.int .i64) l0 2) fun y0_2=>
 bnX (cVi (.nam 7) l0 3) fun i1=>
 bnX (cVn (.nam 7) l0 3) fun y0_3=>
 bnX (bV (.nam 7) hs i1) fun y1=>
 gdX (bX hs [i0,i1]) <|
 gdX (iw [i0,i1]) <|
 .mv (bg N y0_0 y0_1 y0_2 y0_3 y1) [i0,i1] (mvL [i0,i1] [100000,200001]) 0 (d9 i0 i1) (sU i0 i1)
theorem cI(N:Nat):XOk Try.prog EE 61 (cy N):=fun us hs=>
 a8 fun h1=>aA fun i0 h2=>aA fun l0 h3=>a8 fun h4=>aA fun y0_0 h5=>aA fun y0_1 h6=>aA fun y0_2 h7=>aA fun i1 h8=>aA fun y0_3 h9=>aA fun y1 h10=>a8 fun h11=>a8 fun h12=>fun p hz ρ hi=>gm (ex:=[]) (ks:=[100000,200001]) (us':=Df y0_0 y0_1 y0_2 y0_3 y1) (h0:=ym y0_0 y0_1 y0_2 y0_3 y1) (ρ':=mT ρ [i0,i1]) (uc:=d9 100000 200001) (u:=d9 i0 i1) (hc:=sU 100000 200001) (h:=sU i0 i1) hi h11 (by kernel_rfl) ⟨jf h2 (by kernel_rfl),cf h1⟩ ⟨(by kernel_rfl),kM h3 ⟨dm h5,dm h6,dm h7,iM h8 h9 (by kernel_rfl),cf h4⟩,(by kernel_rfl),kc h10 (by kernel_rfl),trivial⟩ ⟨.inr rfl,.inl rfl,trivial⟩ h12 (fun hj=>kI y0_0 y0_1 y0_2 y0_3 y1 hz _ hj) (fun z=>⟨by kernel_rfl,by kernel_rfl,by kernel_rfl,by kernel_rfl⟩)
def d8(i0:Nat)(i1:Nat)(r:bu):TV EE.T:=.tu []
def sB(i0:Nat)(i1:Nat)(r:bu):List (Nat × TB EE.T):=[(i0,.cs [.d .str r.1,.d (.int .i64) r.2.1,.d (.int .i64) r.2.2.1,.vec (.nam 7) i1 r.2.2.2.1]),(i1,.vec i1 (.nam 7) r.2.2.2.2)]
def qA(r:PR bu):RL EE.T:=mP (d8 100000 200001) (sB 100000 200001) r
def JN:Lvs:=⟨[],[],[],[],false,[],[100000,200001],[],[]⟩
def Jg:List ResultVar:=[]
def FU(N:Nat):Gam EE:=⟨[],EQT,[],[]⟩
theorem HW(N:Nat):GOk Try.prog TT EE (FU N):=GOk.nil dh
def Gg(c:Code):List It2:=[.c c]
def Hq(x1:Int)(x2:Int)(y0_0:List UInt8)(y0_1:Int)(y0_2:Int)(y0_3:Nat)(y1:List Vstep):TS EE.T:=⟨10,[(0,.a (.box 100000 0)),(1,.a (.d (.int .i64) x1)),(2,.a (.d (.int .i64) x2))],[(100000,.cs [.d .str y0_0,.d (.int .i64) y0_1,.d (.int .i64) y0_2,.vec (.nam 7) 200001 y0_3]),(200001,.vec 200001 (.nam 7) y1)],[]⟩
abbrev Ku(N:Nat)(r:PR bu)(k:List It2)(s:TS EE.T):Prop:=f8 (Y:=TT) EE (FU N) JN Jg (fun u=>u=qA r) k s
def I8(x:PR bu):Tree (Lf EE.T × Option (PR bu)):=.leaf (.done (qA x),some x)
theorem H5{N:Nat}{r:PR bu}(x1:Int)(x2:Int)(y0_0:List UInt8)(y0_1:Int)(y0_2:Int)(y0_3:Nat)(y1:List Vstep)(h:aX N x1 x2 y0_0 y0_1 y0_2 y0_3 y1=some r):Ku N r (Gg (aa 0 Try.f35)) (Hq x1 x2 y0_0 y0_1 y0_2 y0_3 y1):=
 aJ (m:=4000) (t:=
 I8 (.pan (Value.iface 28 (.agg #[.int .i64 x1,.int .i64 x2])))) (by kernel_rfl) (by kernel_rfl) h (be (enc:=qA) rfl)
def De(x1:Int)(x2:Int)(y0_0:List UInt8)(y0_1:Int)(y0_2:Int)(y0_3:Nat)(y1:List Vstep):List (TV EE.T):=[.a (.box 100000 0),.a (.d (.int .i64) x1),.a (.d (.int .i64) x2)]
def yF(x1:Int)(x2:Int)(y0_0:List UInt8)(y0_1:Int)(y0_2:Int)(y0_3:Nat)(y1:List Vstep):List (Nat × TB EE.T):=[(100000,.cs [.d .str y0_0,.d (.int .i64) y0_1,.d (.int .i64) y0_2,.vec (.nam 7) 200001 y0_3]),(200001,.vec 200001 (.nam 7) y1)]
theorem gF{N:Nat}(x1:Int)(x2:Int)(y0_0:List UInt8)(y0_1:Int)(y0_2:Int)(y0_3:Nat)(y1:List Vstep){r:PR bu}(h:aX N x1 x2 y0_0 y0_1 y0_2 y0_3 y1=some r)(ρ:Rn)(hi:Inj ρ (yF x1 x2 y0_0 y0_1 y0_2 y0_3 y1)):aT Try.prog 35 ((De x1 x2 y0_0 y0_1 y0_2 y0_3 y1).map (TV.to EE.toEnc ρ)) (hTo EE.toEnc ρ (yF x1 x2 y0_0 y0_1 y0_2 y0_3 y1)) (cS EE ρ fun u=>u=qA r):=
 fA (aa 0 Try.f35) 10 mixed (HW N) Try.func35 (by kernel_rfl) rfl rfl rfl rfl (H5 x1 x2 y0_0 y0_1 y0_2 y0_3 y1 h) ρ hi
def dc(N:Nat)(us:List (TV EE.T))(hs:List (Nat × TB EE.T)):XR EE.T:=
 gdX (fU us 3) <|
 bnX (aB us 0) fun i0=>
 bnX (aD (.int .i64) us 1) fun x1=>
 bnX (aD (.int .i64) us 2) fun x2=>
 bnX (bC hs i0) fun l0=>
 gdX (fU l0 4) <|
 bnX (cD .str l0 0) fun y0_0=>
 bnX (cD (.int .i64) l0 1) fun y0_1=>
 bnX (cD (.int .i64) l0 2) fun y0_2=>
 bnX (cVi (.nam 7) l0 3) fun i1=>
 bnX (cVn (.nam 7) l0 3) fun y0_3=>
 bnX (bV (.nam 7) hs i1) fun y1=>
 gdX (bX hs [i0,i1]) <|
 gdX (iw [i0,i1]) <|
 .mv (aX N x1 x2 y0_0 y0_1 y0_2 y0_3 y1) [i0,i1] (mvL [i0,i1] [100000,200001]) 0 (d8 i0 i1) (sB i0 i1)
theorem dt(N:Nat):XOk Try.prog EE 35 (dc N):=fun us hs=>
 a8 fun h1=>aA fun i0 h2=>aA fun x1 h3=>aA fun x2 h4=>aA fun l0 h5=>a8 fun h6=>aA fun y0_0 h7=>aA fun y0_1 h8=>aA fun y0_2 h9=>aA fun i1 h10=>aA fun y0_3 h11=>aA fun y1 h12=>a8 fun h13=>a8 fun h14=>fun p hz ρ hi=>gm (ex:=[]) (ks:=[100000,200001]) (us':=De x1 x2 y0_0 y0_1 y0_2 y0_3 y1) (h0:=yF x1 x2 y0_0 y0_1 y0_2 y0_3 y1) (ρ':=mT ρ [i0,i1]) (uc:=d8 100000 200001) (u:=d8 i0 i1) (hc:=sB 100000 200001) (h:=sB i0 i1) hi h13 (by kernel_rfl) ⟨jf h2 (by kernel_rfl),mo h3,mo h4,cf h1⟩ ⟨(by kernel_rfl),kM h5 ⟨dm h7,dm h8,dm h9,iM h10 h11 (by kernel_rfl),cf h6⟩,(by kernel_rfl),kc h12 (by kernel_rfl),trivial⟩ ⟨.inr rfl,.inl rfl,trivial⟩ h14 (fun hj=>gF x1 x2 y0_0 y0_1 y0_2 y0_3 y1 hz _ hj) (fun z=>⟨by kernel_rfl,by kernel_rfl,by kernel_rfl,by kernel_rfl⟩)
def oQ(r:fR):TV EE.T:=.a (.d (.ptr (.bits 256)) r)
def BC(r:fR):RL EE.T:=.ret (oQ r) []
def MK:Lvs:=⟨[],[],[],[],false,[],[],[(3,[.cl 3 (.a 256) (.s 3)])],[]⟩
def Nx:List ResultVar:=[.tmp 2]
def M9(N:Nat):Gam EE:=⟨[],EQT,[],[]⟩
theorem Mt(N:Nat):GOk Try.prog TT EE (M9 N):=GOk.nil dh
def L7(c:Code):List It2:=[.c c]
def LX(x0:UInt8):TS EE.T:=⟨6,[(0,.a (.d .byte x0))],[],[]⟩
abbrev MF(N:Nat)(r:fR)(k:List It2)(s:TS EE.T):Prop:=f8 (Y:=TT) EE (M9 N) MK Nx (fun u=>u=BC r) k s
def MO(x:fR):Tree (Lf EE.T × Option fR):=.leaf (.done (BC x),some x)
theorem Mn{N:Nat}{r:fR}(x0:UInt8)(h:im N x0=some r):MF N r (L7 (aa 0 Try.f68)) (LX x0):=
 aJ (m:=4000) (t:=
 .bnd (eW 256 (b2i x0)) fun z1=>
 .bnd (vD (List.replicate 256 false) (0+z1) true) fun z2=>
 .bnd (pV 256 z2) fun z3=>
 MO (some z3)) (by kernel_rfl) (by kernel_rfl) h (fun _=>fun _=>fun _=>be (enc:=BC) rfl)
theorem AG{N:Nat}(x0:UInt8){r:fR}(h:im N x0=some r)(ρ:Rn):aT Try.prog 68 (([.a (.d .byte x0)] :List (TV EE.T)).map (TV.to EE.toEnc ρ)) [] (fun out H=>out=.ret ((oQ r).to EE.toEnc ρ)∧H=[]):=
 (mF (aa 0 Try.f68) 6 mixed (Mt N) Try.func68 (by kernel_rfl) rfl rfl rfl rfl (Mn x0 h) ρ).mono fun out H h=>cS.ret rfl h
def py(N:Nat):List (TV EE.T)→PV EE.T
 | [u0] =>match iA .byte u0 with
   |some x0=>.opt (im N x0) oQ
   |_=>.bad
 |_=>.bad
theorem yL(N:Nat)(us:List (TV EE.T)):(py N us).ok fun u=>∀ρ,aT Try.prog 68 (us.map (TV.to EE.toEnc ρ)) [] (fun out H=>out=.ret (u.to EE.toEnc ρ)∧H=[]):=by
 unfold py
 split
 ·split
  ·rename_i h0
   intro z hz ρ;refine eH ?_ (AG _ hz ρ);exact⟨cN h0 ρ,trivial⟩
  ·trivial
 ·trivial
def en(i0:Nat)(i1:Nat)(r:bE):TV EE.T:=.a (.d .bool r.1)
def sE(i0:Nat)(i1:Nat)(r:bE):List (Nat × TB EE.T):=[(i0,.cs [.d .str r.2.1,.d (.int .i64) r.2.2.1,.d (.int .i64) r.2.2.2.1,.vec (.nam 7) i1 r.2.2.2.2.1]),(i1,.vec i1 (.nam 7) r.2.2.2.2.2)]
def j8(r:PR bE):RL EE.T:=mP (en 100000 200001) (sE 100000 200001) r
def Ki:Lvs:=⟨[],[],[],[],false,[(100000,(none,[]))],[100000,200001],[],[]⟩
def Kj:List ResultVar:=[.tmp 4]
def FH(N:Nat):Gam EE:=⟨[],EQT,[⟨61,cy N⟩],[]⟩
theorem FE(N:Nat):GOk Try.prog TT EE (FH N):=GOk.consx (cI N) (GOk.nil dh)
def Fi(c:Code):List It2:=[.c c]
def Fj(x1:UInt8)(y0_0:List UInt8)(y0_1:Int)(y0_2:Int)(y0_3:Nat)(y1:List Vstep):TS EE.T:=⟨25,[(0,.a (.box 100000 0)),(1,.a (.d .byte x1))],[(100000,.cs [.d .str y0_0,.d (.int .i64) y0_1,.d (.int .i64) y0_2,.vec (.nam 7) 200001 y0_3]),(200001,.vec 200001 (.nam 7) y1)],[]⟩
abbrev Ja(N:Nat)(r:PR bE)(k:List It2)(s:TS EE.T):Prop:=f8 (Y:=TT) EE (FH N) Ki Kj (fun u=>u=j8 r) k s
def sD(x:PR bE):Tree (Lf EE.T × Option (PR bE)):=.leaf (.done (j8 x),some x)
theorem GQ{N:Nat}{r:PR bE}(x1:UInt8)(y0_0:List UInt8)(y0_1:Int)(y0_2:Int)(y0_3:Nat)(y1:List Vstep)(h:bi N x1 y0_0 y0_1 y0_2 y0_3 y1=some r):Ja N r (Fi (aa 0 Try.f50)) (Fj x1 y0_0 y0_1 y0_2 y0_3 y1):=
 aJ (m:=4000) (t:=
 .bnd (bg N y0_0 y0_1 y0_2 y0_3 y1) fun z1=>
 .sm z1 (fun z2=>
  .cond (z2.2.1)
  (
   .cond ((b2i z2.1)==(b2i x1))
   (
    sD (.ok (true,z2.2.2.1,w64 (z2.2.2.2.1+1),z2.2.2.2.2.1,z2.2.2.2.2.2.1,z2.2.2.2.2.2.2)))
   (
    sD (.ok (false,z2.2.2.1,z2.2.2.2.1,z2.2.2.2.2.1,z2.2.2.2.2.2.1,z2.2.2.2.2.2.2))))
  (
   sD (.ok (false,z2.2.2.1,z2.2.2.2.1,z2.2.2.2.2.1,z2.2.2.2.2.2.1,z2.2.2.2.2.2.2)))) (fun vz1=>
  sD (.pan vz1))) (by kernel_rfl) (by kernel_rfl) h (fun _=>⟨fun _=>⟨⟨be (enc:=j8) rfl,be (enc:=j8) rfl⟩,be (enc:=j8) rfl⟩,fun _=>be (enc:=j8) rfl⟩)
def CE(x1:UInt8)(y0_0:List UInt8)(y0_1:Int)(y0_2:Int)(y0_3:Nat)(y1:List Vstep):List (TV EE.T):=[.a (.box 100000 0),.a (.d .byte x1)]
def xA(x1:UInt8)(y0_0:List UInt8)(y0_1:Int)(y0_2:Int)(y0_3:Nat)(y1:List Vstep):List (Nat × TB EE.T):=[(100000,.cs [.d .str y0_0,.d (.int .i64) y0_1,.d (.int .i64) y0_2,.vec (.nam 7) 200001 y0_3]),(200001,.vec 200001 (.nam 7) y1)]
theorem lr{N:Nat}(x1:UInt8)(y0_0:List UInt8)(y0_1:Int)(y0_2:Int)(y0_3:Nat)(y1:List Vstep){r:PR bE}(h:bi N x1 y0_0 y0_1 y0_2 y0_3 y1=some r)(ρ:Rn)(hi:Inj ρ (xA x1 y0_0 y0_1 y0_2 y0_3 y1)):aT Try.prog 50 ((CE x1 y0_0 y0_1 y0_2 y0_3 y1).map (TV.to EE.toEnc ρ)) (hTo EE.toEnc ρ (xA x1 y0_0 y0_1 y0_2 y0_3 y1)) (cS EE ρ fun u=>u=j8 r):=
 fA (aa 0 Try.f50) 25 mixed (FE N) Try.func50 (by kernel_rfl) rfl rfl rfl rfl (GQ x1 y0_0 y0_1 y0_2 y0_3 y1 h) ρ hi
def ek(N:Nat)(us:List (TV EE.T))(hs:List (Nat × TB EE.T)):XR EE.T:=
 gdX (fU us 2) <|
 bnX (aB us 0) fun i0=>
 bnX (aD .byte us 1) fun x1=>
 bnX (bC hs i0) fun l0=>
 gdX (fU l0 4) <|
 bnX (cD .str l0 0) fun y0_0=>
 bnX (cD (.int .i64) l0 1) fun y0_1=>
 bnX (cD (.int .i64) l0 2) fun y0_2=>
 bnX (cVi (.nam 7) l0 3) fun i1=>
 bnX (cVn (.nam 7) l0 3) fun y0_3=>
 bnX (bV (.nam 7) hs i1) fun y1=>
 gdX (bX hs [i0,i1]) <|
 gdX (iw [i0,i1]) <|
 .mv (bi N x1 y0_0 y0_1 y0_2 y0_3 y1) [i0,i1] (mvL [i0,i1] [100000,200001]) 0 (en i0 i1) (sE i0 i1)
theorem eO(N:Nat):XOk Try.prog EE 50 (ek N):=fun us hs=>
 a8 fun h1=>aA fun i0 h2=>aA fun x1 h3=>aA fun l0 h4=>a8 fun h5=>aA fun y0_0 h6=>aA fun y0_1 h7=>aA fun y0_2 h8=>aA fun i1 h9=>aA fun y0_3 h10=>aA fun y1 h11=>a8 fun h12=>a8 fun h13=>fun p hz ρ hi=>gm (ex:=[]) (ks:=[100000,200001]) (us':=CE x1 y0_0 y0_1 y0_2 y0_3 y1) (h0:=xA x1 y0_0 y0_1 y0_2 y0_3 y1) (ρ':=mT ρ [i0,i1]) (uc:=en 100000 200001) (u:=en i0 i1) (hc:=sE 100000 200001) (h:=sE i0 i1) hi h12 (by kernel_rfl) ⟨jf h2 (by kernel_rfl),mo h3,cf h1⟩ ⟨(by kernel_rfl),kM h4 ⟨dm h6,dm h7,dm h8,iM h9 h10 (by kernel_rfl),cf h5⟩,(by kernel_rfl),kc h11 (by kernel_rfl),trivial⟩ ⟨.inr rfl,.inl rfl,trivial⟩ h13 (fun hj=>lr x1 y0_0 y0_1 y0_2 y0_3 y1 hz _ hj) (fun z=>⟨by kernel_rfl,by kernel_rfl,by kernel_rfl,by kernel_rfl⟩)
def gp(r:Int):TV EE.T:=.a (.d (.int .i64) r)
def Bo(r:Int):RL EE.T:=.ret (gp r) []
def NC:Lvs:=⟨[],[],[],[],false,[],[],[],[]⟩
def Nc:List ResultVar:=[.tmp 4]
def M8(N:Nat):Gam EE:=⟨[⟨59,jy N⟩],EQT,[],[]⟩
theorem LH(N:Nat):GOk Try.prog TT EE (M8 N):=GOk.cons (qM N) (GOk.nil dh)
def Lu(c:Code):List It2:=[.c c]
def Ld(x0:List UInt8)(x1:UInt8):TS EE.T:=⟨8,[(0,.a (.d .str x0)),(1,.a (.d .byte x1))],[],[]⟩
abbrev MY(N:Nat)(r:Int)(k:List It2)(s:TS EE.T):Prop:=f8 (Y:=TT) EE (M8 N) NC Nc (fun u=>u=Bo r) k s
def Ng(x:Int):Tree (Lf EE.T × Option Int):=.leaf (.done (Bo x),some x)
theorem LR{N:Nat}{r:Int}(x0:List UInt8)(x1:UInt8)(h:bN N x0 x1=some r):MY N r (Lu (aa 0 Try.f46)) (Ld x0 x1):=
 aJ (m:=4000) (t:=
 .bnd (jm N x0 x1) fun z1=>
 Ng z1) (by kernel_rfl) (by kernel_rfl) h (fun _=>be (enc:=Bo) rfl)
theorem mX{N:Nat}(x0:List UInt8)(x1:UInt8){r:Int}(h:bN N x0 x1=some r)(ρ:Rn):aT Try.prog 46 (([.a (.d .str x0),.a (.d .byte x1)] :List (TV EE.T)).map (TV.to EE.toEnc ρ)) [] (fun out H=>out=.ret ((gp r).to EE.toEnc ρ)∧H=[]):=
 (mF (aa 0 Try.f46) 8 mixed (LH N) Try.func46 (by kernel_rfl) rfl rfl rfl rfl (LR x0 x1 h) ρ).mono fun out H h=>cS.ret rfl h
def ed(N:Nat):List (TV EE.T)→PV EE.T
 | [u0,u1] =>match iA .str u0,iA .byte u1 with
   |some x0,some x1=>.opt (bN N x0 x1) gp
   |_,_=>.bad
 |_=>.bad
theorem fN(N:Nat)(us:List (TV EE.T)):(ed N us).ok fun u=>∀ρ,aT Try.prog 46 (us.map (TV.to EE.toEnc ρ)) [] (fun out H=>out=.ret (u.to EE.toEnc ρ)∧H=[]):=by
 unfold ed
 split
 ·split
  ·rename_i h0 h1
   intro z hz ρ;refine eH ?_ (mX _ _ hz ρ);exact⟨cN h0 ρ,cN h1 ρ,trivial⟩
  ·trivial
 ·trivial
def dM(i0:Nat)(i1:Nat)(r:aZ):TV EE.T:=.a (.d .byte r.1)
def sG(i0:Nat)(i1:Nat)(r:aZ):List (Nat × TB EE.T):=[(i0,.cs [.d .str r.2.1,.d (.int .i64) r.2.2.1,.d (.int .i64) r.2.2.2.1,.vec (.nam 7) i1 r.2.2.2.2.1]),(i1,.vec i1 (.nam 7) r.2.2.2.2.2)]
def jM(r:PR aZ):RL EE.T:=mP (dM 100000 200001) (sG 100000 200001) r
def JE:Lvs:=⟨[(3,⟨[(0,false),(3,false)],[],[(100000,(none,[])),(200001,(none,[]))],[]⟩)],[],[3],[],false,[(100000,(none,[]))],[100000,200001],[],[]⟩
def Jj:List ResultVar:=[.tmp 2]
def EV(N:Nat):Gam EE:=⟨[⟨46,ed N⟩],EQT,[⟨35,dc N⟩,⟨61,cy N⟩],[]⟩
theorem HT(N:Nat):GOk Try.prog TT EE (EV N):=GOk.cons (fN N) (GOk.consx (dt N) (GOk.consx (cI N) (GOk.nil dh)))
def Ae(c:Code):List It2:=atR 3 c
def Am(x3:UInt8)(b100000_0:List UInt8)(b100000_1:Int)(b100000_2:Int)(b100000_3_n:Nat)(b200001:List Vstep):TS EE.T:=⟨31,[(0,.a (.box 100000 0)),(3,.a (.d .byte x3))],[(100000,.cs [.d .str b100000_0,.d (.int .i64) b100000_1,.d (.int .i64) b100000_2,.vec (.nam 7) 200001 b100000_3_n]),(200001,.vec 200001 (.nam 7) b200001)],[]⟩
def E9(c:Code):List It2:=[.c c]
def EM(y0_0:List UInt8)(y0_1:Int)(y0_2:Int)(y0_3:Nat)(y1:List Vstep):TS EE.T:=⟨31,[(0,.a (.box 100000 0))],[(100000,.cs [.d .str y0_0,.d (.int .i64) y0_1,.d (.int .i64) y0_2,.vec (.nam 7) 200001 y0_3]),(200001,.vec 200001 (.nam 7) y1)],[]⟩
def A7(c:Code)(f:UInt8→(List UInt8)→Int→Int→Nat→(List Vstep)→Option (PR aZ))(x3:UInt8)(b100000_0:List UInt8)(b100000_1:Int)(b100000_2:Int)(b100000_3_n:Nat)(b200001:List Vstep):Tree (Lf EE.T × Option (PR aZ)):=.leaf (.go (Ae c) (Am x3 b100000_0 b100000_1 b100000_2 b100000_3_n b200001),f x3 b100000_0 b100000_1 b100000_2 b100000_3_n b200001)
abbrev Ce(N:Nat)(r:PR aZ)(k:List It2)(s:TS EE.T):Prop:=f8 (Y:=TT) EE (EV N) JE Jj (fun u=>u=jM r) k s
def sH(x:PR aZ):Tree (Lf EE.T × Option (PR aZ)):=.leaf (.done (jM x),some x)
theorem za{N:Nat}{r:PR aZ}(n:Nat)(x3:UInt8)(b100000_0:List UInt8)(b100000_1:Int)(b100000_2:Int)(b100000_3_n:Nat)(b200001:List Vstep)(h:cG N n x3 b100000_0 b100000_1 b100000_2 b100000_3_n b200001=some r):Ce N r (Ae (aa 0 Try.f70)) (Am x3 b100000_0 b100000_1 b100000_2 b100000_3_n b200001):=
 aJ (m:=4000) (t:=
 .bnd (aX N 1 b100000_1 b100000_0 b100000_1 b100000_2 b100000_3_n b200001) fun z4=>
 .sm z4 (fun z5=>
  sH (.ok (x3,z5.1,w64 (z5.2.1+1),z5.2.2.1,z5.2.2.2.1,z5.2.2.2.2))) (fun vz4=>
  sH (.pan vz4))) (by kernel_rfl) (by kernel_rfl) h (fun _=>⟨fun _=>be (enc:=jM) rfl,fun _=>be (enc:=jM) rfl⟩)
theorem FW{N:Nat}{r:PR aZ}(y0_0:List UInt8)(y0_1:Int)(y0_2:Int)(y0_3:Nat)(y1:List Vstep)(h:ci N y0_0 y0_1 y0_2 y0_3 y1=some r):Ce N r (E9 (aa 0 Try.f70)) (EM y0_0 y0_1 y0_2 y0_3 y1):=
 aJ (m:=4000) (t:=
 .bnd (bg N y0_0 y0_1 y0_2 y0_3 y1) fun z1=>
 .sm z1 (fun z2=>
  .cond (!z2.2.1)
  (
   A7 (aa 0 Try.f70) (cG N N) z2.1 z2.2.2.1 z2.2.2.2.1 z2.2.2.2.2.1 z2.2.2.2.2.2.1 z2.2.2.2.2.2.2)
  (
   .bnd (bN N ([91,93,92,94,45] :List UInt8) z2.1) fun z3=>
   .cond (decide (z3≥0))
   (
    A7 (aa 0 Try.f70) (cG N N) z2.1 z2.2.2.1 z2.2.2.2.1 z2.2.2.2.2.1 z2.2.2.2.2.2.1 z2.2.2.2.2.2.2)
   (
    sH (.ok (z2.1,z2.2.2.1,w64 (z2.2.2.2.1+1),z2.2.2.2.2.1,z2.2.2.2.2.2.1,z2.2.2.2.2.2.2))))) (fun vz1=>
  sH (.pan vz1))) (by kernel_rfl) (by kernel_rfl) h (fun _=>⟨fun _=>⟨fun h=>za N _ _ _ _ _ _ h,fun _=>⟨fun h=>za N _ _ _ _ _ _ h,be (enc:=jM) rfl⟩⟩,fun _=>be (enc:=jM) rfl⟩)
def Cy(y0_0:List UInt8)(y0_1:Int)(y0_2:Int)(y0_3:Nat)(y1:List Vstep):List (TV EE.T):=[.a (.box 100000 0)]
def xF(y0_0:List UInt8)(y0_1:Int)(y0_2:Int)(y0_3:Nat)(y1:List Vstep):List (Nat × TB EE.T):=[(100000,.cs [.d .str y0_0,.d (.int .i64) y0_1,.d (.int .i64) y0_2,.vec (.nam 7) 200001 y0_3]),(200001,.vec 200001 (.nam 7) y1)]
theorem kj{N:Nat}(y0_0:List UInt8)(y0_1:Int)(y0_2:Int)(y0_3:Nat)(y1:List Vstep){r:PR aZ}(h:ci N y0_0 y0_1 y0_2 y0_3 y1=some r)(ρ:Rn)(hi:Inj ρ (xF y0_0 y0_1 y0_2 y0_3 y1)):aT Try.prog 70 ((Cy y0_0 y0_1 y0_2 y0_3 y1).map (TV.to EE.toEnc ρ)) (hTo EE.toEnc ρ (xF y0_0 y0_1 y0_2 y0_3 y1)) (cS EE ρ fun u=>u=jM r):=
 fA (aa 0 Try.f70) 31 mixed (HT N) Try.func70 (by kernel_rfl) rfl rfl rfl rfl (FW y0_0 y0_1 y0_2 y0_3 y1 h) ρ hi
def gC(N:Nat)(us:List (TV EE.T))(hs:List (Nat × TB EE.T)):XR EE.T:=
 gdX (fU us 1) <|
 bnX (aB us 0) fun i0=>
 bnX (bC hs i0) fun l0=>
 gdX (fU l0 4) <|
 bnX (cD .str l0 0) fun y0_0=>
 bnX (cD (.int .i64) l0 1) fun y0_1=>
 bnX (cD (.int .i64) l0 2) fun y0_2=>
 bnX (cVi (.nam 7) l0 3) fun i1=>
 bnX (cVn (.nam 7) l0 3) fun y0_3=>
 bnX (bV (.nam 7) hs i1) fun y1=>
 gdX (bX hs [i0,i1]) <|
 gdX (iw [i0,i1]) <|
 .mv (ci N y0_0 y0_1 y0_2 y0_3 y1) [i0,i1] (mvL [i0,i1] [100000,200001]) 0 (dM i0 i1) (sG i0 i1)
theorem jG(N:Nat):XOk Try.prog EE 70 (gC N):=fun us hs=>
 a8 fun h1=>aA fun i0 h2=>aA fun l0 h3=>a8 fun h4=>aA fun y0_0 h5=>aA fun y0_1 h6=>aA fun y0_2 h7=>aA fun i1 h8=>aA fun y0_3 h9=>aA fun y1 h10=>a8 fun h11=>a8 fun h12=>fun p hz ρ hi=>gm (ex:=[]) (ks:=[100000,200001]) (us':=Cy y0_0 y0_1 y0_2 y0_3 y1) (h0:=xF y0_0 y0_1 y0_2 y0_3 y1) (ρ':=mT ρ [i0,i1]) (uc:=dM 100000 200001) (u:=dM i0 i1) (hc:=sG 100000 200001) (h:=sG i0 i1) hi h11 (by kernel_rfl) ⟨jf h2 (by kernel_rfl),cf h1⟩ ⟨(by kernel_rfl),kM h3 ⟨dm h5,dm h6,dm h7,iM h8 h9 (by kernel_rfl),cf h4⟩,(by kernel_rfl),kc h10 (by kernel_rfl),trivial⟩ ⟨.inr rfl,.inl rfl,trivial⟩ h12 (fun hj=>kj y0_0 y0_1 y0_2 y0_3 y1 hz _ hj) (fun z=>⟨by kernel_rfl,by kernel_rfl,by kernel_rfl,by kernel_rfl⟩)
def ev(i0:Nat)(i1:Nat)(r:ax):TV EE.T:=.a (.d (.ptr (.bits 256)) r.1)
def sw(i0:Nat)(i1:Nat)(r:ax):List (Nat × TB EE.T):=[(i0,.cs [.d .str r.2.1,.d (.int .i64) r.2.2.1,.d (.int .i64) r.2.2.2.1,.vec (.nam 7) i1 r.2.2.2.2.1]),(i1,.vec i1 (.nam 7) r.2.2.2.2.2)]
def gE(r:PR ax):RL EE.T:=mP (ev 100000 200001) (sw 100000 200001) r
def IU:Lvs:=⟨[(6,⟨[(0,false),(3,false),(4,false)],[],[(4,(none,[])),(100000,(none,[])),(200001,(none,[]))],[]⟩),(13,⟨[(0,false),(3,false),(4,false),(6,false),(7,false)],[],[(4,(none,[])),(100000,(none,[])),(200001,(none,[]))],[]⟩)],[(4,⟨[(0,false),(3,false),(4,false),(5,false)],[],[(4,(none,[])),(100000,(none,[])),(200001,(none,[]))],[]⟩),(14,⟨[(0,false),(3,false),(4,false),(7,false),(9,false)],[],[(4,(none,[])),(100000,(none,[])),(200001,(none,[]))],[]⟩),(18,⟨[(3,false),(4,false),(46,false)],[],[(4,(none,[])),(100000,(none,[])),(200001,(none,[]))],[]⟩)],[6,13],[],false,[(100000,(none,[]))],[100000,200001],[(22,[.cl 4 (.a 256) (.s 4)])],[]⟩
def JU:List ResultVar:=[.tmp 2]
def FB(N:Nat):Gam EE:=⟨[],EQT,[⟨35,dc N⟩,⟨50,ek N⟩,⟨70,gC N⟩],[]⟩
theorem E1(N:Nat):GOk Try.prog TT EE (FB N):=GOk.consx (dt N) (GOk.consx (eO N) (GOk.consx (jG N) (GOk.nil dh)))
def wB(c:Code):List It2:=atL 14 c
def wD(x3:Bool)(x7:UInt8)(x9:Int)(b4:List Bool)(b100000_0:List UInt8)(b100000_1:Int)(b100000_2:Int)(b100000_3_n:Nat)(b200001:List Vstep):TS EE.T:=⟨57,[(0,.a (.box 100000 0)),(3,.a (.d .bool x3)),(4,.a (.box 4 0)),(7,.a (.d .byte x7)),(9,.a (.d (.int .i64) x9))],[(4,.row .bool b4),(100000,.cs [.d .str b100000_0,.d (.int .i64) b100000_1,.d (.int .i64) b100000_2,.vec (.nam 7) 200001 b100000_3_n]),(200001,.vec 200001 (.nam 7) b200001)],[]⟩
def vX(c:Code):List It2:=atR 13 c
def wW(x3:Bool)(x6:UInt8)(x7:UInt8)(b4:List Bool)(b100000_0:List UInt8)(b100000_1:Int)(b100000_2:Int)(b100000_3_n:Nat)(b200001:List Vstep):TS EE.T:=⟨57,[(0,.a (.box 100000 0)),(3,.a (.d .bool x3)),(4,.a (.box 4 0)),(6,.a (.d .byte x6)),(7,.a (.d .byte x7))],[(4,.row .bool b4),(100000,.cs [.d .str b100000_0,.d (.int .i64) b100000_1,.d (.int .i64) b100000_2,.vec (.nam 7) 200001 b100000_3_n]),(200001,.vec 200001 (.nam 7) b200001)],[]⟩
def zt(c:Code):List It2:=atR 6 c
def zJ(x3:Bool)(b4:List Bool)(b100000_0:List UInt8)(b100000_1:Int)(b100000_2:Int)(b100000_3_n:Nat)(b200001:List Vstep):TS EE.T:=⟨57,[(0,.a (.box 100000 0)),(3,.a (.d .bool x3)),(4,.a (.box 4 0))],[(4,.row .bool b4),(100000,.cs [.d .str b100000_0,.d (.int .i64) b100000_1,.d (.int .i64) b100000_2,.vec (.nam 7) 200001 b100000_3_n]),(200001,.vec 200001 (.nam 7) b200001)],[]⟩
def wR(c:Code):List It2:=atL 18 c
def vR(x3:Bool)(x46:Int)(b4:List Bool)(b100000_0:List UInt8)(b100000_1:Int)(b100000_2:Int)(b100000_3_n:Nat)(b200001:List Vstep):TS EE.T:=⟨57,[(3,.a (.d .bool x3)),(4,.a (.box 4 0)),(46,.a (.d (.int .i64) x46))],[(4,.row .bool b4),(100000,.cs [.d .str b100000_0,.d (.int .i64) b100000_1,.d (.int .i64) b100000_2,.vec (.nam 7) 200001 b100000_3_n]),(200001,.vec 200001 (.nam 7) b200001)],[]⟩
def mW(c:Code):List It2:=atL 4 c
def mH(x3:Bool)(x5:Bool)(b4:List Bool)(b100000_0:List UInt8)(b100000_1:Int)(b100000_2:Int)(b100000_3_n:Nat)(b200001:List Vstep):TS EE.T:=⟨57,[(0,.a (.box 100000 0)),(3,.a (.d .bool x3)),(4,.a (.box 4 0)),(5,.a (.d .bool x5))],[(4,.row .bool b4),(100000,.cs [.d .str b100000_0,.d (.int .i64) b100000_1,.d (.int .i64) b100000_2,.vec (.nam 7) 200001 b100000_3_n]),(200001,.vec 200001 (.nam 7) b200001)],[]⟩
def EO(c:Code):List It2:=[.c c]
def EH(y0_0:List UInt8)(y0_1:Int)(y0_2:Int)(y0_3:Nat)(y1:List Vstep):TS EE.T:=⟨57,[(0,.a (.box 100000 0))],[(100000,.cs [.d .str y0_0,.d (.int .i64) y0_1,.d (.int .i64) y0_2,.vec (.nam 7) 200001 y0_3]),(200001,.vec 200001 (.nam 7) y1)],[]⟩
def wH(c:Code)(f:Bool→UInt8→Int→(List Bool)→(List UInt8)→Int→Int→Nat→(List Vstep)→Option (PR ax))(x3:Bool)(x7:UInt8)(x9:Int)(b4:List Bool)(b100000_0:List UInt8)(b100000_1:Int)(b100000_2:Int)(b100000_3_n:Nat)(b200001:List Vstep):Tree (Lf EE.T × Option (PR ax)):=.leaf (.go (wB c) (wD x3 x7 x9 b4 b100000_0 b100000_1 b100000_2 b100000_3_n b200001),f x3 x7 x9 b4 b100000_0 b100000_1 b100000_2 b100000_3_n b200001)
def ry(c:Code)(f:Bool→UInt8→UInt8→(List Bool)→(List UInt8)→Int→Int→Nat→(List Vstep)→Option (PR ax))(x3:Bool)(x6:UInt8)(x7:UInt8)(b4:List Bool)(b100000_0:List UInt8)(b100000_1:Int)(b100000_2:Int)(b100000_3_n:Nat)(b200001:List Vstep):Tree (Lf EE.T × Option (PR ax)):=.leaf (.go (vX c) (wW x3 x6 x7 b4 b100000_0 b100000_1 b100000_2 b100000_3_n b200001),f x3 x6 x7 b4 b100000_0 b100000_1 b100000_2 b100000_3_n b200001)
def zd(c:Code)(f:Bool→(List Bool)→(List UInt8)→Int→Int→Nat→(List Vstep)→Option (PR ax))(x3:Bool)(b4:List Bool)(b100000_0:List UInt8)(b100000_1:Int)(b100000_2:Int)(b100000_3_n:Nat)(b200001:List Vstep):Tree (Lf EE.T × Option (PR ax)):=.leaf (.go (zt c) (zJ x3 b4 b100000_0 b100000_1 b100000_2 b100000_3_n b200001),f x3 b4 b100000_0 b100000_1 b100000_2 b100000_3_n b200001)
def w7(c:Code)(f:Bool→Int→(List Bool)→(List UInt8)→Int→Int→Nat→(List Vstep)→Option (PR ax))(x3:Bool)(x46:Int)(b4:List Bool)(b100000_0:List UInt8)(b100000_1:Int)(b100000_2:Int)(b100000_3_n:Nat)(b200001:List Vstep):Tree (Lf EE.T × Option (PR ax)):=.leaf (.go (wR c) (vR x3 x46 b4 b100000_0 b100000_1 b100000_2 b100000_3_n b200001),f x3 x46 b4 b100000_0 b100000_1 b100000_2 b100000_3_n b200001)
def zp(c:Code)(f:Bool→Bool→(List Bool)→(List UInt8)→Int→Int→Nat→(List Vstep)→Option (PR ax))(x3:Bool)(x5:Bool)(b4:List Bool)(b100000_0:List UInt8)(b100000_1:Int)(b100000_2:Int)(b100000_3_n:Nat)(b200001:List Vstep):Tree (Lf EE.T × Option (PR ax)):=.leaf (.go (mW c) (mH x3 x5 b4 b100000_0 b100000_1 b100000_2 b100000_3_n b200001),f x3 x5 b4 b100000_0 b100000_1 b100000_2 b100000_3_n b200001)
abbrev ji(N:Nat)(r:PR ax)(k:List It2)(s:TS EE.T):Prop:=f8 (Y:=TT) EE (FB N) IU JU (fun u=>u=gE r) k s
def lZ(x:PR ax):Tree (Lf EE.T × Option (PR ax)):=.leaf (.done (gE x),some x)
theorem wL{N:Nat}{r:PR ax}{k4:Bool→Bool→(List Bool)→(List UInt8)→Int→Int→Nat→(List Vstep)→Option (PR ax)}(hk4:∀x3 x5 b4 b100000_0 b100000_1 b100000_2 b100000_3_n b200001,k4 x3 x5 b4 b100000_0 b100000_1 b100000_2 b100000_3_n b200001=some r→ji N r (mW (aa 0 Try.f69)) (mH x3 x5 b4 b100000_0 b100000_1 b100000_2 b100000_3_n b200001)):∀ (n:Nat) (x3:Bool) (x7:UInt8) (x9:Int) (b4:List Bool) (b100000_0:List UInt8) (b100000_1:Int) (b100000_2:Int) (b100000_3_n:Nat) (b200001:List Vstep),cR N k4 n x3 x7 x9 b4 b100000_0 b100000_1 b100000_2 b100000_3_n b200001=some r→ji N r (wB (aa 0 Try.f69)) (wD x3 x7 x9 b4 b100000_0 b100000_1 b100000_2 b100000_3_n b200001)
 |0,_,_,_,_,_,_,_,_,_,h=>by cases h
 |n+1,x3,x7,x9,b4,b100000_0,b100000_1,b100000_2,b100000_3_n,b200001,h=>aJ (m:=4000) (t:=
  .cond (decide (x9≤(w64 (b2i x7))))
  (
   .bnd (eW 256 x9) fun z18=>
   .bnd (vD b4 (0+z18) true) fun z19=>
   wH (aa 0 Try.f69) (cR N k4 n) x3 x7 (w64 (x9+1)) z19 b100000_0 b100000_1 b100000_2 b100000_3_n b200001)
  (
   zp (aa 0 Try.f69) k4 x3 false b4 b100000_0 b100000_1 b100000_2 b100000_3_n b200001)) (by kernel_rfl) (by kernel_rfl) h (⟨fun _=>fun _=>fun h=>(wL hk4 n) _ _ _ _ _ _ _ _ _ h,fun h=>hk4 _ _ _ _ _ _ _ _ h⟩)
theorem rn{N:Nat}{r:PR ax}{k4:Bool→Bool→(List Bool)→(List UInt8)→Int→Int→Nat→(List Vstep)→Option (PR ax)}(hk4:∀x3 x5 b4 b100000_0 b100000_1 b100000_2 b100000_3_n b200001,k4 x3 x5 b4 b100000_0 b100000_1 b100000_2 b100000_3_n b200001=some r→ji N r (mW (aa 0 Try.f69)) (mH x3 x5 b4 b100000_0 b100000_1 b100000_2 b100000_3_n b200001))(n:Nat)(x3:Bool)(x6:UInt8)(x7:UInt8)(b4:List Bool)(b100000_0:List UInt8)(b100000_1:Int)(b100000_2:Int)(b100000_3_n:Nat)(b200001:List Vstep)(h:bR N k4 n x3 x6 x7 b4 b100000_0 b100000_1 b100000_2 b100000_3_n b200001=some r):ji N r (vX (aa 0 Try.f69)) (wW x3 x6 x7 b4 b100000_0 b100000_1 b100000_2 b100000_3_n b200001):=
 aJ (m:=4000) (t:=
 wH (aa 0 Try.f69) (cR N k4 n) x3 x7 (w64 (b2i x6)) b4 b100000_0 b100000_1 b100000_2 b100000_3_n b200001) (by kernel_rfl) (by kernel_rfl) h (fun h=>wL hk4 n _ _ _ _ _ _ _ _ _ h)
theorem yZ{N:Nat}{r:PR ax}{k4:Bool→Bool→(List Bool)→(List UInt8)→Int→Int→Nat→(List Vstep)→Option (PR ax)}(hk4:∀x3 x5 b4 b100000_0 b100000_1 b100000_2 b100000_3_n b200001,k4 x3 x5 b4 b100000_0 b100000_1 b100000_2 b100000_3_n b200001=some r→ji N r (mW (aa 0 Try.f69)) (mH x3 x5 b4 b100000_0 b100000_1 b100000_2 b100000_3_n b200001))(n:Nat)(x3:Bool)(b4:List Bool)(b100000_0:List UInt8)(b100000_1:Int)(b100000_2:Int)(b100000_3_n:Nat)(b200001:List Vstep)(h:cY N k4 n x3 b4 b100000_0 b100000_1 b100000_2 b100000_3_n b200001=some r):ji N r (zt (aa 0 Try.f69)) (zJ x3 b4 b100000_0 b100000_1 b100000_2 b100000_3_n b200001):=
 aJ (m:=4000) (t:=
 .bnd (ci N b100000_0 b100000_1 b100000_2 b100000_3_n b200001) fun z5=>
 .sm z5 (fun z6=>
  .bnd (bi N 45 z6.2.1 z6.2.2.1 z6.2.2.2.1 z6.2.2.2.2.1 z6.2.2.2.2.2) fun z7=>
  .sm z7 (fun z8=>
   .cond (z8.1)
   (
    .bnd (ci N z8.2.1 z8.2.2.1 z8.2.2.2.1 z8.2.2.2.2.1 z8.2.2.2.2.2) fun z9=>
    .sm z9 (fun z10=>
     .cond (decide ((b2i z10.1) < (b2i z6.1)))
     (
      .bnd (aX N 3 z8.2.2.1 z10.2.1 z10.2.2.1 z10.2.2.2.1 z10.2.2.2.2.1 z10.2.2.2.2.2) fun z11=>
      .sm z11 (fun z12=>
       ry (aa 0 Try.f69) (bR N k4 n) x3 z6.1 z10.1 b4 z12.1 z12.2.1 z12.2.2.1 z12.2.2.2.1 z12.2.2.2.2) (fun vz11=>
       lZ (.pan vz11)))
     (
      ry (aa 0 Try.f69) (bR N k4 n) x3 z6.1 z10.1 b4 z10.2.1 z10.2.2.1 z10.2.2.2.1 z10.2.2.2.2.1 z10.2.2.2.2.2)) (fun vz9=>
     lZ (.pan vz9)))
   (
    ry (aa 0 Try.f69) (bR N k4 n) x3 z6.1 z6.1 b4 z8.2.1 z8.2.2.1 z8.2.2.2.1 z8.2.2.2.2.1 z8.2.2.2.2.2)) (fun vz7=>
   lZ (.pan vz7))) (fun vz5=>
  lZ (.pan vz5))) (by kernel_rfl) (by kernel_rfl) h (fun _=>⟨fun _=>fun _=>⟨fun _=>⟨fun _=>⟨fun _=>⟨fun _=>⟨fun _=>fun h=>rn hk4 n _ _ _ _ _ _ _ _ _ h,fun _=>be (enc:=gE) rfl⟩,fun h=>rn hk4 n _ _ _ _ _ _ _ _ _ h⟩,fun _=>be (enc:=gE) rfl⟩,fun h=>rn hk4 n _ _ _ _ _ _ _ _ _ h⟩,fun _=>be (enc:=gE) rfl⟩,fun _=>be (enc:=gE) rfl⟩)
theorem wo{N:Nat}{r:PR ax}:∀ (n:Nat) (x3:Bool) (x46:Int) (b4:List Bool) (b100000_0:List UInt8) (b100000_1:Int) (b100000_2:Int) (b100000_3_n:Nat) (b200001:List Vstep),cQ N n x3 x46 b4 b100000_0 b100000_1 b100000_2 b100000_3_n b200001=some r→ji N r (wR (aa 0 Try.f69)) (vR x3 x46 b4 b100000_0 b100000_1 b100000_2 b100000_3_n b200001)
 |0,_,_,_,_,_,_,_,_,h=>by cases h
 |n+1,x3,x46,b4,b100000_0,b100000_1,b100000_2,b100000_3_n,b200001,h=>aJ (m:=4000) (t:=
  .cond (decide (x46 < 256))
  (
   .bnd (eW 256 x46) fun z13=>
   .bnd (b4[0+z13]?) fun z14=>
   .bnd (eW 256 x46) fun z15=>
   .bnd (vD b4 (0+z15) (!(z14==x3))) fun z16=>
   w7 (aa 0 Try.f69) (cQ N n) x3 (w64 (x46+1)) z16 b100000_0 b100000_1 b100000_2 b100000_3_n b200001)
  (
   .bnd (pV 256 b4) fun z17=>
   lZ (.ok ((some z17),b100000_0,b100000_1,b100000_2,b100000_3_n,b200001)))) (by kernel_rfl) (by kernel_rfl) h (⟨fun _=>fun _=>fun _=>fun _=>fun h=>(wo n) _ _ _ _ _ _ _ _ h,fun _=>be (enc:=gE) rfl⟩)
theorem um{N:Nat}{r:PR ax}:∀ (n:Nat) (x3:Bool) (x5:Bool) (b4:List Bool) (b100000_0:List UInt8) (b100000_1:Int) (b100000_2:Int) (b100000_3_n:Nat) (b200001:List Vstep),bZ N n x3 x5 b4 b100000_0 b100000_1 b100000_2 b100000_3_n b200001=some r→ji N r (mW (aa 0 Try.f69)) (mH x3 x5 b4 b100000_0 b100000_1 b100000_2 b100000_3_n b200001)
 |0,_,_,_,_,_,_,_,_,h=>by cases h
 |n+1,x3,x5,b4,b100000_0,b100000_1,b100000_2,b100000_3_n,b200001,h=>aJ (m:=4000) (t:=
  .cond (x5)
  (
   zd (aa 0 Try.f69) (cY N (bZ N n) n) x3 b4 b100000_0 b100000_1 b100000_2 b100000_3_n b200001)
  (
   .bnd (bi N 93 b100000_0 b100000_1 b100000_2 b100000_3_n b200001) fun z3=>
   .sm z3 (fun z4=>
    .cond (!z4.1)
    (
     zd (aa 0 Try.f69) (cY N (bZ N n) n) x3 b4 z4.2.1 z4.2.2.1 z4.2.2.2.1 z4.2.2.2.2.1 z4.2.2.2.2.2)
    (
     w7 (aa 0 Try.f69) (cQ N n) x3 0 b4 z4.2.1 z4.2.2.1 z4.2.2.2.1 z4.2.2.2.2.1 z4.2.2.2.2.2)) (fun vz3=>
    lZ (.pan vz3)))) (by kernel_rfl) (by kernel_rfl) h (⟨fun h=>yZ (um n) n _ _ _ _ _ _ _ h,fun _=>⟨fun _=>⟨fun h=>yZ (um n) n _ _ _ _ _ _ _ h,fun h=>wo n _ _ _ _ _ _ _ _ h⟩,fun _=>be (enc:=gE) rfl⟩⟩)
theorem HU{N:Nat}{r:PR ax}(y0_0:List UInt8)(y0_1:Int)(y0_2:Int)(y0_3:Nat)(y1:List Vstep)(h:dQ N y0_0 y0_1 y0_2 y0_3 y1=some r):ji N r (EO (aa 0 Try.f69)) (EH y0_0 y0_1 y0_2 y0_3 y1):=
 aJ (m:=4000) (t:=
 .bnd (bi N 94 y0_0 y0_1 y0_2 y0_3 y1) fun z1=>
 .sm z1 (fun z2=>
  zp (aa 0 Try.f69) (bZ N N) z2.1 true (List.replicate 256 false) z2.2.1 z2.2.2.1 z2.2.2.2.1 z2.2.2.2.2.1 z2.2.2.2.2.2) (fun vz1=>
  lZ (.pan vz1))) (by kernel_rfl) (by kernel_rfl) h (fun _=>⟨fun _=>fun h=>um N _ _ _ _ _ _ _ _ h,fun _=>be (enc:=gE) rfl⟩)
def C5(y0_0:List UInt8)(y0_1:Int)(y0_2:Int)(y0_3:Nat)(y1:List Vstep):List (TV EE.T):=[.a (.box 100000 0)]
def yi(y0_0:List UInt8)(y0_1:Int)(y0_2:Int)(y0_3:Nat)(y1:List Vstep):List (Nat × TB EE.T):=[(100000,.cs [.d .str y0_0,.d (.int .i64) y0_1,.d (.int .i64) y0_2,.vec (.nam 7) 200001 y0_3]),(200001,.vec 200001 (.nam 7) y1)]
theorem lq{N:Nat}(y0_0:List UInt8)(y0_1:Int)(y0_2:Int)(y0_3:Nat)(y1:List Vstep){r:PR ax}(h:dQ N y0_0 y0_1 y0_2 y0_3 y1=some r)(ρ:Rn)(hi:Inj ρ (yi y0_0 y0_1 y0_2 y0_3 y1)):aT Try.prog 69 ((C5 y0_0 y0_1 y0_2 y0_3 y1).map (TV.to EE.toEnc ρ)) (hTo EE.toEnc ρ (yi y0_0 y0_1 y0_2 y0_3 y1)) (cS EE ρ fun u=>u=gE r):=
 fA (aa 0 Try.f69) 57 mixed (E1 N) Try.func69 (by kernel_rfl) rfl rfl rfl rfl (HU y0_0 y0_1 y0_2 y0_3 y1 h) ρ hi
def ib(N:Nat)(us:List (TV EE.T))(hs:List (Nat × TB EE.T)):XR EE.T:=
 gdX (fU us 1) <|
 bnX (aB us 0) fun i0=>
 bnX (bC hs i0) fun l0=>
 gdX (fU l0 4) <|
 bnX (cD .str l0 0) fun y0_0=>
 bnX (cD (.int .i64) l0 1) fun y0_1=>
 bnX (cD (.int .i64) l0 2) fun y0_2=>
 bnX (cVi (.nam 7) l0 3) fun i1=>
 bnX (cVn (.nam 7) l0 3) fun y0_3=>
 bnX (bV (.nam 7) hs i1) fun y1=>
 gdX (bX hs [i0,i1]) <|
 gdX (iw [i0,i1]) <|
 .mv (dQ N y0_0 y0_1 y0_2 y0_3 y1) [i0,i1] (mvL [i0,i1] [100000,200001]) 0 (ev i0 i1) (sw i0 i1)
theorem kG(N:Nat):XOk Try.prog EE 69 (ib N):=fun us hs=>
 a8 fun h1=>aA fun i0 h2=>aA fun l0 h3=>a8 fun h4=>aA fun y0_0 h5=>aA fun y0_1 h6=>aA fun y0_2 h7=>aA fun i1 h8=>aA fun y0_3 h9=>aA fun y1 h10=>a8 fun h11=>a8 fun h12=>fun p hz ρ hi=>gm (ex:=[]) (ks:=[100000,200001]) (us':=C5 y0_0 y0_1 y0_2 y0_3 y1) (h0:=yi y0_0 y0_1 y0_2 y0_3 y1) (ρ':=mT ρ [i0,i1]) (uc:=ev 100000 200001) (u:=ev i0 i1) (hc:=sw 100000 200001) (h:=sw i0 i1) hi h11 (by kernel_rfl) ⟨jf h2 (by kernel_rfl),cf h1⟩ ⟨(by kernel_rfl),kM h3 ⟨dm h5,dm h6,dm h7,iM h8 h9 (by kernel_rfl),cf h4⟩,(by kernel_rfl),kc h10 (by kernel_rfl),trivial⟩ ⟨.inr rfl,.inl rfl,trivial⟩ h12 (fun hj=>lq y0_0 y0_1 y0_2 y0_3 y1 hz _ hj) (fun z=>⟨by kernel_rfl,by kernel_rfl,by kernel_rfl,by kernel_rfl⟩)
def bP(i0:Nat)(r:aW):TV EE.T:=.a (.d (.sl (.nam 7)) r.1)
def sx(i0:Nat)(r:aW):List (Nat × TB EE.T):=[(i0,.vec i0 (.nam 7) r.2)]
def mE(r:PR aW):RL EE.T:=mP (bP 100000) (sx 100000) r
def Kd:Lvs:=⟨[],[],[],[],false,[],[100000],[],[]⟩
def Jc:List ResultVar:=[.tmp 2]
def FV(N:Nat):Gam EE:=⟨[],EQT,[],[]⟩
theorem Gz(N:Nat):GOk Try.prog TT EE (FV N):=GOk.nil dh
def F9(c:Code):List It2:=[.c c]
def E2(x0_o:Nat)(x0_n:Nat)(y0:List Vstep):TS EE.T:=⟨8,[(0,.a (.vsl (.nam 7) 100000 x0_o x0_n))],[(100000,.vec 100000 (.nam 7) y0)],[]⟩
abbrev I0(N:Nat)(r:PR aW)(k:List It2)(s:TS EE.T):Prop:=f8 (Y:=TT) EE (FV N) Kd Jc (fun u=>u=mE r) k s
def C8(x:PR aW):Tree (Lf EE.T × Option (PR aW)):=.leaf (.done (mE x),some x)
theorem Fc{N:Nat}{r:PR aW}(x0_o:Nat)(x0_n:Nat)(y0:List Vstep)(h:bx N x0_o x0_n y0=some r):I0 N r (F9 (aa 0 Try.f63)) (E2 x0_o x0_n y0):=
 aJ (m:=4000) (t:=
 .nl ((List.drop x0_o y0).take x0_n)
 (
  C8 (.ok (([] :List Vstep),y0)))
 (
  .bnd (Ek x0_o x0_n y0) fun z1=>
  .bnd (eE 32 ([] :List Vstep) z1) fun z2=>
  C8 (.ok (z2,y0)))) (by kernel_rfl) (by kernel_rfl) h (⟨fun e _ h=>Ms e h,be (enc:=mE) rfl,fun _=>fun _=>be (enc:=mE) rfl⟩)
def C2(x0_o:Nat)(x0_n:Nat)(y0:List Vstep):List (TV EE.T):=[.a (.vsl (.nam 7) 100000 x0_o x0_n)]
def xi(x0_o:Nat)(x0_n:Nat)(y0:List Vstep):List (Nat × TB EE.T):=[(100000,.vec 100000 (.nam 7) y0)]
theorem fP{N:Nat}(x0_o:Nat)(x0_n:Nat)(y0:List Vstep){r:PR aW}(h:bx N x0_o x0_n y0=some r)(ρ:Rn)(hi:Inj ρ (xi x0_o x0_n y0)):aT Try.prog 63 ((C2 x0_o x0_n y0).map (TV.to EE.toEnc ρ)) (hTo EE.toEnc ρ (xi x0_o x0_n y0)) (cS EE ρ fun u=>u=mE r):=
 fA (aa 0 Try.f63) 8 mixed (Gz N) Try.func63 (by kernel_rfl) rfl rfl rfl rfl (Fc x0_o x0_n y0 h) ρ hi
def dO(N:Nat)(us:List (TV EE.T))(hs:List (Nat × TB EE.T)):XR EE.T:=
 gdX (fU us 1) <|
 bnX (aUi (.nam 7) us 0) fun i0=>
 bnX (aUo (.nam 7) us 0) fun x0_o=>
 bnX (aUn (.nam 7) us 0) fun x0_n=>
 bnX (bV (.nam 7) hs i0) fun y0=>
 gdX (bX hs [i0]) <|
 gdX (iw [i0]) <|
 .mv (bx N x0_o x0_n y0) [i0] (mvL [i0] [100000]) 0 (bP i0) (sx i0)
theorem fL(N:Nat):XOk Try.prog EE 63 (dO N):=fun us hs=>
 a8 fun h1=>aA fun i0 h2=>aA fun x0_o h3=>aA fun x0_n h4=>aA fun y0 h5=>a8 fun h6=>a8 fun h7=>fun p hz ρ hi=>gm (ex:=[]) (ks:=[100000]) (us':=C2 x0_o x0_n y0) (h0:=xi x0_o x0_n y0) (ρ':=mT ρ [i0]) (uc:=bP 100000) (u:=bP i0) (hc:=sx 100000) (h:=sx i0) hi h6 (by kernel_rfl) ⟨MI h2 h3 h4 (by kernel_rfl),cf h1⟩ ⟨(by kernel_rfl),kc h5 (by kernel_rfl),trivial⟩ ⟨.inr rfl,trivial⟩ h7 (fun hj=>fP x0_o x0_n y0 hz _ hj) (fun z=>⟨by kernel_rfl,by kernel_rfl,by kernel_rfl,by kernel_rfl⟩)
def ey(i0:Nat)(i1:Nat)(r:bA):TV EE.T:=.a (.d (.sl (.nam 7)) r.1)
def sy(i0:Nat)(i1:Nat)(r:bA):List (Nat × TB EE.T):=[(i0,.cs [.d .str r.2.1,.d (.int .i64) r.2.2.1,.d (.int .i64) r.2.2.2.1,.vec (.nam 7) i1 r.2.2.2.2.1]),(i1,.vec i1 (.nam 7) r.2.2.2.2.2)]
def ns(r:PR bA):RL EE.T:=mP (ey 100000 200001) (sy 100000 200001) r
def Jz:Lvs:=⟨[],[],[],[],false,[(100000,(none,[]))],[100000,200001],[],[(19,200001)]⟩
def IY:List ResultVar:=[.tmp 4]
def F3(N:Nat):Gam EE:=⟨[],EQT,[⟨63,dO N⟩],[]⟩
theorem Fb(N:Nat):GOk Try.prog TT EE (F3 N):=GOk.consx (fL N) (GOk.nil dh)
def II(c:Code):List It2:=[.c c]
def Fh(x1:Int)(y0_0:List UInt8)(y0_1:Int)(y0_2:Int)(y0_3:Nat)(y1:List Vstep):TS EE.T:=⟨23,[(0,.a (.box 100000 0)),(1,.a (.d (.int .i64) x1))],[(100000,.cs [.d .str y0_0,.d (.int .i64) y0_1,.d (.int .i64) y0_2,.vec (.nam 7) 200001 y0_3]),(200001,.vec 200001 (.nam 7) y1)],[]⟩
abbrev IZ(N:Nat)(r:PR bA)(k:List It2)(s:TS EE.T):Prop:=f8 (Y:=TT) EE (F3 N) Jz IY (fun u=>u=ns r) k s
def CU(x:PR bA):Tree (Lf EE.T × Option (PR bA)):=.leaf (.done (ns x),some x)
theorem Hx{N:Nat}{r:PR bA}(x1:Int)(y0_0:List UInt8)(y0_1:Int)(y0_2:Int)(y0_3:Nat)(y1:List Vstep)(h:cz N x1 y0_0 y0_1 y0_2 y0_3 y1=some r):IZ N r (II (aa 0 Try.f51)) (Fh x1 y0_0 y0_1 y0_2 y0_3 y1):=
 aJ (m:=4000) (t:=
 .bnd (Bf y0_3 x1 (y0_3:Int)) fun z1=>
 .bnd (bx N z1.1 (y0_3 - z1.1) y1) fun z2=>
 .sm z2 (fun z3=>
  .bnd (Ii y0_3 z3.2 x1) fun z4=>
  CU (.ok (z3.1,y0_0,y0_1,y0_2,z4.length,z4))) (fun vz2=>
  CU (.pan vz2))) (by kernel_rfl) (by kernel_rfl) h (fun _=>fun _=>⟨fun _=>fun _=>be (enc:=ns) rfl,fun _=>be (enc:=ns) rfl⟩)
def CP(x1:Int)(y0_0:List UInt8)(y0_1:Int)(y0_2:Int)(y0_3:Nat)(y1:List Vstep):List (TV EE.T):=[.a (.box 100000 0),.a (.d (.int .i64) x1)]
def xh(x1:Int)(y0_0:List UInt8)(y0_1:Int)(y0_2:Int)(y0_3:Nat)(y1:List Vstep):List (Nat × TB EE.T):=[(100000,.cs [.d .str y0_0,.d (.int .i64) y0_1,.d (.int .i64) y0_2,.vec (.nam 7) 200001 y0_3]),(200001,.vec 200001 (.nam 7) y1)]
theorem lG{N:Nat}(x1:Int)(y0_0:List UInt8)(y0_1:Int)(y0_2:Int)(y0_3:Nat)(y1:List Vstep){r:PR bA}(h:cz N x1 y0_0 y0_1 y0_2 y0_3 y1=some r)(ρ:Rn)(hi:Inj ρ (xh x1 y0_0 y0_1 y0_2 y0_3 y1)):aT Try.prog 51 ((CP x1 y0_0 y0_1 y0_2 y0_3 y1).map (TV.to EE.toEnc ρ)) (hTo EE.toEnc ρ (xh x1 y0_0 y0_1 y0_2 y0_3 y1)) (cS EE ρ fun u=>u=ns r):=
 fA (aa 0 Try.f51) 23 mixed (Fb N) Try.func51 (by kernel_rfl) rfl rfl rfl rfl (Hx x1 y0_0 y0_1 y0_2 y0_3 y1 h) ρ hi
def fw(N:Nat)(us:List (TV EE.T))(hs:List (Nat × TB EE.T)):XR EE.T:=
 gdX (fU us 2) <|
 bnX (aB us 0) fun i0=>
 bnX (aD (.int .i64) us 1) fun x1=>
 bnX (bC hs i0) fun l0=>
 gdX (fU l0 4) <|
 bnX (cD .str l0 0) fun y0_0=>
 bnX (cD (.int .i64) l0 1) fun y0_1=>
 bnX (cD (.int .i64) l0 2) fun y0_2=>
 bnX (cVi (.nam 7) l0 3) fun i1=>
 bnX (cVn (.nam 7) l0 3) fun y0_3=>
 bnX (bV (.nam 7) hs i1) fun y1=>
 gdX (bX hs [i0,i1]) <|
 gdX (iw [i0,i1]) <|
 .mv (cz N x1 y0_0 y0_1 y0_2 y0_3 y1) [i0,i1] (mvL [i0,i1] [100000,200001]) 0 (ey i0 i1) (sy i0 i1)
theorem gy(N:Nat):XOk Try.prog EE 51 (fw N):=fun us hs=>
 a8 fun h1=>aA fun i0 h2=>aA fun x1 h3=>aA fun l0 h4=>a8 fun h5=>aA fun y0_0 h6=>aA fun y0_1 h7=>aA fun y0_2 h8=>aA fun i1 h9=>aA fun y0_3 h10=>aA fun y1 h11=>a8 fun h12=>a8 fun h13=>fun p hz ρ hi=>gm (ex:=[]) (ks:=[100000,200001]) (us':=CP x1 y0_0 y0_1 y0_2 y0_3 y1) (h0:=xh x1 y0_0 y0_1 y0_2 y0_3 y1) (ρ':=mT ρ [i0,i1]) (uc:=ey 100000 200001) (u:=ey i0 i1) (hc:=sy 100000 200001) (h:=sy i0 i1) hi h12 (by kernel_rfl) ⟨jf h2 (by kernel_rfl),mo h3,cf h1⟩ ⟨(by kernel_rfl),kM h4 ⟨dm h6,dm h7,dm h8,iM h9 h10 (by kernel_rfl),cf h5⟩,(by kernel_rfl),kc h11 (by kernel_rfl),trivial⟩ ⟨.inr rfl,.inl rfl,trivial⟩ h13 (fun hj=>lG x1 y0_0 y0_1 y0_2 y0_3 y1 hz _ hj) (fun z=>⟨by kernel_rfl,by kernel_rfl,by kernel_rfl,by kernel_rfl⟩)
def ep(i0:Nat)(i1:Nat)(r:aK):TV EE.T:=.tu []
def sX(i0:Nat)(i1:Nat)(r:aK):List (Nat × TB EE.T):=[(i0,.cs [.d .str r.1,.d (.int .i64) r.2.1,.d (.int .i64) r.2.2.1,.vec (.nam 7) i1 r.2.2.2.1]),(i1,.vec i1 (.nam 7) r.2.2.2.2)]
def mI(r:PR aK):RL EE.T:=mP (ep 100000 200001) (sX 100000 200001) r
def Ji:Lvs:=⟨[(9,⟨[(0,false),(6,false),(8,false),(16,false),(17,false),(18,false)],[],[(8,(some 7,[])),(100000,(none,[])),(200001,(none,[]))],[]⟩)],[(2,⟨[(0,false),(6,false),(16,false),(17,false),(18,false)],[],[(100000,(none,[])),(200001,(none,[]))],[]⟩)],[9],[],false,[(100000,(none,[]))],[100000,200001],[],[]⟩
def I1:List ResultVar:=[]
def FQ(N:Nat):Gam EE:=⟨[],EQT,[⟨36,dn N⟩],[]⟩
theorem Fk(N:Nat):GOk Try.prog TT EE (FQ N):=GOk.consx (dL N) (GOk.nil dh)
def Aj(c:Code):List It2:=atR 9 c
def Ac(x6:Int)(x16:List Vstep)(x17:Int)(x18:Int)(b8:Vstep)(b100000_0:List UInt8)(b100000_1:Int)(b100000_2:Int)(b100000_3_n:Nat)(b200001:List Vstep):TS EE.T:=⟨47,[(0,.a (.box 100000 0)),(6,.a (.d (.int .i64) x6)),(8,.a (.box 8 0)),(16,.a (.d (.sl (.nam 7)) x16)),(17,.a (.d (.int .i64) x17)),(18,.a (.d (.int .i64) x18))],[(8,.cs (eK EE (.nam 7) b8)),(100000,.cs [.d .str b100000_0,.d (.int .i64) b100000_1,.d (.int .i64) b100000_2,.vec (.nam 7) 200001 b100000_3_n]),(200001,.vec 200001 (.nam 7) b200001)],[]⟩
def ul(c:Code):List It2:=atL 2 c
def t6(x6:Int)(x16:List Vstep)(x17:Int)(x18:Int)(b100000_0:List UInt8)(b100000_1:Int)(b100000_2:Int)(b100000_3_n:Nat)(b200001:List Vstep):TS EE.T:=⟨47,[(0,.a (.box 100000 0)),(6,.a (.d (.int .i64) x6)),(16,.a (.d (.sl (.nam 7)) x16)),(17,.a (.d (.int .i64) x17)),(18,.a (.d (.int .i64) x18))],[(100000,.cs [.d .str b100000_0,.d (.int .i64) b100000_1,.d (.int .i64) b100000_2,.vec (.nam 7) 200001 b100000_3_n]),(200001,.vec 200001 (.nam 7) b200001)],[]⟩
def Iw(c:Code):List It2:=[.c c]
def Hg(x1:List Vstep)(x2:Int)(y0_0:List UInt8)(y0_1:Int)(y0_2:Int)(y0_3:Nat)(y1:List Vstep):TS EE.T:=⟨47,[(0,.a (.box 100000 0)),(1,.a (.d (.sl (.nam 7)) x1)),(2,.a (.d (.int .i64) x2))],[(100000,.cs [.d .str y0_0,.d (.int .i64) y0_1,.d (.int .i64) y0_2,.vec (.nam 7) 200001 y0_3]),(200001,.vec 200001 (.nam 7) y1)],[]⟩
def tB(c:Code)(f:Int→(List Vstep)→Int→Int→Vstep→(List UInt8)→Int→Int→Nat→(List Vstep)→Option (PR aK))(x6:Int)(x16:List Vstep)(x17:Int)(x18:Int)(b8:Vstep)(b100000_0:List UInt8)(b100000_1:Int)(b100000_2:Int)(b100000_3_n:Nat)(b200001:List Vstep):Tree (Lf EE.T × Option (PR aK)):=.leaf (.go (Aj c) (Ac x6 x16 x17 x18 b8 b100000_0 b100000_1 b100000_2 b100000_3_n b200001),f x6 x16 x17 x18 b8 b100000_0 b100000_1 b100000_2 b100000_3_n b200001)
def Ba(c:Code)(f:Int→(List Vstep)→Int→Int→(List UInt8)→Int→Int→Nat→(List Vstep)→Option (PR aK))(x6:Int)(x16:List Vstep)(x17:Int)(x18:Int)(b100000_0:List UInt8)(b100000_1:Int)(b100000_2:Int)(b100000_3_n:Nat)(b200001:List Vstep):Tree (Lf EE.T × Option (PR aK)):=.leaf (.go (ul c) (t6 x6 x16 x17 x18 b100000_0 b100000_1 b100000_2 b100000_3_n b200001),f x6 x16 x17 x18 b100000_0 b100000_1 b100000_2 b100000_3_n b200001)
abbrev sS(N:Nat)(r:PR aK)(k:List It2)(s:TS EE.T):Prop:=f8 (Y:=TT) EE (FQ N) Ji I1 (fun u=>u=mI r) k s
def Da(x:PR aK):Tree (Lf EE.T × Option (PR aK)):=.leaf (.done (mI x),some x)
theorem u5{N:Nat}{r:PR aK}{k2:Int→(List Vstep)→Int→Int→(List UInt8)→Int→Int→Nat→(List Vstep)→Option (PR aK)}(hk2:∀x6 x16 x17 x18 b100000_0 b100000_1 b100000_2 b100000_3_n b200001,k2 x6 x16 x17 x18 b100000_0 b100000_1 b100000_2 b100000_3_n b200001=some r→sS N r (ul (aa 0 Try.f52)) (t6 x6 x16 x17 x18 b100000_0 b100000_1 b100000_2 b100000_3_n b200001))(n:Nat)(x6:Int)(x16:List Vstep)(x17:Int)(x18:Int)(b8:Vstep)(b100000_0:List UInt8)(b100000_1:Int)(b100000_2:Int)(b100000_3_n:Nat)(b200001:List Vstep)(h:b9 N k2 n x6 x16 x17 x18 b8 b100000_0 b100000_1 b100000_2 b100000_3_n b200001=some r):sS N r (Aj (aa 0 Try.f52)) (Ac x6 x16 x17 x18 b8 b100000_0 b100000_1 b100000_2 b100000_3_n b200001):=
 aJ (m:=4000) (t:=
 .bnd (aC N b8 b100000_0 b100000_1 b100000_2 b100000_3_n b200001) fun z2=>
 .sm z2 (fun z3=>
  Ba (aa 0 Try.f52) k2 x6 x16 x17 (w64 (x18+1)) z3.2.1 z3.2.2.1 z3.2.2.2.1 z3.2.2.2.2.1 z3.2.2.2.2.2) (fun vz2=>
  Da (.pan vz2))) (by kernel_rfl) (by kernel_rfl) h (fun _=>⟨fun _=>fun h=>hk2 _ _ _ _ _ _ _ _ _ h,fun _=>be (enc:=mI) rfl⟩)
theorem pA{N:Nat}{r:PR aK}:∀ (n:Nat) (x6:Int) (x16:List Vstep) (x17:Int) (x18:Int) (b100000_0:List UInt8) (b100000_1:Int) (b100000_2:Int) (b100000_3_n:Nat) (b200001:List Vstep),bv N n x6 x16 x17 x18 b100000_0 b100000_1 b100000_2 b100000_3_n b200001=some r→sS N r (ul (aa 0 Try.f52)) (t6 x6 x16 x17 x18 b100000_0 b100000_1 b100000_2 b100000_3_n b200001)
 |0,_,_,_,_,_,_,_,_,_,h=>by cases h
 |n+1,x6,x16,x17,x18,b100000_0,b100000_1,b100000_2,b100000_3_n,b200001,h=>aJ (m:=4000) (t:=
  .cond (decide (x18 < x17))
  (
   .bnd (ap x16 x18) fun z1=>
   .cond (z1.kind==1)
   (
    tB (aa 0 Try.f52) (b9 N (bv N n) n) x6 x16 x17 x18 ({ kind:=z1.kind,a:=w64 (z1.a+x6),b:=w64 (z1.b+x6),set_:=z1.set_ }:Vstep) b100000_0 b100000_1 b100000_2 b100000_3_n b200001)
   (
    .cond (z1.kind==2)
    (
     tB (aa 0 Try.f52) (b9 N (bv N n) n) x6 x16 x17 x18 ({ kind:=z1.kind,a:=w64 (z1.a+x6),b:=z1.b,set_:=z1.set_ }:Vstep) b100000_0 b100000_1 b100000_2 b100000_3_n b200001)
    (
     tB (aa 0 Try.f52) (b9 N (bv N n) n) x6 x16 x17 x18 z1 b100000_0 b100000_1 b100000_2 b100000_3_n b200001)))
  (
   Da (.ok (b100000_0,b100000_1,b100000_2,b100000_3_n,b200001)))) (by kernel_rfl) (by kernel_rfl) h (⟨fun _=>⟨fun h=>u5 (pA n) n _ _ _ _ _ _ _ _ _ _ h,⟨fun h=>u5 (pA n) n _ _ _ _ _ _ _ _ _ _ h,fun h=>u5 (pA n) n _ _ _ _ _ _ _ _ _ _ h⟩⟩,be (enc:=mI) rfl⟩)
theorem GY{N:Nat}{r:PR aK}(x1:List Vstep)(x2:Int)(y0_0:List UInt8)(y0_1:Int)(y0_2:Int)(y0_3:Nat)(y1:List Vstep)(h:bq N x1 x2 y0_0 y0_1 y0_2 y0_3 y1=some r):sS N r (Iw (aa 0 Try.f52)) (Hg x1 x2 y0_0 y0_1 y0_2 y0_3 y1):=
 aJ (m:=4000) (t:=
 Ba (aa 0 Try.f52) (bv N N) (w64 ((y0_3:Int) - x2)) x1 (x1.length:Int) 0 y0_0 y0_1 y0_2 y0_3 y1) (by kernel_rfl) (by kernel_rfl) h (fun h=>pA N _ _ _ _ _ _ _ _ _ h)
def CA(x1:List Vstep)(x2:Int)(y0_0:List UInt8)(y0_1:Int)(y0_2:Int)(y0_3:Nat)(y1:List Vstep):List (TV EE.T):=[.a (.box 100000 0),.a (.d (.sl (.nam 7)) x1),.a (.d (.int .i64) x2)]
def xH(x1:List Vstep)(x2:Int)(y0_0:List UInt8)(y0_1:Int)(y0_2:Int)(y0_3:Nat)(y1:List Vstep):List (Nat × TB EE.T):=[(100000,.cs [.d .str y0_0,.d (.int .i64) y0_1,.d (.int .i64) y0_2,.vec (.nam 7) 200001 y0_3]),(200001,.vec 200001 (.nam 7) y1)]
theorem lc{N:Nat}(x1:List Vstep)(x2:Int)(y0_0:List UInt8)(y0_1:Int)(y0_2:Int)(y0_3:Nat)(y1:List Vstep){r:PR aK}(h:bq N x1 x2 y0_0 y0_1 y0_2 y0_3 y1=some r)(ρ:Rn)(hi:Inj ρ (xH x1 x2 y0_0 y0_1 y0_2 y0_3 y1)):aT Try.prog 52 ((CA x1 x2 y0_0 y0_1 y0_2 y0_3 y1).map (TV.to EE.toEnc ρ)) (hTo EE.toEnc ρ (xH x1 x2 y0_0 y0_1 y0_2 y0_3 y1)) (cS EE ρ fun u=>u=mI r):=
 fA (aa 0 Try.f52) 47 mixed (Fk N) Try.func52 (by kernel_rfl) rfl rfl rfl rfl (GY x1 x2 y0_0 y0_1 y0_2 y0_3 y1 h) ρ hi
def fp(N:Nat)(us:List (TV EE.T))(hs:List (Nat × TB EE.T)):XR EE.T:=
 gdX (fU us 3) <|
 bnX (aB us 0) fun i0=>
 bnX (aD (.sl (.nam 7)) us 1) fun x1=>
 bnX (aD (.int .i64) us 2) fun x2=>
 bnX (bC hs i0) fun l0=>
 gdX (fU l0 4) <|
 bnX (cD .str l0 0) fun y0_0=>
 bnX (cD (.int .i64) l0 1) fun y0_1=>
 bnX (cD (.int .i64) l0 2) fun y0_2=>
 bnX (cVi (.nam 7) l0 3) fun i1=>
 bnX (cVn (.nam 7) l0 3) fun y0_3=>
 bnX (bV (.nam 7) hs i1) fun y1=>
 gdX (bX hs [i0,i1]) <|
 gdX (iw [i0,i1]) <|
 .mv (bq N x1 x2 y0_0 y0_1 y0_2 y0_3 y1) [i0,i1] (mvL [i0,i1] [100000,200001]) 0 (ep i0 i1) (sX i0 i1)
theorem gw(N:Nat):XOk Try.prog EE 52 (fp N):=fun us hs=>
 a8 fun h1=>aA fun i0 h2=>aA fun x1 h3=>aA fun x2 h4=>aA fun l0 h5=>a8 fun h6=>aA fun y0_0 h7=>aA fun y0_1 h8=>aA fun y0_2 h9=>aA fun i1 h10=>aA fun y0_3 h11=>aA fun y1 h12=>a8 fun h13=>a8 fun h14=>fun p hz ρ hi=>gm (ex:=[]) (ks:=[100000,200001]) (us':=CA x1 x2 y0_0 y0_1 y0_2 y0_3 y1) (h0:=xH x1 x2 y0_0 y0_1 y0_2 y0_3 y1) (ρ':=mT ρ [i0,i1]) (uc:=ep 100000 200001) (u:=ep i0 i1) (hc:=sX 100000 200001) (h:=sX i0 i1) hi h13 (by kernel_rfl) ⟨jf h2 (by kernel_rfl),mo h3,mo h4,cf h1⟩ ⟨(by kernel_rfl),kM h5 ⟨dm h7,dm h8,dm h9,iM h10 h11 (by kernel_rfl),cf h6⟩,(by kernel_rfl),kc h12 (by kernel_rfl),trivial⟩ ⟨.inr rfl,.inl rfl,trivial⟩ h14 (fun hj=>lc x1 x2 y0_0 y0_1 y0_2 y0_3 y1 hz _ hj) (fun z=>⟨by kernel_rfl,by kernel_rfl,by kernel_rfl,by kernel_rfl⟩)
def lJ(i0:Nat)(i1:Nat)(r:Bool × (List UInt8) × Int × Int × Nat × (List Vstep)):TV EE.T:=.a (.d .bool r.1)
def lz(i0:Nat)(i1:Nat)(r:Bool × (List UInt8) × Int × Int × Nat × (List Vstep)):List (Nat × TB EE.T):=[(i0,.cs [.d .str r.2.1,.d (.int .i64) r.2.2.1,.d (.int .i64) r.2.2.2.1,.vec (.nam 7) i1 r.2.2.2.2.1]),(i1,.vec i1 (.nam 7) r.2.2.2.2.2)]
def em(N:RecC)(us:List (TV EE.T))(hs:List (Nat × TB EE.T)):XR EE.T:=
 gdX (fU us 1) <|
 bnX (aB us 0) fun i0=>
 bnX (bC hs i0) fun l0=>
 gdX (fU l0 4) <|
 bnX (cD .str l0 0) fun y0_0=>
 bnX (cD (.int .i64) l0 1) fun y0_1=>
 bnX (cD (.int .i64) l0 2) fun y0_2=>
 bnX (cVi (.nam 7) l0 3) fun i1=>
 bnX (cVn (.nam 7) l0 3) fun y0_3=>
 bnX (bV (.nam 7) hs i1) fun y1=>
 gdX (bX hs [i0,i1]) <|
 gdX (iw [i0,i1]) <|
 .mv (dR N y0_0 y0_1 y0_2 y0_3 y1) [i0,i1] (mvL [i0,i1] [100000,200001]) 0 (lJ i0 i1) (lz i0 i1)
def iB(N:RecC):Prop:=XOk Try.prog EE 34 (em N)
theorem gz(N:RecC)(hN:iB N):XOk Try.prog EE 34 (em N):=hN
theorem Fs(n:Nat):iB ⟨n,fun _ _ _ _ _=>none⟩:=fun us hs=>
 a8 fun h1=>aA fun i0 h2=>aA fun l0 h3=>a8 fun h4=>aA fun y0_0 h5=>aA fun y0_1 h6=>aA fun y0_2 h7=>aA fun i1 h8=>aA fun y0_3 h9=>aA fun y1 h10=>a8 fun h11=>a8 fun h12=>fun p hz=>by cases hz
def dX(i0:Nat)(i1:Nat)(r:az):TV EE.T:=.a (.d .bool r.1)
def s9(i0:Nat)(i1:Nat)(r:az):List (Nat × TB EE.T):=[(i0,.cs [.d .str r.2.1,.d (.int .i64) r.2.2.1,.d (.int .i64) r.2.2.2.1,.vec (.nam 7) i1 r.2.2.2.2.1]),(i1,.vec i1 (.nam 7) r.2.2.2.2.2)]
def cq(r:PR az):RL EE.T:=mP (dX 100000 200001) (s9 100000 200001) r
def I7:Lvs:=⟨[(1,⟨[(0,false)],[],[(100000,(none,[])),(200001,(none,[]))],[]⟩),(5,⟨[(0,false),(3,false)],[],[(100000,(none,[])),(200001,(none,[]))],[]⟩),(20,⟨[(0,false),(6,false),(7,false),(8,false)],[],[(100000,(none,[])),(200001,(none,[]))],[]⟩),(21,⟨[(0,false),(6,false)],[],[(100000,(none,[])),(200001,(none,[]))],[]⟩),(30,⟨[(0,false)],[],[(100000,(none,[])),(200001,(none,[]))],[]⟩)],[(11,⟨[(0,false),(4,false),(51,false)],[],[(4,(none,[])),(100000,(none,[])),(200001,(none,[]))],[]⟩)],[5,20,21,30],[],false,[(100000,(none,[]))],[100000,200001],[(15,[.cl 4 (.a 256) (.s 4)])],[]⟩
def KA:List ResultVar:=[.tmp 2]
def Hh(N:RecC):Gam EE:=⟨[⟨68,py N.n⟩,⟨46,ed N.n⟩],EQT,[⟨69,ib N.n⟩,⟨34,em N⟩,⟨35,dc N.n⟩,⟨50,ek N.n⟩,⟨36,dn N.n⟩,⟨61,cy N.n⟩],[]⟩
theorem FK(N:RecC)(hN:iB N):GOk Try.prog TT EE (Hh N):=GOk.cons (yL N.n) (GOk.cons (fN N.n) (GOk.consx (kG N.n) (GOk.consx (gz N hN) (GOk.consx (dt N.n) (GOk.consx (eO N.n) (GOk.consx (dL N.n) (GOk.consx (cI N.n) (GOk.nil dh))))))))
def wC(c:Code):List It2:=atL 11 c
def wK(x51:Int)(b4:List Bool)(b100000_0:List UInt8)(b100000_1:Int)(b100000_2:Int)(b100000_3_n:Nat)(b200001:List Vstep):TS EE.T:=⟨187,[(0,.a (.box 100000 0)),(4,.a (.box 4 0)),(51,.a (.d (.int .i64) x51))],[(4,.row .bool b4),(100000,.cs [.d .str b100000_0,.d (.int .i64) b100000_1,.d (.int .i64) b100000_2,.vec (.nam 7) 200001 b100000_3_n]),(200001,.vec 200001 (.nam 7) b200001)],[]⟩
def wf(c:Code):List It2:=atR 21 c
def w3(x6:UInt8)(b100000_0:List UInt8)(b100000_1:Int)(b100000_2:Int)(b100000_3_n:Nat)(b200001:List Vstep):TS EE.T:=⟨187,[(0,.a (.box 100000 0)),(6,.a (.d .byte x6))],[(100000,.cs [.d .str b100000_0,.d (.int .i64) b100000_1,.d (.int .i64) b100000_2,.vec (.nam 7) 200001 b100000_3_n]),(200001,.vec 200001 (.nam 7) b200001)],[]⟩
def w4(c:Code):List It2:=atR 20 c
def vP(x6:UInt8)(x7:Bool)(x8:Bool)(b100000_0:List UInt8)(b100000_1:Int)(b100000_2:Int)(b100000_3_n:Nat)(b200001:List Vstep):TS EE.T:=⟨187,[(0,.a (.box 100000 0)),(6,.a (.d .byte x6)),(7,.a (.d .bool x7)),(8,.a (.d .bool x8))],[(100000,.cs [.d .str b100000_0,.d (.int .i64) b100000_1,.d (.int .i64) b100000_2,.vec (.nam 7) 200001 b100000_3_n]),(200001,.vec 200001 (.nam 7) b200001)],[]⟩
def wE(c:Code):List It2:=atR 30 c
def wV(b100000_0:List UInt8)(b100000_1:Int)(b100000_2:Int)(b100000_3_n:Nat)(b200001:List Vstep):TS EE.T:=⟨187,[(0,.a (.box 100000 0))],[(100000,.cs [.d .str b100000_0,.d (.int .i64) b100000_1,.d (.int .i64) b100000_2,.vec (.nam 7) 200001 b100000_3_n]),(200001,.vec 200001 (.nam 7) b200001)],[]⟩
def AX(c:Code):List It2:=atR 5 c
def zF(x3:UInt8)(b100000_0:List UInt8)(b100000_1:Int)(b100000_2:Int)(b100000_3_n:Nat)(b200001:List Vstep):TS EE.T:=⟨187,[(0,.a (.box 100000 0)),(3,.a (.d .byte x3))],[(100000,.cs [.d .str b100000_0,.d (.int .i64) b100000_1,.d (.int .i64) b100000_2,.vec (.nam 7) 200001 b100000_3_n]),(200001,.vec 200001 (.nam 7) b200001)],[]⟩
def Gt(c:Code):List It2:=[.c c]
def EU(y0_0:List UInt8)(y0_1:Int)(y0_2:Int)(y0_3:Nat)(y1:List Vstep):TS EE.T:=⟨187,[(0,.a (.box 100000 0))],[(100000,.cs [.d .str y0_0,.d (.int .i64) y0_1,.d (.int .i64) y0_2,.vec (.nam 7) 200001 y0_3]),(200001,.vec 200001 (.nam 7) y1)],[]⟩
def vY(c:Code)(f:Int→(List Bool)→(List UInt8)→Int→Int→Nat→(List Vstep)→Option (PR az))(x51:Int)(b4:List Bool)(b100000_0:List UInt8)(b100000_1:Int)(b100000_2:Int)(b100000_3_n:Nat)(b200001:List Vstep):Tree (Lf EE.T × Option (PR az)):=.leaf (.go (wC c) (wK x51 b4 b100000_0 b100000_1 b100000_2 b100000_3_n b200001),f x51 b4 b100000_0 b100000_1 b100000_2 b100000_3_n b200001)
def wY(c:Code)(f:UInt8→(List UInt8)→Int→Int→Nat→(List Vstep)→Option (PR az))(x6:UInt8)(b100000_0:List UInt8)(b100000_1:Int)(b100000_2:Int)(b100000_3_n:Nat)(b200001:List Vstep):Tree (Lf EE.T × Option (PR az)):=.leaf (.go (wf c) (w3 x6 b100000_0 b100000_1 b100000_2 b100000_3_n b200001),f x6 b100000_0 b100000_1 b100000_2 b100000_3_n b200001)
def eU(c:Code)(f:UInt8→Bool→Bool→(List UInt8)→Int→Int→Nat→(List Vstep)→Option (PR az))(x6:UInt8)(x7:Bool)(x8:Bool)(b100000_0:List UInt8)(b100000_1:Int)(b100000_2:Int)(b100000_3_n:Nat)(b200001:List Vstep):Tree (Lf EE.T × Option (PR az)):=.leaf (.go (w4 c) (vP x6 x7 x8 b100000_0 b100000_1 b100000_2 b100000_3_n b200001),f x6 x7 x8 b100000_0 b100000_1 b100000_2 b100000_3_n b200001)
def v7(c:Code)(f:(List UInt8)→Int→Int→Nat→(List Vstep)→Option (PR az))(b100000_0:List UInt8)(b100000_1:Int)(b100000_2:Int)(b100000_3_n:Nat)(b200001:List Vstep):Tree (Lf EE.T × Option (PR az)):=.leaf (.go (wE c) (wV b100000_0 b100000_1 b100000_2 b100000_3_n b200001),f b100000_0 b100000_1 b100000_2 b100000_3_n b200001)
def As(c:Code)(f:UInt8→(List UInt8)→Int→Int→Nat→(List Vstep)→Option (PR az))(x3:UInt8)(b100000_0:List UInt8)(b100000_1:Int)(b100000_2:Int)(b100000_3_n:Nat)(b200001:List Vstep):Tree (Lf EE.T × Option (PR az)):=.leaf (.go (AX c) (zF x3 b100000_0 b100000_1 b100000_2 b100000_3_n b200001),f x3 b100000_0 b100000_1 b100000_2 b100000_3_n b200001)
abbrev nD(N:RecC)(r:PR az)(k:List It2)(s:TS EE.T):Prop:=f8 (Y:=TT) EE (Hh N) I7 KA (fun u=>u=cq r) k s
def dx(x:PR az):Tree (Lf EE.T × Option (PR az)):=.leaf (.done (cq x),some x)
theorem vU{N:RecC}{r:PR az}:∀ (n:Nat) (x51:Int) (b4:List Bool) (b100000_0:List UInt8) (b100000_1:Int) (b100000_2:Int) (b100000_3_n:Nat) (b200001:List Vstep),cH N n x51 b4 b100000_0 b100000_1 b100000_2 b100000_3_n b200001=some r→nD N r (wC (aa 0 Try.f67)) (wK x51 b4 b100000_0 b100000_1 b100000_2 b100000_3_n b200001)
 |0,_,_,_,_,_,_,_,h=>by cases h
 |n+1,x51,b4,b100000_0,b100000_1,b100000_2,b100000_3_n,b200001,h=>aJ (m:=4000) (t:=
  .cond (decide (x51 < 256))
  (
   .bnd (eW 256 x51) fun z13=>
   .bnd (vD b4 (0+z13) true) fun z14=>
   vY (aa 0 Try.f67) (cH N n) (w64 (x51+1)) z14 b100000_0 b100000_1 b100000_2 b100000_3_n b200001)
  (
   .bnd (pV 256 b4) fun z15=>
   .bnd (aC N.n ({ kind:=0,a:=0,b:=0,set_:=(some z15) }:Vstep) b100000_0 b100000_1 b100000_2 b100000_3_n b200001) fun z16=>
   .sm z16 (fun z17=>
    dx (.ok (false,z17.2.1,z17.2.2.1,z17.2.2.2.1,z17.2.2.2.2.1,z17.2.2.2.2.2))) (fun vz16=>
    dx (.pan vz16)))) (by kernel_rfl) (by kernel_rfl) h (⟨fun _=>fun _=>fun h=>(vU n) _ _ _ _ _ _ _ h,fun _=>fun _=>⟨fun _=>be (enc:=cq) rfl,fun _=>be (enc:=cq) rfl⟩⟩)
theorem wx{N:RecC}{r:PR az}(n:Nat)(x6:UInt8)(b100000_0:List UInt8)(b100000_1:Int)(b100000_2:Int)(b100000_3_n:Nat)(b200001:List Vstep)(h:cK N n x6 b100000_0 b100000_1 b100000_2 b100000_3_n b200001=some r):nD N r (wf (aa 0 Try.f67)) (w3 x6 b100000_0 b100000_1 b100000_2 b100000_3_n b200001):=
 aJ (m:=4000) (t:=
 .bnd (aX N.n 1 b100000_1 b100000_0 b100000_1 b100000_2 b100000_3_n b200001) fun z34=>
 .sm z34 (fun z35=>
  .bnd (im N.n x6) fun z36=>
  .bnd (aC N.n ({ kind:=0,a:=0,b:=0,set_:=z36 }:Vstep) z35.1 (w64 (z35.2.1+1)) z35.2.2.1 z35.2.2.2.1 z35.2.2.2.2) fun z37=>
  .sm z37 (fun z38=>
   dx (.ok (false,z38.2.1,z38.2.2.1,z38.2.2.2.1,z38.2.2.2.2.1,z38.2.2.2.2.2))) (fun vz37=>
   dx (.pan vz37))) (fun vz34=>
  dx (.pan vz34))) (by kernel_rfl) (by kernel_rfl) h (fun _=>⟨fun _=>fun _=>fun _=>⟨fun _=>be (enc:=cq) rfl,fun _=>be (enc:=cq) rfl⟩,fun _=>be (enc:=cq) rfl⟩)
theorem w67i0oR20{N:RecC}{r:PR az}(n:Nat)(x6:UInt8)(x7:Bool)(x8:Bool)(b100000_0:List UInt8)(b100000_1:Int)(b100000_2:Int)(b100000_3_n:Nat)(b200001:List Vstep)(h:aF N n x6 x7 x8 b100000_0 b100000_1 b100000_2 b100000_3_n b200001=some r):nD N r (w4 (aa 0 Try.f67)) (vP x6 x7 x8 b100000_0 b100000_1 b100000_2 b100000_3_n b200001):=
 aJ (m:=4000) (t:=
 .cond (!x7)
 (
  wY (aa 0 Try.f67) (cK N n) x6 b100000_0 b100000_1 b100000_2 b100000_3_n b200001)
 (
  .cond (x8)
  (
   wY (aa 0 Try.f67) (cK N n) x6 b100000_0 b100000_1 b100000_2 b100000_3_n b200001)
  (
   .bnd (im N.n x6) fun z18=>
   .bnd (aC N.n ({ kind:=0,a:=0,b:=0,set_:=z18 }:Vstep) b100000_0 (w64 (b100000_1+1)) b100000_2 b100000_3_n b200001) fun z19=>
   .sm z19 (fun z20=>
    dx (.ok (false,z20.2.1,z20.2.2.1,z20.2.2.2.1,z20.2.2.2.2.1,z20.2.2.2.2.2))) (fun vz19=>
    dx (.pan vz19))))) (by kernel_rfl) (by kernel_rfl) h (⟨fun h=>wx n _ _ _ _ _ _ h,⟨fun h=>wx n _ _ _ _ _ _ h,fun _=>fun _=>⟨fun _=>be (enc:=cq) rfl,fun _=>be (enc:=cq) rfl⟩⟩⟩)
theorem w8{N:RecC}{r:PR az}(n:Nat)(b100000_0:List UInt8)(b100000_1:Int)(b100000_2:Int)(b100000_3_n:Nat)(b200001:List Vstep)(h:cL N n b100000_0 b100000_1 b100000_2 b100000_3_n b200001=some r):nD N r (wE (aa 0 Try.f67)) (wV b100000_0 b100000_1 b100000_2 b100000_3_n b200001):=
 aJ (m:=4000) (t:=
 .bnd (aC N.n ({ kind:=3,a:=w64 (2 * (w64 (b100000_2+1))),b:=0,set_:=(none:Option (List Bool)) }:Vstep) b100000_0 (w64 (b100000_1+1)) (w64 (b100000_2+1)) b100000_3_n b200001) fun z21=>
 .sm z21 (fun z22=>
  .bnd (dR N z22.2.1 z22.2.2.1 z22.2.2.2.1 z22.2.2.2.2.1 z22.2.2.2.2.2) fun z23=>
  .sm z23 (fun z24=>
   .bnd (aC N.n ({ kind:=3,a:=w64 ((w64 (2 * (w64 (b100000_2+1))))+1),b:=0,set_:=(none:Option (List Bool)) }:Vstep) z24.2.1 z24.2.2.1 z24.2.2.2.1 z24.2.2.2.2.1 z24.2.2.2.2.2) fun z25=>
   .sm z25 (fun z26=>
    .bnd (bi N.n 41 z26.2.1 z26.2.2.1 z26.2.2.2.1 z26.2.2.2.2.1 z26.2.2.2.2.2) fun z27=>
    .sm z27 (fun z28=>
     .cond (!z28.1)
     (
      .bnd (aX N.n 1 z28.2.2.1 z28.2.1 z28.2.2.1 z28.2.2.2.1 z28.2.2.2.2.1 z28.2.2.2.2.2) fun z29=>
      .sm z29 (fun z30=>
       dx (.ok (z24.1,z30.1,z30.2.1,z30.2.2.1,z30.2.2.2.1,z30.2.2.2.2))) (fun vz29=>
       dx (.pan vz29)))
     (
      dx (.ok (z24.1,z28.2.1,z28.2.2.1,z28.2.2.2.1,z28.2.2.2.2.1,z28.2.2.2.2.2)))) (fun vz27=>
     dx (.pan vz27))) (fun vz25=>
    dx (.pan vz25))) (fun vz23=>
   dx (.pan vz23))) (fun vz21=>
  dx (.pan vz21))) (by kernel_rfl) (by kernel_rfl) h (fun _=>⟨fun _=>fun _=>⟨fun _=>fun _=>⟨fun _=>fun _=>⟨fun _=>⟨fun _=>⟨fun _=>be (enc:=cq) rfl,fun _=>be (enc:=cq) rfl⟩,be (enc:=cq) rfl⟩,fun _=>be (enc:=cq) rfl⟩,fun _=>be (enc:=cq) rfl⟩,fun _=>be (enc:=cq) rfl⟩,fun _=>be (enc:=cq) rfl⟩)
theorem Ah{N:RecC}{r:PR az}(n:Nat)(x3:UInt8)(b100000_0:List UInt8)(b100000_1:Int)(b100000_2:Int)(b100000_3_n:Nat)(b200001:List Vstep)(h:cT N n x3 b100000_0 b100000_1 b100000_2 b100000_3_n b200001=some r):nD N r (AX (aa 0 Try.f67)) (zF x3 b100000_0 b100000_1 b100000_2 b100000_3_n b200001):=
 aJ (m:=4000) (t:=
 .bnd (im N.n x3) fun z31=>
 .bnd (aC N.n ({ kind:=0,a:=0,b:=0,set_:=z31 }:Vstep) b100000_0 (w64 (b100000_1+1)) b100000_2 b100000_3_n b200001) fun z32=>
 .sm z32 (fun z33=>
  dx (.ok (false,z33.2.1,z33.2.2.1,z33.2.2.2.1,z33.2.2.2.2.1,z33.2.2.2.2.2))) (fun vz32=>
  dx (.pan vz32))) (by kernel_rfl) (by kernel_rfl) h (fun _=>fun _=>⟨fun _=>be (enc:=cq) rfl,fun _=>be (enc:=cq) rfl⟩)
theorem Fe{N:RecC}{r:PR az}(y0_0:List UInt8)(y0_1:Int)(y0_2:Int)(y0_3:Nat)(y1:List Vstep)(h:dC N y0_0 y0_1 y0_2 y0_3 y1=some r):nD N r (Gt (aa 0 Try.f67)) (EU y0_0 y0_1 y0_2 y0_3 y1):=
 aJ (m:=4000) (t:=
 .bnd (ap y0_0 y0_1) fun z1=>
 .cond ((b2i z1)==(b2i 46))
 (
  vY (aa 0 Try.f67) (cH N N.n) 0 (List.replicate 256 false) y0_0 (w64 (y0_1+1)) y0_2 y0_3 y1)
 (
  .cond ((b2i z1)==(b2i 92))
  (
   .bnd (bg N.n y0_0 (w64 (y0_1+1)) y0_2 y0_3 y1) fun z2=>
   .sm z2 (fun z3=>
    .cond (decide ((b2i z3.1)≥(b2i 97)))
    (
     .cond (decide ((b2i z3.1)≤(b2i 122)))
     (
      eU (aa 0 Try.f67) (aF N N.n) z3.1 z3.2.1 true z3.2.2.1 z3.2.2.2.1 z3.2.2.2.2.1 z3.2.2.2.2.2.1 z3.2.2.2.2.2.2)
     (
      .cond (decide ((b2i z3.1)≥(b2i 65)))
      (
       .cond (decide ((b2i z3.1)≤(b2i 90)))
       (
        eU (aa 0 Try.f67) (aF N N.n) z3.1 z3.2.1 true z3.2.2.1 z3.2.2.2.1 z3.2.2.2.2.1 z3.2.2.2.2.2.1 z3.2.2.2.2.2.2)
       (
        .cond (decide ((b2i z3.1)≥(b2i 48)))
        (
         eU (aa 0 Try.f67) (aF N N.n) z3.1 z3.2.1 (decide ((b2i z3.1)≤(b2i 57))) z3.2.2.1 z3.2.2.2.1 z3.2.2.2.2.1 z3.2.2.2.2.2.1 z3.2.2.2.2.2.2)
        (
         eU (aa 0 Try.f67) (aF N N.n) z3.1 z3.2.1 false z3.2.2.1 z3.2.2.2.1 z3.2.2.2.2.1 z3.2.2.2.2.2.1 z3.2.2.2.2.2.2)))
      (
       .cond (decide ((b2i z3.1)≥(b2i 48)))
       (
        eU (aa 0 Try.f67) (aF N N.n) z3.1 z3.2.1 (decide ((b2i z3.1)≤(b2i 57))) z3.2.2.1 z3.2.2.2.1 z3.2.2.2.2.1 z3.2.2.2.2.2.1 z3.2.2.2.2.2.2)
       (
        eU (aa 0 Try.f67) (aF N N.n) z3.1 z3.2.1 false z3.2.2.1 z3.2.2.2.1 z3.2.2.2.2.1 z3.2.2.2.2.2.1 z3.2.2.2.2.2.2))))
    (
     .cond (decide ((b2i z3.1)≥(b2i 65)))
     (
      .cond (decide ((b2i z3.1)≤(b2i 90)))
      (
       eU (aa 0 Try.f67) (aF N N.n) z3.1 z3.2.1 true z3.2.2.1 z3.2.2.2.1 z3.2.2.2.2.1 z3.2.2.2.2.2.1 z3.2.2.2.2.2.2)
      (
       .cond (decide ((b2i z3.1)≥(b2i 48)))
       (
        eU (aa 0 Try.f67) (aF N N.n) z3.1 z3.2.1 (decide ((b2i z3.1)≤(b2i 57))) z3.2.2.1 z3.2.2.2.1 z3.2.2.2.2.1 z3.2.2.2.2.2.1 z3.2.2.2.2.2.2)
       (
        eU (aa 0 Try.f67) (aF N N.n) z3.1 z3.2.1 false z3.2.2.1 z3.2.2.2.1 z3.2.2.2.2.1 z3.2.2.2.2.2.1 z3.2.2.2.2.2.2)))
     (
      .cond (decide ((b2i z3.1)≥(b2i 48)))
      (
       eU (aa 0 Try.f67) (aF N N.n) z3.1 z3.2.1 (decide ((b2i z3.1)≤(b2i 57))) z3.2.2.1 z3.2.2.2.1 z3.2.2.2.2.1 z3.2.2.2.2.2.1 z3.2.2.2.2.2.2)
      (
       eU (aa 0 Try.f67) (aF N N.n) z3.1 z3.2.1 false z3.2.2.1 z3.2.2.2.1 z3.2.2.2.2.1 z3.2.2.2.2.2.1 z3.2.2.2.2.2.2)))) (fun vz2=>
    dx (.pan vz2)))
  (
   .cond ((b2i z1)==(b2i 91))
   (
    .bnd (dQ N.n y0_0 (w64 (y0_1+1)) y0_2 y0_3 y1) fun z4=>
    .sm z4 (fun z5=>
     .bnd (aC N.n ({ kind:=0,a:=0,b:=0,set_:=z5.1 }:Vstep) z5.2.1 z5.2.2.1 z5.2.2.2.1 z5.2.2.2.2.1 z5.2.2.2.2.2) fun z6=>
     .sm z6 (fun z7=>
      dx (.ok (false,z7.2.1,z7.2.2.1,z7.2.2.2.1,z7.2.2.2.2.1,z7.2.2.2.2.2))) (fun vz6=>
      dx (.pan vz6))) (fun vz4=>
     dx (.pan vz4)))
   (
    .cond ((b2i z1)==(b2i 40))
    (
     .cond (y0_2==9)
     (
      .bnd (aX N.n 2 y0_1 y0_0 y0_1 y0_2 y0_3 y1) fun z8=>
      .sm z8 (fun z9=>
       v7 (aa 0 Try.f67) (cL N N.n) z9.1 z9.2.1 z9.2.2.1 z9.2.2.2.1 z9.2.2.2.2) (fun vz8=>
       dx (.pan vz8)))
     (
      v7 (aa 0 Try.f67) (cL N N.n) y0_0 y0_1 y0_2 y0_3 y1))
    (
     .bnd (bN N.n ([42,43,63,41,124,93] :List UInt8) z1) fun z10=>
     .cond (decide (z10≥0))
     (
      .bnd (aX N.n 1 y0_1 y0_0 y0_1 y0_2 y0_3 y1) fun z11=>
      .sm z11 (fun z12=>
       As (aa 0 Try.f67) (cT N N.n) z1 z12.1 z12.2.1 z12.2.2.1 z12.2.2.2.1 z12.2.2.2.2) (fun vz11=>
       dx (.pan vz11)))
     (
      As (aa 0 Try.f67) (cT N N.n) z1 y0_0 y0_1 y0_2 y0_3 y1)))))) (by kernel_rfl) (by kernel_rfl) h (fun _=>⟨fun h=>vU N.n _ _ _ _ _ _ _ h,⟨fun _=>⟨fun _=>⟨⟨fun h=>w67i0oR20 N.n _ _ _ _ _ _ _ _ h,⟨⟨fun h=>w67i0oR20 N.n _ _ _ _ _ _ _ _ h,⟨fun h=>w67i0oR20 N.n _ _ _ _ _ _ _ _ h,fun h=>w67i0oR20 N.n _ _ _ _ _ _ _ _ h⟩⟩,⟨fun h=>w67i0oR20 N.n _ _ _ _ _ _ _ _ h,fun h=>w67i0oR20 N.n _ _ _ _ _ _ _ _ h⟩⟩⟩,⟨⟨fun h=>w67i0oR20 N.n _ _ _ _ _ _ _ _ h,⟨fun h=>w67i0oR20 N.n _ _ _ _ _ _ _ _ h,fun h=>w67i0oR20 N.n _ _ _ _ _ _ _ _ h⟩⟩,⟨fun h=>w67i0oR20 N.n _ _ _ _ _ _ _ _ h,fun h=>w67i0oR20 N.n _ _ _ _ _ _ _ _ h⟩⟩⟩,fun _=>be (enc:=cq) rfl⟩,⟨fun _=>⟨fun _=>fun _=>⟨fun _=>be (enc:=cq) rfl,fun _=>be (enc:=cq) rfl⟩,fun _=>be (enc:=cq) rfl⟩,⟨⟨fun _=>⟨fun _=>fun h=>w8 N.n _ _ _ _ _ h,fun _=>be (enc:=cq) rfl⟩,fun h=>w8 N.n _ _ _ _ _ h⟩,fun _=>⟨fun _=>⟨fun _=>fun h=>Ah N.n _ _ _ _ _ _ h,fun _=>be (enc:=cq) rfl⟩,fun h=>Ah N.n _ _ _ _ _ _ h⟩⟩⟩⟩⟩)
def C9(y0_0:List UInt8)(y0_1:Int)(y0_2:Int)(y0_3:Nat)(y1:List Vstep):List (TV EE.T):=[.a (.box 100000 0)]
def yz(y0_0:List UInt8)(y0_1:Int)(y0_2:Int)(y0_3:Nat)(y1:List Vstep):List (Nat × TB EE.T):=[(100000,.cs [.d .str y0_0,.d (.int .i64) y0_1,.d (.int .i64) y0_2,.vec (.nam 7) 200001 y0_3]),(200001,.vec 200001 (.nam 7) y1)]
theorem kB{N:RecC}(hN:iB N)(y0_0:List UInt8)(y0_1:Int)(y0_2:Int)(y0_3:Nat)(y1:List Vstep){r:PR az}(h:dC N y0_0 y0_1 y0_2 y0_3 y1=some r)(ρ:Rn)(hi:Inj ρ (yz y0_0 y0_1 y0_2 y0_3 y1)):aT Try.prog 67 ((C9 y0_0 y0_1 y0_2 y0_3 y1).map (TV.to EE.toEnc ρ)) (hTo EE.toEnc ρ (yz y0_0 y0_1 y0_2 y0_3 y1)) (cS EE ρ fun u=>u=cq r):=
 fA (aa 0 Try.f67) 187 mixed (FK N hN) Try.func67 (by kernel_rfl) rfl rfl rfl rfl (Fe y0_0 y0_1 y0_2 y0_3 y1 h) ρ hi
def gO(N:RecC)(us:List (TV EE.T))(hs:List (Nat × TB EE.T)):XR EE.T:=
 gdX (fU us 1) <|
 bnX (aB us 0) fun i0=>
 bnX (bC hs i0) fun l0=>
 gdX (fU l0 4) <|
 bnX (cD .str l0 0) fun y0_0=>
 bnX (cD (.int .i64) l0 1) fun y0_1=>
 bnX (cD (.int .i64) l0 2) fun y0_2=>
 bnX (cVi (.nam 7) l0 3) fun i1=>
 bnX (cVn (.nam 7) l0 3) fun y0_3=>
 bnX (bV (.nam 7) hs i1) fun y1=>
 gdX (bX hs [i0,i1]) <|
 gdX (iw [i0,i1]) <|
 .mv (dC N y0_0 y0_1 y0_2 y0_3 y1) [i0,i1] (mvL [i0,i1] [100000,200001]) 0 (dX i0 i1) (s9 i0 i1)
theorem kg(N:RecC)(hN:iB N):XOk Try.prog EE 67 (gO N):=fun us hs=>
 a8 fun h1=>aA fun i0 h2=>aA fun l0 h3=>a8 fun h4=>aA fun y0_0 h5=>aA fun y0_1 h6=>aA fun y0_2 h7=>aA fun i1 h8=>aA fun y0_3 h9=>aA fun y1 h10=>a8 fun h11=>a8 fun h12=>fun p hz ρ hi=>gm (ex:=[]) (ks:=[100000,200001]) (us':=C9 y0_0 y0_1 y0_2 y0_3 y1) (h0:=yz y0_0 y0_1 y0_2 y0_3 y1) (ρ':=mT ρ [i0,i1]) (uc:=dX 100000 200001) (u:=dX i0 i1) (hc:=s9 100000 200001) (h:=s9 i0 i1) hi h11 (by kernel_rfl) ⟨jf h2 (by kernel_rfl),cf h1⟩ ⟨(by kernel_rfl),kM h3 ⟨dm h5,dm h6,dm h7,iM h8 h9 (by kernel_rfl),cf h4⟩,(by kernel_rfl),kc h10 (by kernel_rfl),trivial⟩ ⟨.inr rfl,.inl rfl,trivial⟩ h12 (fun hj=>kB hN y0_0 y0_1 y0_2 y0_3 y1 hz _ hj) (fun z=>⟨by kernel_rfl,by kernel_rfl,by kernel_rfl,by kernel_rfl⟩)
def dK(i0:Nat)(i1:Nat)(r:aL):TV EE.T:=.a (.d .bool r.1)
def s7(i0:Nat)(i1:Nat)(r:aL):List (Nat × TB EE.T):=[(i0,.cs [.d .str r.2.1,.d (.int .i64) r.2.2.1,.d (.int .i64) r.2.2.2.1,.vec (.nam 7) i1 r.2.2.2.2.1]),(i1,.vec i1 (.nam 7) r.2.2.2.2.2)]
def dk(r:PR aL):RL EE.T:=mP (dK 100000 200001) (s7 100000 200001) r
def Kl:Lvs:=⟨[(2,⟨[(0,false),(3,false)],[],[(100000,(none,[])),(200001,(none,[]))],[]⟩),(7,⟨[(0,false),(3,false),(4,false),(5,false),(6,false)],[],[(100000,(none,[])),(200001,(none,[]))],[]⟩),(9,⟨[(0,false),(3,false),(6,false)],[],[(100000,(none,[])),(200001,(none,[]))],[]⟩),(14,⟨[(0,false),(3,false),(8,false),(9,false)],[],[(100000,(none,[])),(200001,(none,[]))],[]⟩),(17,⟨[(0,false),(9,false)],[],[(100000,(none,[])),(200001,(none,[]))],[]⟩),(22,⟨[(0,false),(10,false)],[],[(100000,(none,[])),(200001,(none,[]))],[]⟩),(25,⟨[(0,false),(3,false),(8,false),(11,false)],[],[(100000,(none,[])),(200001,(none,[]))],[]⟩),(27,⟨[(0,false),(11,false)],[],[(100000,(none,[])),(200001,(none,[]))],[]⟩)],[],[7,9],[],false,[(100000,(none,[]))],[100000,200001],[],[]⟩
def Jf:List ResultVar:=[.tmp 2]
def HH(N:RecC):Gam EE:=⟨[],EQT,[⟨51,fw N.n⟩,⟨35,dc N.n⟩,⟨67,gO N⟩,⟨52,fp N.n⟩,⟨36,dn N.n⟩,⟨61,cy N.n⟩],[]⟩
theorem qFS(N:RecC)(hN:iB N):GOk Try.prog TT EE (HH N):=GOk.consx (gy N.n) (GOk.consx (dt N.n) (GOk.consx (kg N hN) (GOk.consx (gw N.n) (GOk.consx (dL N.n) (GOk.consx (cI N.n) (GOk.nil dh))))))
def zH(c:Code):List It2:=atR 9 c
def Al(x3:Int)(x6:UInt8)(b100000_0:List UInt8)(b100000_1:Int)(b100000_2:Int)(b100000_3_n:Nat)(b200001:List Vstep):TS EE.T:=⟨164,[(0,.a (.box 100000 0)),(3,.a (.d (.int .i64) x3)),(6,.a (.d .byte x6))],[(100000,.cs [.d .str b100000_0,.d (.int .i64) b100000_1,.d (.int .i64) b100000_2,.vec (.nam 7) 200001 b100000_3_n]),(200001,.vec 200001 (.nam 7) b200001)],[]⟩
def Ag(c:Code):List It2:=atR 7 c
def AB(x3:Int)(x4:Bool)(x5:Bool)(x6:UInt8)(b100000_0:List UInt8)(b100000_1:Int)(b100000_2:Int)(b100000_3_n:Nat)(b200001:List Vstep):TS EE.T:=⟨164,[(0,.a (.box 100000 0)),(3,.a (.d (.int .i64) x3)),(4,.a (.d .bool x4)),(5,.a (.d .bool x5)),(6,.a (.d .byte x6))],[(100000,.cs [.d .str b100000_0,.d (.int .i64) b100000_1,.d (.int .i64) b100000_2,.vec (.nam 7) 200001 b100000_3_n]),(200001,.vec 200001 (.nam 7) b200001)],[]⟩
def FC(c:Code):List It2:=[.c c]
def Gp(y0_0:List UInt8)(y0_1:Int)(y0_2:Int)(y0_3:Nat)(y1:List Vstep):TS EE.T:=⟨164,[(0,.a (.box 100000 0))],[(100000,.cs [.d .str y0_0,.d (.int .i64) y0_1,.d (.int .i64) y0_2,.vec (.nam 7) 200001 y0_3]),(200001,.vec 200001 (.nam 7) y1)],[]⟩
def pZ(c:Code)(f:Int→UInt8→(List UInt8)→Int→Int→Nat→(List Vstep)→Option (PR aL))(x3:Int)(x6:UInt8)(b100000_0:List UInt8)(b100000_1:Int)(b100000_2:Int)(b100000_3_n:Nat)(b200001:List Vstep):Tree (Lf EE.T × Option (PR aL)):=.leaf (.go (zH c) (Al x3 x6 b100000_0 b100000_1 b100000_2 b100000_3_n b200001),f x3 x6 b100000_0 b100000_1 b100000_2 b100000_3_n b200001)
def uX(c:Code)(f:Int→Bool→Bool→UInt8→(List UInt8)→Int→Int→Nat→(List Vstep)→Option (PR aL))(x3:Int)(x4:Bool)(x5:Bool)(x6:UInt8)(b100000_0:List UInt8)(b100000_1:Int)(b100000_2:Int)(b100000_3_n:Nat)(b200001:List Vstep):Tree (Lf EE.T × Option (PR aL)):=.leaf (.go (Ag c) (AB x3 x4 x5 x6 b100000_0 b100000_1 b100000_2 b100000_3_n b200001),f x3 x4 x5 x6 b100000_0 b100000_1 b100000_2 b100000_3_n b200001)
abbrev xl(N:RecC)(r:PR aL)(k:List It2)(s:TS EE.T):Prop:=f8 (Y:=TT) EE (HH N) Kl Jf (fun u=>u=dk r) k s
def eR(x:PR aL):Tree (Lf EE.T × Option (PR aL)):=.leaf (.done (dk x),some x)
theorem qp{N:RecC}{r:PR aL}(n:Nat)(x3:Int)(x6:UInt8)(b100000_0:List UInt8)(b100000_1:Int)(b100000_2:Int)(b100000_3_n:Nat)(b200001:List Vstep)(h:bl N n x3 x6 b100000_0 b100000_1 b100000_2 b100000_3_n b200001=some r):xl N r (zH (aa 0 Try.f62)) (Al x3 x6 b100000_0 b100000_1 b100000_2 b100000_3_n b200001):=
 aJ (m:=4000) (t:=
 .bnd (cz N.n x3 b100000_0 (w64 (b100000_1+1)) b100000_2 b100000_3_n b200001) fun z8=>
 .sm z8 (fun z9=>
  .cond ((b2i x6)==(b2i 42))
  (
   .bnd (aC N.n ({ kind:=1,a:=0,b:=0,set_:=(none:Option (List Bool)) }:Vstep) z9.2.1 z9.2.2.1 z9.2.2.2.1 z9.2.2.2.2.1 z9.2.2.2.2.2) fun z10=>
   .sm z10 (fun z11=>
    .bnd (eW z11.2.2.2.2.1 z11.1) fun z12=>
    .bnd (z11.2.2.2.2.2[z12]?) fun z13=>
    .bnd (bq N.n z9.1 x3 z11.2.1 z11.2.2.1 z11.2.2.2.1 z11.2.2.2.2.1 (List.set z11.2.2.2.2.2 z12 ({ kind:=z13.kind,a:=(z11.2.2.2.2.1:Int),b:=z13.b,set_:=z13.set_ }:Vstep))) fun z14=>
    .sm z14 (fun z15=>
     .bnd (aC N.n ({ kind:=2,a:=z11.1,b:=0,set_:=(none:Option (List Bool)) }:Vstep) z15.1 z15.2.1 z15.2.2.1 z15.2.2.2.1 z15.2.2.2.2) fun z16=>
     .sm z16 (fun z17=>
      .bnd (eW z17.2.2.2.2.1 z11.1) fun z18=>
      .bnd (z17.2.2.2.2.2[z18]?) fun z19=>
      eR (.ok (true,z17.2.1,z17.2.2.1,z17.2.2.2.1,z17.2.2.2.2.1,List.set z17.2.2.2.2.2 z18 ({ kind:=z19.kind,a:=z19.a,b:=(z17.2.2.2.2.1:Int),set_:=z19.set_ }:Vstep)))) (fun vz16=>
      eR (.pan vz16))) (fun vz14=>
     eR (.pan vz14))) (fun vz10=>
    eR (.pan vz10)))
  (
   .cond ((b2i x6)==(b2i 43))
   (
    .bnd (bq N.n z9.1 x3 z9.2.1 z9.2.2.1 z9.2.2.2.1 z9.2.2.2.2.1 z9.2.2.2.2.2) fun z20=>
    .sm z20 (fun z21=>
     .bnd (aC N.n ({ kind:=1,a:=x3,b:=0,set_:=(none:Option (List Bool)) }:Vstep) z21.1 z21.2.1 z21.2.2.1 z21.2.2.2.1 z21.2.2.2.2) fun z22=>
     .sm z22 (fun z23=>
      .bnd (eW z23.2.2.2.2.1 z23.1) fun z24=>
      .bnd (z23.2.2.2.2.2[z24]?) fun z25=>
      eR (.ok (false,z23.2.1,z23.2.2.1,z23.2.2.2.1,z23.2.2.2.2.1,List.set z23.2.2.2.2.2 z24 ({ kind:=z25.kind,a:=z25.a,b:=(z23.2.2.2.2.1:Int),set_:=z25.set_ }:Vstep)))) (fun vz22=>
      eR (.pan vz22))) (fun vz20=>
     eR (.pan vz20)))
   (
    .bnd (aC N.n ({ kind:=1,a:=0,b:=0,set_:=(none:Option (List Bool)) }:Vstep) z9.2.1 z9.2.2.1 z9.2.2.2.1 z9.2.2.2.2.1 z9.2.2.2.2.2) fun z26=>
    .sm z26 (fun z27=>
     .bnd (eW z27.2.2.2.2.1 z27.1) fun z28=>
     .bnd (z27.2.2.2.2.2[z28]?) fun z29=>
     .bnd (bq N.n z9.1 x3 z27.2.1 z27.2.2.1 z27.2.2.2.1 z27.2.2.2.2.1 (List.set z27.2.2.2.2.2 z28 ({ kind:=z29.kind,a:=(z27.2.2.2.2.1:Int),b:=z29.b,set_:=z29.set_ }:Vstep))) fun z30=>
     .sm z30 (fun z31=>
      .bnd (eW z31.2.2.2.1 z27.1) fun z32=>
      .bnd (z31.2.2.2.2[z32]?) fun z33=>
      eR (.ok (true,z31.1,z31.2.1,z31.2.2.1,z31.2.2.2.1,List.set z31.2.2.2.2 z32 ({ kind:=z33.kind,a:=z33.a,b:=(z31.2.2.2.1:Int),set_:=z33.set_ }:Vstep)))) (fun vz30=>
      eR (.pan vz30))) (fun vz26=>
     eR (.pan vz26))))) (fun vz8=>
  eR (.pan vz8))) (by kernel_rfl) (by kernel_rfl) h (fun _=>⟨fun _=>⟨fun _=>⟨fun _=>fun _=>fun _=>fun _=>⟨fun _=>fun _=>⟨fun _=>fun _=>fun _=>be (enc:=dk) rfl,fun _=>be (enc:=dk) rfl⟩,fun _=>be (enc:=dk) rfl⟩,fun _=>be (enc:=dk) rfl⟩,⟨fun _=>⟨fun _=>fun _=>⟨fun _=>fun _=>fun _=>be (enc:=dk) rfl,fun _=>be (enc:=dk) rfl⟩,fun _=>be (enc:=dk) rfl⟩,fun _=>⟨fun _=>fun _=>fun _=>fun _=>⟨fun _=>fun _=>fun _=>be (enc:=dk) rfl,fun _=>be (enc:=dk) rfl⟩,fun _=>be (enc:=dk) rfl⟩⟩⟩,fun _=>be (enc:=dk) rfl⟩)
theorem uD{N:RecC}{r:PR aL}(n:Nat)(x3:Int)(x4:Bool)(x5:Bool)(x6:UInt8)(b100000_0:List UInt8)(b100000_1:Int)(b100000_2:Int)(b100000_3_n:Nat)(b200001:List Vstep)(h:bL N n x3 x4 x5 x6 b100000_0 b100000_1 b100000_2 b100000_3_n b200001=some r):xl N r (Ag (aa 0 Try.f62)) (AB x3 x4 x5 x6 b100000_0 b100000_1 b100000_2 b100000_3_n b200001):=
 aJ (m:=4000) (t:=
 .cond (x5)
 (
  .cond (x4)
  (
   .cond ((b2i x6) != (b2i 63))
   (
    .bnd (aX N.n 4 b100000_1 b100000_0 b100000_1 b100000_2 b100000_3_n b200001) fun z6=>
    .sm z6 (fun z7=>
     pZ (aa 0 Try.f62) (bl N n) x3 x6 z7.1 z7.2.1 z7.2.2.1 z7.2.2.2.1 z7.2.2.2.2) (fun vz6=>
     eR (.pan vz6)))
   (
    pZ (aa 0 Try.f62) (bl N n) x3 x6 b100000_0 b100000_1 b100000_2 b100000_3_n b200001))
  (
   pZ (aa 0 Try.f62) (bl N n) x3 x6 b100000_0 b100000_1 b100000_2 b100000_3_n b200001))
 (
  pZ (aa 0 Try.f62) (bl N n) x3 x6 b100000_0 b100000_1 b100000_2 b100000_3_n b200001)) (by kernel_rfl) (by kernel_rfl) h (⟨⟨⟨fun _=>⟨fun _=>fun h=>qp n _ _ _ _ _ _ _ h,fun _=>be (enc:=dk) rfl⟩,fun h=>qp n _ _ _ _ _ _ _ h⟩,fun h=>qp n _ _ _ _ _ _ _ h⟩,fun h=>qp n _ _ _ _ _ _ _ h⟩)
theorem GA{N:RecC}{r:PR aL}(y0_0:List UInt8)(y0_1:Int)(y0_2:Int)(y0_3:Nat)(y1:List Vstep)(h:dl N y0_0 y0_1 y0_2 y0_3 y1=some r):xl N r (FC (aa 0 Try.f62)) (Gp y0_0 y0_1 y0_2 y0_3 y1):=
 aJ (m:=4000) (t:=
 .bnd (ap y0_0 y0_1) fun z1=>
 .bnd (dC N y0_0 y0_1 y0_2 y0_3 y1) fun z2=>
 .sm z2 (fun z3=>
  .bnd (bg N.n z3.2.1 z3.2.2.1 z3.2.2.2.1 z3.2.2.2.2.1 z3.2.2.2.2.2) fun z4=>
  .sm z4 (fun z5=>
   .cond (!z5.2.1)
   (
    eR (.ok (z3.1,z5.2.2.1,z5.2.2.2.1,z5.2.2.2.2.1,z5.2.2.2.2.2.1,z5.2.2.2.2.2.2)))
   (
    .cond ((b2i z5.1) != (b2i 42))
    (
     .cond ((b2i z5.1) != (b2i 43))
     (
      .cond ((b2i z5.1) != (b2i 63))
      (
       eR (.ok (z3.1,z5.2.2.1,z5.2.2.2.1,z5.2.2.2.2.1,z5.2.2.2.2.2.1,z5.2.2.2.2.2.2)))
      (
       uX (aa 0 Try.f62) (bL N N.n) (y0_3:Int) ((b2i z1)==(b2i 40)) z3.1 z5.1 z5.2.2.1 z5.2.2.2.1 z5.2.2.2.2.1 z5.2.2.2.2.2.1 z5.2.2.2.2.2.2))
     (
      uX (aa 0 Try.f62) (bL N N.n) (y0_3:Int) ((b2i z1)==(b2i 40)) z3.1 z5.1 z5.2.2.1 z5.2.2.2.1 z5.2.2.2.2.1 z5.2.2.2.2.2.1 z5.2.2.2.2.2.2))
    (
     uX (aa 0 Try.f62) (bL N N.n) (y0_3:Int) ((b2i z1)==(b2i 40)) z3.1 z5.1 z5.2.2.1 z5.2.2.2.1 z5.2.2.2.2.1 z5.2.2.2.2.2.1 z5.2.2.2.2.2.2))) (fun vz4=>
   eR (.pan vz4))) (fun vz2=>
  eR (.pan vz2))) (by kernel_rfl) (by kernel_rfl) h (fun _=>fun _=>⟨fun _=>fun _=>⟨fun _=>⟨be (enc:=dk) rfl,⟨⟨⟨be (enc:=dk) rfl,fun h=>uD N.n _ _ _ _ _ _ _ _ _ h⟩,fun h=>uD N.n _ _ _ _ _ _ _ _ _ h⟩,fun h=>uD N.n _ _ _ _ _ _ _ _ _ h⟩⟩,fun _=>be (enc:=dk) rfl⟩,fun _=>be (enc:=dk) rfl⟩)
def Do(y0_0:List UInt8)(y0_1:Int)(y0_2:Int)(y0_3:Nat)(y1:List Vstep):List (TV EE.T):=[.a (.box 100000 0)]
def yr(y0_0:List UInt8)(y0_1:Int)(y0_2:Int)(y0_3:Nat)(y1:List Vstep):List (Nat × TB EE.T):=[(100000,.cs [.d .str y0_0,.d (.int .i64) y0_1,.d (.int .i64) y0_2,.vec (.nam 7) 200001 y0_3]),(200001,.vec 200001 (.nam 7) y1)]
theorem kd{N:RecC}(hN:iB N)(y0_0:List UInt8)(y0_1:Int)(y0_2:Int)(y0_3:Nat)(y1:List Vstep){r:PR aL}(h:dl N y0_0 y0_1 y0_2 y0_3 y1=some r)(ρ:Rn)(hi:Inj ρ (yr y0_0 y0_1 y0_2 y0_3 y1)):aT Try.prog 62 ((Do y0_0 y0_1 y0_2 y0_3 y1).map (TV.to EE.toEnc ρ)) (hTo EE.toEnc ρ (yr y0_0 y0_1 y0_2 y0_3 y1)) (cS EE ρ fun u=>u=dk r):=
 fA (aa 0 Try.f62) 164 mixed (qFS N hN) Try.func62 (by kernel_rfl) rfl rfl rfl rfl (GA y0_0 y0_1 y0_2 y0_3 y1 h) ρ hi
def gD(N:RecC)(us:List (TV EE.T))(hs:List (Nat × TB EE.T)):XR EE.T:=
 gdX (fU us 1) <|
 bnX (aB us 0) fun i0=>
 bnX (bC hs i0) fun l0=>
 gdX (fU l0 4) <|
 bnX (cD .str l0 0) fun y0_0=>
 bnX (cD (.int .i64) l0 1) fun y0_1=>
 bnX (cD (.int .i64) l0 2) fun y0_2=>
 bnX (cVi (.nam 7) l0 3) fun i1=>
 bnX (cVn (.nam 7) l0 3) fun y0_3=>
 bnX (bV (.nam 7) hs i1) fun y1=>
 gdX (bX hs [i0,i1]) <|
 gdX (iw [i0,i1]) <|
 .mv (dl N y0_0 y0_1 y0_2 y0_3 y1) [i0,i1] (mvL [i0,i1] [100000,200001]) 0 (dK i0 i1) (s7 i0 i1)
theorem jB(N:RecC)(hN:iB N):XOk Try.prog EE 62 (gD N):=fun us hs=>
 a8 fun h1=>aA fun i0 h2=>aA fun l0 h3=>a8 fun h4=>aA fun y0_0 h5=>aA fun y0_1 h6=>aA fun y0_2 h7=>aA fun i1 h8=>aA fun y0_3 h9=>aA fun y1 h10=>a8 fun h11=>a8 fun h12=>fun p hz ρ hi=>gm (ex:=[]) (ks:=[100000,200001]) (us':=Do y0_0 y0_1 y0_2 y0_3 y1) (h0:=yr y0_0 y0_1 y0_2 y0_3 y1) (ρ':=mT ρ [i0,i1]) (uc:=dK 100000 200001) (u:=dK i0 i1) (hc:=s7 100000 200001) (h:=s7 i0 i1) hi h11 (by kernel_rfl) ⟨jf h2 (by kernel_rfl),cf h1⟩ ⟨(by kernel_rfl),kM h3 ⟨dm h5,dm h6,dm h7,iM h8 h9 (by kernel_rfl),cf h4⟩,(by kernel_rfl),kc h10 (by kernel_rfl),trivial⟩ ⟨.inr rfl,.inl rfl,trivial⟩ h12 (fun hj=>kd hN y0_0 y0_1 y0_2 y0_3 y1 hz _ hj) (fun z=>⟨by kernel_rfl,by kernel_rfl,by kernel_rfl,by kernel_rfl⟩)
def eo(i0:Nat)(i1:Nat)(r:bc):TV EE.T:=.a (.d .bool r.1)
def su(i0:Nat)(i1:Nat)(r:bc):List (Nat × TB EE.T):=[(i0,.cs [.d .str r.2.1,.d (.int .i64) r.2.2.1,.d (.int .i64) r.2.2.2.1,.vec (.nam 7) i1 r.2.2.2.2.1]),(i1,.vec i1 (.nam 7) r.2.2.2.2.2)]
def iW(r:PR bc):RL EE.T:=mP (eo 100000 200001) (su 100000 200001) r
def JR:Lvs:=⟨[],[(2,⟨[(0,false),(3,false)],[],[(100000,(none,[])),(200001,(none,[]))],[]⟩)],[],[],false,[(100000,(none,[]))],[100000,200001],[],[]⟩
def IX:List ResultVar:=[.tmp 2]
def Ho(N:RecC):Gam EE:=⟨[],EQT,[⟨62,gD N⟩,⟨61,cy N.n⟩],[]⟩
theorem Ha(N:RecC)(hN:iB N):GOk Try.prog TT EE (Ho N):=GOk.consx (jB N hN) (GOk.consx (cI N.n) (GOk.nil dh))
def y5(c:Code):List It2:=atL 2 c
def zU(x3:Bool)(b100000_0:List UInt8)(b100000_1:Int)(b100000_2:Int)(b100000_3_n:Nat)(b200001:List Vstep):TS EE.T:=⟨25,[(0,.a (.box 100000 0)),(3,.a (.d .bool x3))],[(100000,.cs [.d .str b100000_0,.d (.int .i64) b100000_1,.d (.int .i64) b100000_2,.vec (.nam 7) 200001 b100000_3_n]),(200001,.vec 200001 (.nam 7) b200001)],[]⟩
def HY(c:Code):List It2:=[.c c]
def Io(y0_0:List UInt8)(y0_1:Int)(y0_2:Int)(y0_3:Nat)(y1:List Vstep):TS EE.T:=⟨25,[(0,.a (.box 100000 0))],[(100000,.cs [.d .str y0_0,.d (.int .i64) y0_1,.d (.int .i64) y0_2,.vec (.nam 7) 200001 y0_3]),(200001,.vec 200001 (.nam 7) y1)],[]⟩
def tQ(c:Code)(f:Bool→(List UInt8)→Int→Int→Nat→(List Vstep)→Option (PR bc))(x3:Bool)(b100000_0:List UInt8)(b100000_1:Int)(b100000_2:Int)(b100000_3_n:Nat)(b200001:List Vstep):Tree (Lf EE.T × Option (PR bc)):=.leaf (.go (y5 c) (zU x3 b100000_0 b100000_1 b100000_2 b100000_3_n b200001),f x3 b100000_0 b100000_1 b100000_2 b100000_3_n b200001)
abbrev Dt(N:RecC)(r:PR bc)(k:List It2)(s:TS EE.T):Prop:=f8 (Y:=TT) EE (Ho N) JR IX (fun u=>u=iW r) k s
def qz(x:PR bc):Tree (Lf EE.T × Option (PR bc)):=.leaf (.done (iW x),some x)
theorem ub{N:RecC}{r:PR bc}:∀ (n:Nat) (x3:Bool) (b100000_0:List UInt8) (b100000_1:Int) (b100000_2:Int) (b100000_3_n:Nat) (b200001:List Vstep),cb N n x3 b100000_0 b100000_1 b100000_2 b100000_3_n b200001=some r→Dt N r (y5 (aa 0 Try.f49)) (zU x3 b100000_0 b100000_1 b100000_2 b100000_3_n b200001)
 |0,_,_,_,_,_,_,h=>by cases h
 |n+1,x3,b100000_0,b100000_1,b100000_2,b100000_3_n,b200001,h=>aJ (m:=4000) (t:=
  .bnd (bg N.n b100000_0 b100000_1 b100000_2 b100000_3_n b200001) fun z1=>
  .sm z1 (fun z2=>
   .cond (!z2.2.1)
   (
    qz (.ok (x3,z2.2.2.1,z2.2.2.2.1,z2.2.2.2.2.1,z2.2.2.2.2.2.1,z2.2.2.2.2.2.2)))
   (
    .cond ((b2i z2.1)==(b2i 124))
    (
     qz (.ok (x3,z2.2.2.1,z2.2.2.2.1,z2.2.2.2.2.1,z2.2.2.2.2.2.1,z2.2.2.2.2.2.2)))
    (
     .cond ((b2i z2.1)==(b2i 41))
     (
      qz (.ok (x3,z2.2.2.1,z2.2.2.2.1,z2.2.2.2.2.1,z2.2.2.2.2.2.1,z2.2.2.2.2.2.2)))
     (
      .bnd (dl N z2.2.2.1 z2.2.2.2.1 z2.2.2.2.2.1 z2.2.2.2.2.2.1 z2.2.2.2.2.2.2) fun z3=>
      .sm z3 (fun z4=>
       .cond (!z4.1)
       (
        tQ (aa 0 Try.f49) (cb N n) false z4.2.1 z4.2.2.1 z4.2.2.2.1 z4.2.2.2.2.1 z4.2.2.2.2.2)
       (
        tQ (aa 0 Try.f49) (cb N n) x3 z4.2.1 z4.2.2.1 z4.2.2.2.1 z4.2.2.2.2.1 z4.2.2.2.2.2)) (fun vz3=>
       qz (.pan vz3)))))) (fun vz1=>
   qz (.pan vz1))) (by kernel_rfl) (by kernel_rfl) h (fun _=>⟨fun _=>⟨be (enc:=iW) rfl,⟨be (enc:=iW) rfl,⟨be (enc:=iW) rfl,fun _=>⟨fun _=>⟨fun h=>(ub n) _ _ _ _ _ _ h,fun h=>(ub n) _ _ _ _ _ _ h⟩,fun _=>be (enc:=iW) rfl⟩⟩⟩⟩,fun _=>be (enc:=iW) rfl⟩)
theorem EP{N:RecC}{r:PR bc}(y0_0:List UInt8)(y0_1:Int)(y0_2:Int)(y0_3:Nat)(y1:List Vstep)(h:dS N y0_0 y0_1 y0_2 y0_3 y1=some r):Dt N r (HY (aa 0 Try.f49)) (Io y0_0 y0_1 y0_2 y0_3 y1):=
 aJ (m:=4000) (t:=
 tQ (aa 0 Try.f49) (cb N N.n) true y0_0 y0_1 y0_2 y0_3 y1) (by kernel_rfl) (by kernel_rfl) h (fun h=>ub N.n _ _ _ _ _ _ h)
def B4(y0_0:List UInt8)(y0_1:Int)(y0_2:Int)(y0_3:Nat)(y1:List Vstep):List (TV EE.T):=[.a (.box 100000 0)]
def yl(y0_0:List UInt8)(y0_1:Int)(y0_2:Int)(y0_3:Nat)(y1:List Vstep):List (Nat × TB EE.T):=[(100000,.cs [.d .str y0_0,.d (.int .i64) y0_1,.d (.int .i64) y0_2,.vec (.nam 7) 200001 y0_3]),(200001,.vec 200001 (.nam 7) y1)]
theorem kN{N:RecC}(hN:iB N)(y0_0:List UInt8)(y0_1:Int)(y0_2:Int)(y0_3:Nat)(y1:List Vstep){r:PR bc}(h:dS N y0_0 y0_1 y0_2 y0_3 y1=some r)(ρ:Rn)(hi:Inj ρ (yl y0_0 y0_1 y0_2 y0_3 y1)):aT Try.prog 49 ((B4 y0_0 y0_1 y0_2 y0_3 y1).map (TV.to EE.toEnc ρ)) (hTo EE.toEnc ρ (yl y0_0 y0_1 y0_2 y0_3 y1)) (cS EE ρ fun u=>u=iW r):=
 fA (aa 0 Try.f49) 25 mixed (Ha N hN) Try.func49 (by kernel_rfl) rfl rfl rfl rfl (EP y0_0 y0_1 y0_2 y0_3 y1 h) ρ hi
def iq(N:RecC)(us:List (TV EE.T))(hs:List (Nat × TB EE.T)):XR EE.T:=
 gdX (fU us 1) <|
 bnX (aB us 0) fun i0=>
 bnX (bC hs i0) fun l0=>
 gdX (fU l0 4) <|
 bnX (cD .str l0 0) fun y0_0=>
 bnX (cD (.int .i64) l0 1) fun y0_1=>
 bnX (cD (.int .i64) l0 2) fun y0_2=>
 bnX (cVi (.nam 7) l0 3) fun i1=>
 bnX (cVn (.nam 7) l0 3) fun y0_3=>
 bnX (bV (.nam 7) hs i1) fun y1=>
 gdX (bX hs [i0,i1]) <|
 gdX (iw [i0,i1]) <|
 .mv (dS N y0_0 y0_1 y0_2 y0_3 y1) [i0,i1] (mvL [i0,i1] [100000,200001]) 0 (eo i0 i1) (su i0 i1)
theorem kD(N:RecC)(hN:iB N):XOk Try.prog EE 49 (iq N):=fun us hs=>
 a8 fun h1=>aA fun i0 h2=>aA fun l0 h3=>a8 fun h4=>aA fun y0_0 h5=>aA fun y0_1 h6=>aA fun y0_2 h7=>aA fun i1 h8=>aA fun y0_3 h9=>aA fun y1 h10=>a8 fun h11=>a8 fun h12=>fun p hz ρ hi=>gm (ex:=[]) (ks:=[100000,200001]) (us':=B4 y0_0 y0_1 y0_2 y0_3 y1) (h0:=yl y0_0 y0_1 y0_2 y0_3 y1) (ρ':=mT ρ [i0,i1]) (uc:=eo 100000 200001) (u:=eo i0 i1) (hc:=su 100000 200001) (h:=su i0 i1) hi h11 (by kernel_rfl) ⟨jf h2 (by kernel_rfl),cf h1⟩ ⟨(by kernel_rfl),kM h3 ⟨dm h5,dm h6,dm h7,iM h8 h9 (by kernel_rfl),cf h4⟩,(by kernel_rfl),kc h10 (by kernel_rfl),trivial⟩ ⟨.inr rfl,.inl rfl,trivial⟩ h12 (fun hj=>kN hN y0_0 y0_1 y0_2 y0_3 y1 hz _ hj) (fun z=>⟨by kernel_rfl,by kernel_rfl,by kernel_rfl,by kernel_rfl⟩)
def dW(i0:Nat)(i1:Nat)(r:br):TV EE.T:=.a (.d .bool r.1)
def sC(i0:Nat)(i1:Nat)(r:br):List (Nat × TB EE.T):=[(i0,.cs [.d .str r.2.1,.d (.int .i64) r.2.2.1,.d (.int .i64) r.2.2.2.1,.vec (.nam 7) i1 r.2.2.2.2.1]),(i1,.vec i1 (.nam 7) r.2.2.2.2.2)]
def mR(r:PR br):RL EE.T:=mP (dW 100000 200001) (sC 100000 200001) r
def JV:Lvs:=⟨[],[],[],[],false,[(100000,(none,[]))],[100000,200001],[],[]⟩
def KI:List ResultVar:=[.tmp 2]
def E7(N:RecC):Gam EE:=⟨[],EQT,[⟨34,em N⟩],[]⟩
theorem Ix(N:RecC)(hN:iB N):GOk Try.prog TT EE (E7 N):=GOk.consx (gz N hN) (GOk.nil dh)
def Hu(c:Code):List It2:=[.c c]
def Ga(y0_0:List UInt8)(y0_1:Int)(y0_2:Int)(y0_3:Nat)(y1:List Vstep):TS EE.T:=⟨5,[(0,.a (.box 100000 0))],[(100000,.cs [.d .str y0_0,.d (.int .i64) y0_1,.d (.int .i64) y0_2,.vec (.nam 7) 200001 y0_3]),(200001,.vec 200001 (.nam 7) y1)],[]⟩
abbrev Kf(N:RecC)(r:PR br)(k:List It2)(s:TS EE.T):Prop:=f8 (Y:=TT) EE (E7 N) JV KI (fun u=>u=mR r) k s
def Dd(x:PR br):Tree (Lf EE.T × Option (PR br)):=.leaf (.done (mR x),some x)
theorem ER{N:RecC}{r:PR br}(y0_0:List UInt8)(y0_1:Int)(y0_2:Int)(y0_3:Nat)(y1:List Vstep)(h:dz N y0_0 y0_1 y0_2 y0_3 y1=some r):Kf N r (Hu (aa 0 Try.f53)) (Ga y0_0 y0_1 y0_2 y0_3 y1):=
 aJ (m:=4000) (t:=
 .bnd (dR N y0_0 y0_1 y0_2 y0_3 y1) fun z1=>
 .sm z1 (fun z2=>
  Dd (.ok (z2.1,z2.2.1,z2.2.2.1,z2.2.2.2.1,z2.2.2.2.2.1,z2.2.2.2.2.2))) (fun vz1=>
  Dd (.pan vz1))) (by kernel_rfl) (by kernel_rfl) h (fun _=>⟨fun _=>be (enc:=mR) rfl,fun _=>be (enc:=mR) rfl⟩)
def Ch(y0_0:List UInt8)(y0_1:Int)(y0_2:Int)(y0_3:Nat)(y1:List Vstep):List (TV EE.T):=[.a (.box 100000 0)]
def yV(y0_0:List UInt8)(y0_1:Int)(y0_2:Int)(y0_3:Nat)(y1:List Vstep):List (Nat × TB EE.T):=[(100000,.cs [.d .str y0_0,.d (.int .i64) y0_1,.d (.int .i64) y0_2,.vec (.nam 7) 200001 y0_3]),(200001,.vec 200001 (.nam 7) y1)]
theorem kF{N:RecC}(hN:iB N)(y0_0:List UInt8)(y0_1:Int)(y0_2:Int)(y0_3:Nat)(y1:List Vstep){r:PR br}(h:dz N y0_0 y0_1 y0_2 y0_3 y1=some r)(ρ:Rn)(hi:Inj ρ (yV y0_0 y0_1 y0_2 y0_3 y1)):aT Try.prog 53 ((Ch y0_0 y0_1 y0_2 y0_3 y1).map (TV.to EE.toEnc ρ)) (hTo EE.toEnc ρ (yV y0_0 y0_1 y0_2 y0_3 y1)) (cS EE ρ fun u=>u=mR r):=
 fA (aa 0 Try.f53) 5 mixed (Ix N hN) Try.func53 (by kernel_rfl) rfl rfl rfl rfl (ER y0_0 y0_1 y0_2 y0_3 y1 h) ρ hi
def gN(N:RecC)(us:List (TV EE.T))(hs:List (Nat × TB EE.T)):XR EE.T:=
 gdX (fU us 1) <|
 bnX (aB us 0) fun i0=>
 bnX (bC hs i0) fun l0=>
 gdX (fU l0 4) <|
 bnX (cD .str l0 0) fun y0_0=>
 bnX (cD (.int .i64) l0 1) fun y0_1=>
 bnX (cD (.int .i64) l0 2) fun y0_2=>
 bnX (cVi (.nam 7) l0 3) fun i1=>
 bnX (cVn (.nam 7) l0 3) fun y0_3=>
 bnX (bV (.nam 7) hs i1) fun y1=>
 gdX (bX hs [i0,i1]) <|
 gdX (iw [i0,i1]) <|
 .mv (dz N y0_0 y0_1 y0_2 y0_3 y1) [i0,i1] (mvL [i0,i1] [100000,200001]) 0 (dW i0 i1) (sC i0 i1)
theorem kf(N:RecC)(hN:iB N):XOk Try.prog EE 53 (gN N):=fun us hs=>
 a8 fun h1=>aA fun i0 h2=>aA fun l0 h3=>a8 fun h4=>aA fun y0_0 h5=>aA fun y0_1 h6=>aA fun y0_2 h7=>aA fun i1 h8=>aA fun y0_3 h9=>aA fun y1 h10=>a8 fun h11=>a8 fun h12=>fun p hz ρ hi=>gm (ex:=[]) (ks:=[100000,200001]) (us':=Ch y0_0 y0_1 y0_2 y0_3 y1) (h0:=yV y0_0 y0_1 y0_2 y0_3 y1) (ρ':=mT ρ [i0,i1]) (uc:=dW 100000 200001) (u:=dW i0 i1) (hc:=sC 100000 200001) (h:=sC i0 i1) hi h11 (by kernel_rfl) ⟨jf h2 (by kernel_rfl),cf h1⟩ ⟨(by kernel_rfl),kM h3 ⟨dm h5,dm h6,dm h7,iM h8 h9 (by kernel_rfl),cf h4⟩,(by kernel_rfl),kc h10 (by kernel_rfl),trivial⟩ ⟨.inr rfl,.inl rfl,trivial⟩ h12 (fun hj=>kF hN y0_0 y0_1 y0_2 y0_3 y1 hz _ hj) (fun z=>⟨by kernel_rfl,by kernel_rfl,by kernel_rfl,by kernel_rfl⟩)
def dU(i0:Nat)(i1:Nat)(r:aG):TV EE.T:=.a (.d .bool r.1)
def sT(i0:Nat)(i1:Nat)(r:aG):List (Nat × TB EE.T):=[(i0,.cs [.d .str r.2.1,.d (.int .i64) r.2.2.1,.d (.int .i64) r.2.2.2.1,.vec (.nam 7) i1 r.2.2.2.2.1]),(i1,.vec i1 (.nam 7) r.2.2.2.2.2)]
def fE(r:PR aG):RL EE.T:=mP (dU 100000 200001) (sT 100000 200001) r
def Kx:Lvs:=⟨[(6,⟨[(0,false),(3,false),(4,false),(5,false),(6,false)],[],[(100000,(none,[])),(200001,(none,[]))],[]⟩),(9,⟨[(0,false),(4,false),(6,false),(7,false)],[],[(100000,(none,[])),(200001,(none,[]))],[]⟩),(12,⟨[(0,false),(4,false),(7,false)],[],[(100000,(none,[])),(200001,(none,[]))],[]⟩)],[(3,⟨[(0,false),(3,false),(4,false)],[],[(100000,(none,[])),(200001,(none,[]))],[]⟩)],[12],[],false,[(100000,(none,[]))],[100000,200001],[],[]⟩
def JX:List ResultVar:=[.tmp 2]
def Gq(N:RecC):Gam EE:=⟨[],EQT,[⟨51,fw N.n⟩,⟨50,ek N.n⟩,⟨53,gN N⟩,⟨49,iq N⟩,⟨52,fp N.n⟩,⟨36,dn N.n⟩],[]⟩
theorem Gx(N:RecC)(hN:iB N):GOk Try.prog TT EE (Gq N):=GOk.consx (gy N.n) (GOk.consx (eO N.n) (GOk.consx (kf N hN) (GOk.consx (kD N hN) (GOk.consx (gw N.n) (GOk.consx (dL N.n) (GOk.nil dh))))))
def vS(c:Code):List It2:=atR 12 c
def wQ(x4:Bool)(x7:Int)(b100000_0:List UInt8)(b100000_1:Int)(b100000_2:Int)(b100000_3_n:Nat)(b200001:List Vstep):TS EE.T:=⟨70,[(0,.a (.box 100000 0)),(4,.a (.d .bool x4)),(7,.a (.d (.int .i64) x7))],[(100000,.cs [.d .str b100000_0,.d (.int .i64) b100000_1,.d (.int .i64) b100000_2,.vec (.nam 7) 200001 b100000_3_n]),(200001,.vec 200001 (.nam 7) b200001)],[]⟩
def uT(c:Code):List It2:=atL 3 c
def uq(x3:Int)(x4:Bool)(b100000_0:List UInt8)(b100000_1:Int)(b100000_2:Int)(b100000_3_n:Nat)(b200001:List Vstep):TS EE.T:=⟨70,[(0,.a (.box 100000 0)),(3,.a (.d (.int .i64) x3)),(4,.a (.d .bool x4))],[(100000,.cs [.d .str b100000_0,.d (.int .i64) b100000_1,.d (.int .i64) b100000_2,.vec (.nam 7) 200001 b100000_3_n]),(200001,.vec 200001 (.nam 7) b200001)],[]⟩
def FG(c:Code):List It2:=[.c c]
def F7(y0_0:List UInt8)(y0_1:Int)(y0_2:Int)(y0_3:Nat)(y1:List Vstep):TS EE.T:=⟨70,[(0,.a (.box 100000 0))],[(100000,.cs [.d .str y0_0,.d (.int .i64) y0_1,.d (.int .i64) y0_2,.vec (.nam 7) 200001 y0_3]),(200001,.vec 200001 (.nam 7) y1)],[]⟩
def wi(c:Code)(f:Bool→Int→(List UInt8)→Int→Int→Nat→(List Vstep)→Option (PR aG))(x4:Bool)(x7:Int)(b100000_0:List UInt8)(b100000_1:Int)(b100000_2:Int)(b100000_3_n:Nat)(b200001:List Vstep):Tree (Lf EE.T × Option (PR aG)):=.leaf (.go (vS c) (wQ x4 x7 b100000_0 b100000_1 b100000_2 b100000_3_n b200001),f x4 x7 b100000_0 b100000_1 b100000_2 b100000_3_n b200001)
def IF(c:Code)(f:Int→Bool→(List UInt8)→Int→Int→Nat→(List Vstep)→Option (PR aG))(x3:Int)(x4:Bool)(b100000_0:List UInt8)(b100000_1:Int)(b100000_2:Int)(b100000_3_n:Nat)(b200001:List Vstep):Tree (Lf EE.T × Option (PR aG)):=.leaf (.go (uT c) (uq x3 x4 b100000_0 b100000_1 b100000_2 b100000_3_n b200001),f x3 x4 b100000_0 b100000_1 b100000_2 b100000_3_n b200001)
abbrev sA(N:RecC)(r:PR aG)(k:List It2)(s:TS EE.T):Prop:=f8 (Y:=TT) EE (Gq N) Kx JX (fun u=>u=fE r) k s
def jl(x:PR aG):Tree (Lf EE.T × Option (PR aG)):=.leaf (.done (fE x),some x)
theorem wZ{N:RecC}{r:PR aG}{k3:Int→Bool→(List UInt8)→Int→Int→Nat→(List Vstep)→Option (PR aG)}(hk3:∀x3 x4 b100000_0 b100000_1 b100000_2 b100000_3_n b200001,k3 x3 x4 b100000_0 b100000_1 b100000_2 b100000_3_n b200001=some r→sA N r (uT (aa 0 Try.f34)) (uq x3 x4 b100000_0 b100000_1 b100000_2 b100000_3_n b200001))(n:Nat)(x4:Bool)(x7:Int)(b100000_0:List UInt8)(b100000_1:Int)(b100000_2:Int)(b100000_3_n:Nat)(b200001:List Vstep)(h:cJ N k3 n x4 x7 b100000_0 b100000_1 b100000_2 b100000_3_n b200001=some r):sA N r (vS (aa 0 Try.f34)) (wQ x4 x7 b100000_0 b100000_1 b100000_2 b100000_3_n b200001):=
 aJ (m:=4000) (t:=
 .bnd (eW b100000_3_n x7) fun z19=>
 .bnd (b200001[z19]?) fun z20=>
 jl (.ok (x4,b100000_0,b100000_1,b100000_2,b100000_3_n,List.set b200001 z19 ({ kind:=z20.kind,a:=(b100000_3_n:Int),b:=z20.b,set_:=z20.set_ }:Vstep)))) (by kernel_rfl) (by kernel_rfl) h (fun _=>fun _=>be (enc:=fE) rfl)
theorem uM{N:RecC}{r:PR aG}:∀ (n:Nat) (x3:Int) (x4:Bool) (b100000_0:List UInt8) (b100000_1:Int) (b100000_2:Int) (b100000_3_n:Nat) (b200001:List Vstep),bU N n x3 x4 b100000_0 b100000_1 b100000_2 b100000_3_n b200001=some r→sA N r (uT (aa 0 Try.f34)) (uq x3 x4 b100000_0 b100000_1 b100000_2 b100000_3_n b200001)
 |0,_,_,_,_,_,_,_,h=>by cases h
 |n+1,x3,x4,b100000_0,b100000_1,b100000_2,b100000_3_n,b200001,h=>aJ (m:=4000) (t:=
  .bnd (bi N.n 124 b100000_0 b100000_1 b100000_2 b100000_3_n b200001) fun z3=>
  .sm z3 (fun z4=>
   .cond (z4.1)
   (
    .bnd (cz N.n x3 z4.2.1 z4.2.2.1 z4.2.2.2.1 z4.2.2.2.2.1 z4.2.2.2.2.2) fun z5=>
    .sm z5 (fun z6=>
     .bnd (aC N.n ({ kind:=1,a:=0,b:=0,set_:=(none:Option (List Bool)) }:Vstep) z6.2.1 z6.2.2.1 z6.2.2.2.1 z6.2.2.2.2.1 z6.2.2.2.2.2) fun z7=>
     .sm z7 (fun z8=>
      .bnd (eW z8.2.2.2.2.1 z8.1) fun z9=>
      .bnd (z8.2.2.2.2.2[z9]?) fun z10=>
      .bnd (bq N.n z6.1 x3 z8.2.1 z8.2.2.1 z8.2.2.2.1 z8.2.2.2.2.1 (List.set z8.2.2.2.2.2 z9 ({ kind:=z10.kind,a:=(z8.2.2.2.2.1:Int),b:=z10.b,set_:=z10.set_ }:Vstep))) fun z11=>
      .sm z11 (fun z12=>
       .bnd (aC N.n ({ kind:=2,a:=0,b:=0,set_:=(none:Option (List Bool)) }:Vstep) z12.1 z12.2.1 z12.2.2.1 z12.2.2.2.1 z12.2.2.2.2) fun z13=>
       .sm z13 (fun z14=>
        .bnd (eW z14.2.2.2.2.1 z8.1) fun z15=>
        .bnd (z14.2.2.2.2.2[z15]?) fun z16=>
        .bnd (dz N z14.2.1 z14.2.2.1 z14.2.2.2.1 z14.2.2.2.2.1 (List.set z14.2.2.2.2.2 z15 ({ kind:=z16.kind,a:=z16.a,b:=(z14.2.2.2.2.1:Int),set_:=z16.set_ }:Vstep))) fun z17=>
        .sm z17 (fun z18=>
         .cond (z18.1)
         (
          wi (aa 0 Try.f34) (cJ N (bU N n) n) true z14.1 z18.2.1 z18.2.2.1 z18.2.2.2.1 z18.2.2.2.2.1 z18.2.2.2.2.2)
         (
          wi (aa 0 Try.f34) (cJ N (bU N n) n) x4 z14.1 z18.2.1 z18.2.2.1 z18.2.2.2.1 z18.2.2.2.2.1 z18.2.2.2.2.2)) (fun vz17=>
         jl (.pan vz17))) (fun vz13=>
        jl (.pan vz13))) (fun vz11=>
       jl (.pan vz11))) (fun vz7=>
      jl (.pan vz7))) (fun vz5=>
     jl (.pan vz5)))
   (
    jl (.ok (x4,z4.2.1,z4.2.2.1,z4.2.2.2.1,z4.2.2.2.2.1,z4.2.2.2.2.2)))) (fun vz3=>
   jl (.pan vz3))) (by kernel_rfl) (by kernel_rfl) h (fun _=>⟨fun _=>⟨fun _=>⟨fun _=>fun _=>⟨fun _=>fun _=>fun _=>fun _=>⟨fun _=>fun _=>⟨fun _=>fun _=>fun _=>fun _=>⟨fun _=>⟨fun h=>wZ (uM n) n _ _ _ _ _ _ _ h,fun h=>wZ (uM n) n _ _ _ _ _ _ _ h⟩,fun _=>be (enc:=fE) rfl⟩,fun _=>be (enc:=fE) rfl⟩,fun _=>be (enc:=fE) rfl⟩,fun _=>be (enc:=fE) rfl⟩,fun _=>be (enc:=fE) rfl⟩,be (enc:=fE) rfl⟩,fun _=>be (enc:=fE) rfl⟩)
theorem Hz{N:RecC}{r:PR aG}(y0_0:List UInt8)(y0_1:Int)(y0_2:Int)(y0_3:Nat)(y1:List Vstep)(h:dB N y0_0 y0_1 y0_2 y0_3 y1=some r):sA N r (FG (aa 0 Try.f34)) (F7 y0_0 y0_1 y0_2 y0_3 y1):=
 aJ (m:=4000) (t:=
 .bnd (dS N y0_0 y0_1 y0_2 y0_3 y1) fun z1=>
 .sm z1 (fun z2=>
  IF (aa 0 Try.f34) (bU N N.n) (y0_3:Int) z2.1 z2.2.1 z2.2.2.1 z2.2.2.2.1 z2.2.2.2.2.1 z2.2.2.2.2.2) (fun vz1=>
  jl (.pan vz1))) (by kernel_rfl) (by kernel_rfl) h (fun _=>⟨fun _=>fun h=>uM N.n _ _ _ _ _ _ _ h,fun _=>be (enc:=fE) rfl⟩)
def B5(y0_0:List UInt8)(y0_1:Int)(y0_2:Int)(y0_3:Nat)(y1:List Vstep):List (TV EE.T):=[.a (.box 100000 0)]
def xK(y0_0:List UInt8)(y0_1:Int)(y0_2:Int)(y0_3:Nat)(y1:List Vstep):List (Nat × TB EE.T):=[(100000,.cs [.d .str y0_0,.d (.int .i64) y0_1,.d (.int .i64) y0_2,.vec (.nam 7) 200001 y0_3]),(200001,.vec 200001 (.nam 7) y1)]
theorem gA{N:RecC}(hN:iB N)(y0_0:List UInt8)(y0_1:Int)(y0_2:Int)(y0_3:Nat)(y1:List Vstep){r:PR aG}(h:dB N y0_0 y0_1 y0_2 y0_3 y1=some r)(ρ:Rn)(hi:Inj ρ (xK y0_0 y0_1 y0_2 y0_3 y1)):aT Try.prog 34 ((B5 y0_0 y0_1 y0_2 y0_3 y1).map (TV.to EE.toEnc ρ)) (hTo EE.toEnc ρ (xK y0_0 y0_1 y0_2 y0_3 y1)) (cS EE ρ fun u=>u=fE r):=
 fA (aa 0 Try.f34) 70 mixed (Gx N hN) Try.func34 (by kernel_rfl) rfl rfl rfl rfl (Hz y0_0 y0_1 y0_2 y0_3 y1 h) ρ hi
def li(N:RecC)(us:List (TV EE.T))(hs:List (Nat × TB EE.T)):XR EE.T:=
 gdX (fU us 1) <|
 bnX (aB us 0) fun i0=>
 bnX (bC hs i0) fun l0=>
 gdX (fU l0 4) <|
 bnX (cD .str l0 0) fun y0_0=>
 bnX (cD (.int .i64) l0 1) fun y0_1=>
 bnX (cD (.int .i64) l0 2) fun y0_2=>
 bnX (cVi (.nam 7) l0 3) fun i1=>
 bnX (cVn (.nam 7) l0 3) fun y0_3=>
 bnX (bV (.nam 7) hs i1) fun y1=>
 gdX (bX hs [i0,i1]) <|
 gdX (iw [i0,i1]) <|
 .mv (dB N y0_0 y0_1 y0_2 y0_3 y1) [i0,i1] (mvL [i0,i1] [100000,200001]) 0 (dU i0 i1) (sT i0 i1)
theorem kh(N:RecC)(hN:iB N):XOk Try.prog EE 34 (li N):=fun us hs=>
 a8 fun h1=>aA fun i0 h2=>aA fun l0 h3=>a8 fun h4=>aA fun y0_0 h5=>aA fun y0_1 h6=>aA fun y0_2 h7=>aA fun i1 h8=>aA fun y0_3 h9=>aA fun y1 h10=>a8 fun h11=>a8 fun h12=>fun p hz ρ hi=>gm (ex:=[]) (ks:=[100000,200001]) (us':=B5 y0_0 y0_1 y0_2 y0_3 y1) (h0:=xK y0_0 y0_1 y0_2 y0_3 y1) (ρ':=mT ρ [i0,i1]) (uc:=dU 100000 200001) (u:=dU i0 i1) (hc:=sT 100000 200001) (h:=sT i0 i1) hi h11 (by kernel_rfl) ⟨jf h2 (by kernel_rfl),cf h1⟩ ⟨(by kernel_rfl),kM h3 ⟨dm h5,dm h6,dm h7,iM h8 h9 (by kernel_rfl),cf h4⟩,(by kernel_rfl),kc h10 (by kernel_rfl),trivial⟩ ⟨.inr rfl,.inl rfl,trivial⟩ h12 (fun hj=>gA hN y0_0 y0_1 y0_2 y0_3 y1 hz _ hj) (fun z=>⟨by kernel_rfl,by kernel_rfl,by kernel_rfl,by kernel_rfl⟩)
theorem ic(n0:Nat):∀m,iB ⟨n0,eL n0 m⟩
 |0=>Fs n0
 |m+1=>kh ⟨n0,eL n0 m⟩ (ic n0 m)
def fM(r:aO):TV EE.T:=.a (.d (.sl .str) r.1)
def yS(i0:Nat)(r:aO):List (Nat × TB EE.T):=[(i0,.cs (eK EE (.nam 8) r.2))]
def uN(r:aO):RL EE.T:=.ret (fM r) (yS 100000 r)
def IP:Lvs:=⟨[(6,⟨[(0,false),(1,false),(2,false),(7,false),(8,false),(9,false)],[],[(100000,(some 8,[]))],[]⟩),(7,⟨[(0,false),(1,false),(2,false),(7,false),(8,false)],[],[(100000,(some 8,[]))],[]⟩),(8,⟨[(0,false),(1,false),(2,false),(7,false),(8,false),(9,false)],[],[(100000,(some 8,[]))],[]⟩)],[(3,⟨[(0,false),(1,false),(2,false),(7,false),(8,false)],[],[(100000,(some 8,[]))],[]⟩)],[8],[],false,[(100000,(some 8,[]))],[100000],[],[]⟩
def IM:List ResultVar:=[.tmp 6]
def EZ(N:Nat):Gam EE:=⟨[],EQT,[],[]⟩
theorem FM(N:Nat):GOk Try.prog TT EE (EZ N):=GOk.nil dh
def zL(c:Code):List It2:=atR 8 c
def zq(x1:List UInt8)(x2:List Int)(x7:List (List UInt8))(x8:Int)(x9:List UInt8)(b100000:VMask):TS EE.T:=⟨56,[(0,.a (.box 100000 0)),(1,.a (.d .str x1)),(2,.a (.d (.sl (.int .i64)) x2)),(7,.a (.own .str x7)),(8,.a (.d (.int .i64) x8)),(9,.a (.d .str x9))],[(100000,.cs (eK EE (.nam 8) b100000))],[]⟩
def t1(c:Code):List It2:=atL 3 c
def uV(x1:List UInt8)(x2:List Int)(x7:List (List UInt8))(x8:Int)(b100000:VMask):TS EE.T:=⟨56,[(0,.a (.box 100000 0)),(1,.a (.d .str x1)),(2,.a (.d (.sl (.int .i64)) x2)),(7,.a (.own .str x7)),(8,.a (.d (.int .i64) x8))],[(100000,.cs (eK EE (.nam 8) b100000))],[]⟩
def FT(c:Code):List It2:=[.c c]
def FX(x1:List UInt8)(x2:List Int)(y0:VMask):TS EE.T:=⟨56,[(0,.a (.box 100000 0)),(1,.a (.d .str x1)),(2,.a (.d (.sl (.int .i64)) x2))],[(100000,.cs (eK EE (.nam 8) y0))],[]⟩
def uQ(c:Code)(f:(List UInt8)→(List Int)→(List (List UInt8))→Int→(List UInt8)→VMask→Option aO)(x1:List UInt8)(x2:List Int)(x7:List (List UInt8))(x8:Int)(x9:List UInt8)(b100000:VMask):Tree (Lf EE.T × Option aO):=.leaf (.go (zL c) (zq x1 x2 x7 x8 x9 b100000),f x1 x2 x7 x8 x9 b100000)
def y4(c:Code)(f:(List UInt8)→(List Int)→(List (List UInt8))→Int→VMask→Option aO)(x1:List UInt8)(x2:List Int)(x7:List (List UInt8))(x8:Int)(b100000:VMask):Tree (Lf EE.T × Option aO):=.leaf (.go (t1 c) (uV x1 x2 x7 x8 b100000),f x1 x2 x7 x8 b100000)
abbrev sR(N:Nat)(r:aO)(k:List It2)(s:TS EE.T):Prop:=f8 (Y:=TT) EE (EZ N) IP IM (fun u=>u=uN r) k s
def JS(x:aO):Tree (Lf EE.T × Option aO):=.leaf (.done (uN x),some x)
theorem tL{N:Nat}{r:aO}{k3:(List UInt8)→(List Int)→(List (List UInt8))→Int→VMask→Option aO}(hk3:∀x1 x2 x7 x8 b100000,k3 x1 x2 x7 x8 b100000=some r→sR N r (t1 (aa 0 Try.f39)) (uV x1 x2 x7 x8 b100000))(n:Nat)(x1:List UInt8)(x2:List Int)(x7:List (List UInt8))(x8:Int)(x9:List UInt8)(b100000:VMask)(h:cn N k3 n x1 x2 x7 x8 x9 b100000=some r):sR N r (zL (aa 0 Try.f39)) (zq x1 x2 x7 x8 x9 b100000):=
 aJ (m:=4000) (t:=
 .bnd (eE 16 x7 ([x9] :List (List UInt8))) fun z7=>
 y4 (aa 0 Try.f39) k3 x1 x2 z7 (w64 (x8+1)) b100000) (by kernel_rfl) (by kernel_rfl) h (fun _=>fun h=>hk3 _ _ _ _ _ h)
theorem qc{N:Nat}{r:aO}:∀ (n:Nat) (x1:List UInt8) (x2:List Int) (x7:List (List UInt8)) (x8:Int) (b100000:VMask),bD N n x1 x2 x7 x8 b100000=some r→sR N r (t1 (aa 0 Try.f39)) (uV x1 x2 x7 x8 b100000)
 |0,_,_,_,_,_,h=>by cases h
 |n+1,x1,x2,x7,x8,b100000,h=>aJ (m:=4000) (t:=
  .cond (decide (x8≤b100000.Groups))
  (
   .bnd (ap x2 (w64 (2 * x8))) fun z1=>
   .cond (decide (z1≥0))
   (
    .bnd (ap x2 (w64 ((w64 (2 * x8))+1))) fun z2=>
    .bnd (ap x2 (w64 (2 * x8))) fun z3=>
    .cond (decide (z2≥z3))
    (
     .bnd (ap x2 (w64 (2 * x8))) fun z4=>
     .bnd (ap x2 (w64 ((w64 (2 * x8))+1))) fun z5=>
     .bnd (gq x1 z4 z5) fun z6=>
     uQ (aa 0 Try.f39) (cn N (bD N n) n) x1 x2 x7 x8 z6 b100000)
    (
     uQ (aa 0 Try.f39) (cn N (bD N n) n) x1 x2 x7 x8 ([] :List UInt8) b100000))
   (
    uQ (aa 0 Try.f39) (cn N (bD N n) n) x1 x2 x7 x8 ([] :List UInt8) b100000))
  (
   JS (x7,b100000))) (by kernel_rfl) (by kernel_rfl) h (⟨fun _=>⟨fun _=>fun _=>⟨fun _=>fun _=>fun _=>fun h=>tL (qc n) n _ _ _ _ _ _ h,fun h=>tL (qc n) n _ _ _ _ _ _ h⟩,fun h=>tL (qc n) n _ _ _ _ _ _ h⟩,be (enc:=uN) rfl⟩)
theorem Hj{N:Nat}{r:aO}(x1:List UInt8)(x2:List Int)(y0:VMask)(h:ef N x1 x2 y0=some r):sR N r (FT (aa 0 Try.f39)) (FX x1 x2 y0):=
 aJ (m:=4000) (t:=
 y4 (aa 0 Try.f39) (bD N N) x1 x2 ([] :List (List UInt8)) 1 y0) (by kernel_rfl) (by kernel_rfl) h (fun h=>qc N _ _ _ _ _ h)
def B8(x1:List UInt8)(x2:List Int)(y0:VMask):List (TV EE.T):=[.a (.box 100000 0),.a (.d .str x1),.a (.d (.sl (.int .i64)) x2)]
def xS(x1:List UInt8)(x2:List Int)(y0:VMask):List (Nat × TB EE.T):=[(100000,.cs (eK EE (.nam 8) y0))]
theorem lQ{N:Nat}(x1:List UInt8)(x2:List Int)(y0:VMask){r:aO}(h:ef N x1 x2 y0=some r)(ρ:Rn)(hi:Inj ρ (xS x1 x2 y0)):aT Try.prog 39 ((B8 x1 x2 y0).map (TV.to EE.toEnc ρ)) (hTo EE.toEnc ρ (xS x1 x2 y0)) (fun out H=>out=.ret ((fM r).to EE.toEnc ρ)∧H=hTo EE.toEnc ρ (yS 100000 r)):=
 (fA (aa 0 Try.f39) 56 mixed (FM N) Try.func39 (by kernel_rfl) rfl rfl rfl rfl (Hj x1 x2 y0 h) ρ hi).mono fun out H h=>cS.retH rfl rfl h
def iC(N:Nat)(us:List (TV EE.T))(hs:List (Nat × TB EE.T)):XR EE.T:=
 gdX (fU us 3) <|
 bnX (aB us 0) fun i0=>
 bnX (aD .str us 1) fun x1=>
 bnX (aD (.sl (.int .i64)) us 2) fun x2=>
 bnX (bS EE 8 hs i0) fun y0=>
 gdX (bX hs [i0]) <|
 .ret (ef N x1 x2 y0) [i0] fM (yS i0)
theorem lE(N:Nat):XOk Try.prog EE 39 (iC N):=fun us hs=>
 a8 fun h1=>aA fun i0 h2=>aA fun x1 h3=>aA fun x2 h4=>aA fun y0 h5=>a8 fun h6=>fun z hz=>⟨rfl,fun ρ hi=>Li (us':=B8 x1 x2 y0) (h0:=xS x1 x2 y0) (ρ':=mT ρ [i0]) hi h6 (by kernel_rfl) ⟨jf h2 (by kernel_rfl),mo h3,mo h4,cf h1⟩ ⟨(by kernel_rfl),GU h5,trivial⟩ (fun hj=>lQ x1 x2 y0 hz _ hj) (fun out H h=>⟨h.1.trans (by kernel_rfl),h.2.trans (by kernel_rfl)⟩)⟩
def jN(r:Bool):TV EE.T:=.a (.d .bool r)
def xP(r:Bool):RL EE.T:=.ret (jN r) []
def MM:Lvs:=⟨[],[],[],[],false,[],[],[],[]⟩
def M1:List ResultVar:=[.tmp 2]
def NS(N:Nat):Gam EE:=⟨[],EQT,[],[]⟩
theorem MA(N:Nat):GOk Try.prog TT EE (NS N):=GOk.nil dh
def Lw(c:Code):List It2:=[.c c]
def L4(x0:UInt8):TS EE.T:=⟨9,[(0,.a (.d .byte x0))],[],[]⟩
abbrev Ny(N:Nat)(r:Bool)(k:List It2)(s:TS EE.T):Prop:=f8 (Y:=TT) EE (NS N) MM M1 (fun u=>u=xP r) k s
def KW(x:Bool):Tree (Lf EE.T × Option Bool):=.leaf (.done (xP x),some x)
theorem My{N:Nat}{r:Bool}(x0:UInt8)(h:er N x0=some r):Ny N r (Lw (aa 0 Try.f47)) (L4 x0):=
 aJ (m:=4000) (t:=
 .cond (decide ((b2i x0)≥(b2i 48)))
 (
  KW (decide ((b2i x0)≤(b2i 57))))
 (
  KW false)) (by kernel_rfl) (by kernel_rfl) h (⟨be (enc:=xP) rfl,be (enc:=xP) rfl⟩)
theorem sh{N:Nat}(x0:UInt8){r:Bool}(h:er N x0=some r)(ρ:Rn):aT Try.prog 47 (([.a (.d .byte x0)] :List (TV EE.T)).map (TV.to EE.toEnc ρ)) [] (fun out H=>out=.ret ((jN r).to EE.toEnc ρ)∧H=[]):=
 (mF (aa 0 Try.f47) 9 mixed (MA N) Try.func47 (by kernel_rfl) rfl rfl rfl rfl (My x0 h) ρ).mono fun out H h=>cS.ret rfl h
def jA(N:Nat):List (TV EE.T)→PV EE.T
 | [u0] =>match iA .byte u0 with
   |some x0=>.opt (er N x0) jN
   |_=>.bad
 |_=>.bad
theorem q8(N:Nat)(us:List (TV EE.T)):(jA N us).ok fun u=>∀ρ,aT Try.prog 47 (us.map (TV.to EE.toEnc ρ)) [] (fun out H=>out=.ret (u.to EE.toEnc ρ)∧H=[]):=by
 unfold jA
 split
 ·split
  ·rename_i h0
   intro z hz ρ;refine eH ?_ (sh _ hz ρ);exact⟨cN h0 ρ,trivial⟩
  ·trivial
 ·trivial
def oL(r:ce):TV EE.T:=.tu [.a (.d (.sl (.nam 6)) r.1),.a (.d .bool r.2)]
def mS(r:ce):RL EE.T:=.ret (oL r) []
def MW:Lvs:=⟨[],[(2,⟨[(0,false),(4,false)],[],[],[]⟩)],[],[],false,[],[],[],[]⟩
def NI:List ResultVar:=[.tmp 2,.tmp 3]
def MH(N:Nat):Gam EE:=⟨[⟨47,jA N⟩,⟨46,ed N⟩],EQT,[],[]⟩
theorem LO(N:Nat):GOk Try.prog TT EE (MH N):=GOk.cons (q8 N) (GOk.cons (fN N) (GOk.nil dh))
def Gm(c:Code):List It2:=atL 2 c
def HB(x0:List UInt8)(x4:List Vpiece):TS EE.T:=⟨83,[(0,.a (.d .str x0)),(4,.a (.own (.nam 6) x4))],[],[]⟩
def Mf(c:Code):List It2:=[.c c]
def L3(x0:List UInt8):TS EE.T:=⟨83,[(0,.a (.d .str x0))],[],[]⟩
def uJ(c:Code)(f:(List UInt8)→(List Vpiece)→Option ce)(x0:List UInt8)(x4:List Vpiece):Tree (Lf EE.T × Option ce):=.leaf (.go (Gm c) (HB x0 x4),f x0 x4)
abbrev KR(N:Nat)(r:ce)(k:List It2)(s:TS EE.T):Prop:=f8 (Y:=TT) EE (MH N) MW NI (fun u=>u=mS r) k s
def wJ(x:ce):Tree (Lf EE.T × Option ce):=.leaf (.done (mS x),some x)
theorem tH{N:Nat}{r:ce}:∀ (n:Nat) (x0:List UInt8) (x4:List Vpiece),bQ N n x0 x4=some r→KR N r (Gm (aa 0 Try.f28)) (HB x0 x4)
 |0,_,_,h=>by cases h
 |n+1,x0,x4,h=>aJ (m:=4000) (t:=
  .cond (!decide (x0=([] :List UInt8)))
  (
   .bnd (ap x0 0) fun z1=>
   .cond ((b2i z1) != (b2i 36))
   (
    .bnd (vA x0 ([36] :List UInt8)) fun z2=>
    .bnd (bN N z2 36) fun z3=>
    .bnd (gq x0 0 z3) fun z4=>
    .bnd (eE 24 x4 ([({ text:=z4,group:=(-1) }:Vpiece)] :List Vpiece)) fun z5=>
    .bnd (gq x0 z3 (x0.length:Int)) fun z6=>
    uJ (aa 0 Try.f28) (bQ N n) z6 z5)
   (
    .bnd (gq x0 1 (x0.length:Int)) fun z7=>
    .cond (decide (z7=([] :List UInt8)))
    (
     wJ (([] :List Vpiece),false))
    (
     .bnd (ap z7 0) fun z8=>
     .cond ((b2i z8)==(b2i 36))
     (
      .bnd (eE 24 x4 ([({ text:=([36] :List UInt8),group:=(-1) }:Vpiece)] :List Vpiece)) fun z9=>
      .bnd (gq z7 1 (z7.length:Int)) fun z10=>
      uJ (aa 0 Try.f28) (bQ N n) z10 z9)
     (
      .bnd (ap z7 0) fun z11=>
      .bnd (er N z11) fun z12=>
      .cond (z12)
      (
       .bnd (ap z7 0) fun z13=>
       .bnd (eE 24 x4 ([({ text:=([] :List UInt8),group:=w64 (b2i (toB (IntKind.wrap .u8 ((b2i z13) - (b2i 48))))) }:Vpiece)] :List Vpiece)) fun z14=>
       .bnd (gq z7 1 (z7.length:Int)) fun z15=>
       uJ (aa 0 Try.f28) (bQ N n) z15 z14)
      (
       .cond (decide ((z7.length:Int) > 2))
       (
        .bnd (ap z7 0) fun z16=>
        .cond ((b2i z16)==(b2i 123))
        (
         .bnd (ap z7 1) fun z17=>
         .bnd (er N z17) fun z18=>
         .cond (z18)
         (
          .bnd (ap z7 2) fun z19=>
          .cond ((b2i z19)==(b2i 125))
          (
           .bnd (ap z7 1) fun z20=>
           .bnd (eE 24 x4 ([({ text:=([] :List UInt8),group:=w64 (b2i (toB (IntKind.wrap .u8 ((b2i z20) - (b2i 48))))) }:Vpiece)] :List Vpiece)) fun z21=>
           .bnd (gq z7 3 (z7.length:Int)) fun z22=>
           uJ (aa 0 Try.f28) (bQ N n) z22 z21)
          (
           wJ (([] :List Vpiece),false)))
         (
          wJ (([] :List Vpiece),false)))
        (
         wJ (([] :List Vpiece),false)))
       (
        wJ (([] :List Vpiece),false)))))))
  (
   wJ (x4,true))) (by kernel_rfl) (by kernel_rfl) h (⟨fun _=>⟨fun _=>fun _=>fun _=>fun _=>fun _=>fun h=>(tH n) _ _ h,fun _=>⟨be (enc:=mS) rfl,fun _=>⟨fun _=>fun _=>fun h=>(tH n) _ _ h,fun _=>fun _=>⟨fun _=>fun _=>fun _=>fun h=>(tH n) _ _ h,⟨fun _=>⟨fun _=>fun _=>⟨fun _=>⟨fun _=>fun _=>fun _=>fun h=>(tH n) _ _ h,be (enc:=mS) rfl⟩,be (enc:=mS) rfl⟩,be (enc:=mS) rfl⟩,be (enc:=mS) rfl⟩⟩⟩⟩⟩,be (enc:=mS) rfl⟩)
theorem Mk{N:Nat}{r:ce}(x0:List UInt8)(h:gQ N x0=some r):KR N r (Mf (aa 0 Try.f28)) (L3 x0):=
 aJ (m:=4000) (t:=
 uJ (aa 0 Try.f28) (bQ N N) x0 ([] :List Vpiece)) (by kernel_rfl) (by kernel_rfl) h (fun h=>tH N _ _ h)
theorem mK{N:Nat}(x0:List UInt8){r:ce}(h:gQ N x0=some r)(ρ:Rn):aT Try.prog 28 (([.a (.d .str x0)] :List (TV EE.T)).map (TV.to EE.toEnc ρ)) [] (fun out H=>out=.ret ((oL r).to EE.toEnc ρ)∧H=[]):=
 (mF (aa 0 Try.f28) 83 mixed (LO N) Try.func28 (by kernel_rfl) rfl rfl rfl rfl (Mk x0 h) ρ).mono fun out H h=>cS.ret rfl h
def pR(i0:Nat)(i1:Nat)(i2:Nat)(r:Nat × VMask × (List Vthread) × (List (Int × Bool))):TV EE.T:=.a (.vec (.nam 10) i1 r.1)
def pn(i0:Nat)(i1:Nat)(i2:Nat)(r:Nat × VMask × (List Vthread) × (List (Int × Bool))):List (Nat × TB EE.T):=[(i0,.cs (eK EE (.nam 8) r.2.1)),(i1,.vec i1 (.nam 10) r.2.2.1),(i2,.imap .bool r.2.2.2)]
def fO(N:RecC2)(us:List (TV EE.T))(hs:List (Nat × TB EE.T)):XR EE.T:=
 gdX (fU us 5) <|
 bnX (aB us 0) fun i0=>
 bnX (aVi (.nam 10) us 1) fun i1=>
 bnX (aVn (.nam 10) us 1) fun x1_n=>
 bnX (aM us 2) fun i2=>
 bnX (aS EE 10 us 3) fun x3=>
 bnX (aD (.int .i64) us 4) fun x4=>
 bnX (bS EE 8 hs i0) fun y0=>
 bnX (bV (.nam 10) hs i1) fun y1=>
 bnX (bI .bool hs i2) fun y2=>
 gdX (bX hs [i0,i1,i2]) <|
 gdX (iw [i0,i1,i2]) <|
 .mv (cW N x1_n x3 x4 y0 y1 y2) [i0,i1,i2] (mvL [i0,i1,i2] [100000,200001,100002]) 0 (pR i0 i1 i2) (pn i0 i1 i2)
def qY(N:RecC2):Prop:=XOk Try.prog EE 38 (fO N)
theorem oh(N:RecC2)(hN:qY N):XOk Try.prog EE 38 (fO N):=hN
theorem Er(n:Nat):qY ⟨n,fun _ _ _ _ _ _=>none⟩:=fun us hs=>
 a8 fun h1=>aA fun i0 h2=>aA fun i1 h3=>aA fun x1_n h4=>aA fun i2 h5=>aA fun x3 h6=>aA fun x4 h7=>aA fun y0 h8=>aA fun y1 h9=>aA fun y2 h10=>a8 fun h11=>a8 fun h12=>fun p hz=>by cases hz
def fq(i0:Nat)(i1:Nat)(i2:Nat)(r:bm):TV EE.T:=.a (.vec (.nam 10) i1 r.1)
def sJ(i0:Nat)(i1:Nat)(i2:Nat)(r:bm):List (Nat × TB EE.T):=[(i0,.cs (eK EE (.nam 8) r.2.1)),(i1,.vec i1 (.nam 10) r.2.2.1),(i2,.imap .bool r.2.2.2)]
def eZ(r:PR bm):RL EE.T:=mP (fq 100000 200001 100002) (sJ 100000 200001 100002) r
def JK:Lvs:=⟨[(4,⟨[(0,false),(1,false),(2,false),(4,false),(8,false)],[],[(8,(some 10,[])),(100000,(some 8,[])),(100002,(none,[])),(200001,(none,[]))],[]⟩),(5,⟨[(0,false),(1,false),(2,false),(4,false),(8,false),(11,false)],[],[(8,(some 10,[])),(11,(some 7,[])),(100000,(some 8,[])),(100002,(none,[])),(200001,(none,[]))],[]⟩)],[],[5],[],false,[(100000,(some 8,[]))],[100000,200001,100002],[(14,[.cl 401104 (.v (.int .i64)) (.s 12)])],[(88,200001)]⟩
def J1:List ResultVar:=[.tmp 10]
def HZ(N:RecC2):Gam EE:=⟨[],EQT,[⟨38,fO N⟩,⟨55,ng N.n⟩],[]⟩
theorem IL(N:RecC2)(hN:qY N):GOk Try.prog TT EE (HZ N):=GOk.consx (oh N hN) (GOk.consx (oM N.n) (GOk.nil dh))
def zI(c:Code):List It2:=atR 5 c
def A2(x1_n:Nat)(x4:Int)(b8:Vthread)(b11:Vstep)(b100000:VMask)(b100002:List (Int × Bool))(b200001:List Vthread):TS EE.T:=⟨89,[(0,.a (.box 100000 0)),(1,.a (.vec (.nam 10) 200001 x1_n)),(2,.a (.mpr 100002)),(4,.a (.d (.int .i64) x4)),(8,.a (.box 8 0)),(11,.a (.box 11 0))],[(8,.cs (eK EE (.nam 10) b8)),(11,.cs (eK EE (.nam 7) b11)),(100000,.cs (eK EE (.nam 8) b100000)),(100002,.imap .bool b100002),(200001,.vec 200001 (.nam 10) b200001)],[]⟩
def EG(c:Code):List It2:=[.c c]
def Hd(x1_n:Nat)(x3:Vthread)(x4:Int)(y0:VMask)(y1:List Vthread)(y2:List (Int × Bool)):TS EE.T:=⟨89,[(0,.a (.box 100000 0)),(1,.a (.vec (.nam 10) 200001 x1_n)),(2,.a (.mpr 100002)),(3,.ag (eK EE (.nam 10) x3)),(4,.a (.d (.int .i64) x4))],[(100000,.cs (eK EE (.nam 8) y0)),(200001,.vec 200001 (.nam 10) y1),(100002,.imap .bool y2)],[]⟩
def aw(c:Code)(f:Nat→Int→Vthread→Vstep→VMask→(List (Int × Bool))→(List Vthread)→Option (PR bm))(x1_n:Nat)(x4:Int)(b8:Vthread)(b11:Vstep)(b100000:VMask)(b100002:List (Int × Bool))(b200001:List Vthread):Tree (Lf EE.T × Option (PR bm)):=.leaf (.go (zI c) (A2 x1_n x4 b8 b11 b100000 b100002 b200001),f x1_n x4 b8 b11 b100000 b100002 b200001)
abbrev CY(N:RecC2)(r:PR bm)(k:List It2)(s:TS EE.T):Prop:=f8 (Y:=TT) EE (HZ N) JK J1 (fun u=>u=eZ r) k s
def iO(x:PR bm):Tree (Lf EE.T × Option (PR bm)):=.leaf (.done (eZ x),some x)
theorem au{N:RecC2}{r:PR bm}(n:Nat)(x1_n:Nat)(x4:Int)(b8:Vthread)(b11:Vstep)(b100000:VMask)(b100002:List (Int × Bool))(b200001:List Vthread)(h:ai N n x1_n x4 b8 b11 b100000 b100002 b200001=some r):CY N r (zI (aa 0 Try.f38)) (A2 x1_n x4 b8 b11 b100000 b100002 b200001):=
 aJ (m:=4000) (t:=
 .cond (b11.kind==2)
 (
  .bnd (cW N x1_n ({ at_:=b11.a,slots:=b8.slots }:Vthread) x4 b100000 b200001 b100002) fun z121=>
  .sm z121 (fun z122=>
   iO (.ok (z122.1,z122.2.1,z122.2.2.1,z122.2.2.2))) (fun vz121=>
   iO (.pan vz121)))
 (
  .cond (b11.kind==1)
  (
   .bnd (cW N x1_n ({ at_:=b11.a,slots:=b8.slots }:Vthread) x4 b100000 b200001 b100002) fun z123=>
   .sm z123 (fun z124=>
    .bnd (cW N z124.1 ({ at_:=b11.b,slots:=b8.slots }:Vthread) x4 z124.2.1 z124.2.2.1 z124.2.2.2) fun z125=>
    .sm z125 (fun z126=>
     iO (.ok (z126.1,z126.2.1,z126.2.2.1,z126.2.2.2))) (fun vz125=>
     iO (.pan vz125))) (fun vz123=>
    iO (.pan vz123)))
  (
   .cond (b11.kind==3)
   (
    .bnd (jq N.n b8.slots) fun z127=>
    .sm z127 (fun z128=>
     .bnd (eW z128.1 b11.a) fun z129=>
     .bnd (z128.2[z129]?) fun z130=>
     .bnd (pV z128.1 (List.set z128.2 z129 x4)) fun z131=>
     .bnd (cW N x1_n ({ at_:=w64 (b8.at_+1),slots:=z131 }:Vthread) x4 b100000 b200001 b100002) fun z132=>
     .sm z132 (fun z133=>
      iO (.ok (z133.1,z133.2.1,z133.2.2.1,z133.2.2.2))) (fun vz132=>
      iO (.pan vz132))) (fun vz127=>
     iO (.pan vz127)))
   (
    .bnd (rp 32 x1_n b200001 ([b8] :List Vthread)) fun z134=>
    iO (.ok (z134.length,b100000,z134,b100002)))))) (by kernel_rfl) (by kernel_rfl) h (⟨fun _=>⟨fun _=>be (enc:=eZ) rfl,fun _=>be (enc:=eZ) rfl⟩,⟨fun _=>⟨fun _=>fun _=>⟨fun _=>be (enc:=eZ) rfl,fun _=>be (enc:=eZ) rfl⟩,fun _=>be (enc:=eZ) rfl⟩,⟨fun _=>⟨fun _=>fun _=>fun _=>fun _=>fun _=>⟨fun _=>be (enc:=eZ) rfl,fun _=>be (enc:=eZ) rfl⟩,fun _=>be (enc:=eZ) rfl⟩,fun _=>be (enc:=eZ) rfl⟩⟩⟩)
theorem Ia{N:RecC2}{r:PR bm}(x1_n:Nat)(x3:Vthread)(x4:Int)(y0:VMask)(y1:List Vthread)(y2:List (Int × Bool))(h:gd N x1_n x3 x4 y0 y1 y2=some r):CY N r (EG (aa 0 Try.f38)) (Hd x1_n x3 x4 y0 y1 y2):=
 aJ (m:=4000) (t:=
 .cond ((sq y2 x3.at_).getD false)
 (
  iO (.ok (x1_n,y0,y1,y2)))
 (
  .nl (([] :List Nat))
  (
   .nl (([] :List Nat))
   (
    .nl (([] :List Nat))
    (
     .nl (([] :List Nat))
     (
      .nl (([] :List Nat))
      (
       .nl (([] :List Nat))
       (
        .nl (([] :List Nat))
        (
         .bnd (ap y0.steps x3.at_) fun z1=>
         .nl (([] :List Nat))
         (
          aw (aa 0 Try.f38) (ai N N.n) x1_n x4 x3 z1 y0 (aE y2 x3.at_ true) y1)
         (
          aw (aa 0 Try.f38) (ai N N.n) x1_n x4 x3 z1 y0 (aE y2 x3.at_ true) y1))
        (
         .bnd (ap y0.steps x3.at_) fun z2=>
         aw (aa 0 Try.f38) (ai N N.n) x1_n x4 x3 z2 y0 (aE y2 x3.at_ true) y1))
       (
        .bnd (ap y0.steps x3.at_) fun z3=>
        aw (aa 0 Try.f38) (ai N N.n) x1_n x4 x3 z3 y0 (aE y2 x3.at_ true) y1))
      (
       .bnd (ap y0.steps x3.at_) fun z4=>
       aw (aa 0 Try.f38) (ai N N.n) x1_n x4 x3 z4 y0 (aE y2 x3.at_ true) y1))
     (
      .nl (([] :List Nat))
      (
       .nl (([] :List Nat))
       (
        .nl (([] :List Nat))
        (
         .nl (([] :List Nat))
         (
          .bnd (ap y0.steps x3.at_) fun z5=>
          .nl (([] :List Nat))
          (
           aw (aa 0 Try.f38) (ai N N.n) x1_n x4 x3 z5 y0 (aE y2 x3.at_ true) y1)
          (
           aw (aa 0 Try.f38) (ai N N.n) x1_n x4 x3 z5 y0 (aE y2 x3.at_ true) y1))
         (
          .bnd (ap y0.steps x3.at_) fun z6=>
          aw (aa 0 Try.f38) (ai N N.n) x1_n x4 x3 z6 y0 (aE y2 x3.at_ true) y1))
        (
         .bnd (ap y0.steps x3.at_) fun z7=>
         aw (aa 0 Try.f38) (ai N N.n) x1_n x4 x3 z7 y0 (aE y2 x3.at_ true) y1))
       (
        .nl (([] :List Nat))
        (
         .nl (([] :List Nat))
         (
          .nl (([] :List Nat))
          (
           .bnd (ap y0.steps x3.at_) fun z8=>
           .nl (([] :List Nat))
           (
            aw (aa 0 Try.f38) (ai N N.n) x1_n x4 x3 z8 y0 (aE y2 x3.at_ true) y1)
           (
            aw (aa 0 Try.f38) (ai N N.n) x1_n x4 x3 z8 y0 (aE y2 x3.at_ true) y1))
          (
           .bnd (ap y0.steps x3.at_) fun z9=>
           aw (aa 0 Try.f38) (ai N N.n) x1_n x4 x3 z9 y0 (aE y2 x3.at_ true) y1))
         (
          .bnd (ap y0.steps x3.at_) fun z10=>
          aw (aa 0 Try.f38) (ai N N.n) x1_n x4 x3 z10 y0 (aE y2 x3.at_ true) y1))
        (
         .nl (([] :List Nat))
         (
          .bnd (ap y0.steps x3.at_) fun z11=>
          aw (aa 0 Try.f38) (ai N N.n) x1_n x4 x3 z11 y0 (aE y2 x3.at_ true) y1)
         (
          .bnd (ap y0.steps x3.at_) fun z12=>
          aw (aa 0 Try.f38) (ai N N.n) x1_n x4 x3 z12 y0 (aE y2 x3.at_ true) y1))))
      (
       .nl (([] :List Nat))
       (
        .bnd (ap y0.steps x3.at_) fun z13=>
        aw (aa 0 Try.f38) (ai N N.n) x1_n x4 x3 z13 y0 (aE y2 x3.at_ true) y1)
       (
        .nl (([] :List Nat))
        (
         .bnd (ap y0.steps x3.at_) fun z14=>
         aw (aa 0 Try.f38) (ai N N.n) x1_n x4 x3 z14 y0 (aE y2 x3.at_ true) y1)
        (
         .bnd (ap y0.steps x3.at_) fun z15=>
         aw (aa 0 Try.f38) (ai N N.n) x1_n x4 x3 z15 y0 (aE y2 x3.at_ true) y1)))))
    (
     .nl (([] :List Nat))
     (
      .nl (([] :List Nat))
      (
       .nl (([] :List Nat))
       (
        .nl (([] :List Nat))
        (
         .nl (([] :List Nat))
         (
          .bnd (ap y0.steps x3.at_) fun z16=>
          .nl (([] :List Nat))
          (
           aw (aa 0 Try.f38) (ai N N.n) x1_n x4 x3 z16 y0 (aE y2 x3.at_ true) y1)
          (
           aw (aa 0 Try.f38) (ai N N.n) x1_n x4 x3 z16 y0 (aE y2 x3.at_ true) y1))
         (
          .bnd (ap y0.steps x3.at_) fun z17=>
          aw (aa 0 Try.f38) (ai N N.n) x1_n x4 x3 z17 y0 (aE y2 x3.at_ true) y1))
        (
         .bnd (ap y0.steps x3.at_) fun z18=>
         aw (aa 0 Try.f38) (ai N N.n) x1_n x4 x3 z18 y0 (aE y2 x3.at_ true) y1))
       (
        .nl (([] :List Nat))
        (
         .nl (([] :List Nat))
         (
          .nl (([] :List Nat))
          (
           .bnd (ap y0.steps x3.at_) fun z19=>
           .nl (([] :List Nat))
           (
            aw (aa 0 Try.f38) (ai N N.n) x1_n x4 x3 z19 y0 (aE y2 x3.at_ true) y1)
           (
            aw (aa 0 Try.f38) (ai N N.n) x1_n x4 x3 z19 y0 (aE y2 x3.at_ true) y1))
          (
           .bnd (ap y0.steps x3.at_) fun z20=>
           aw (aa 0 Try.f38) (ai N N.n) x1_n x4 x3 z20 y0 (aE y2 x3.at_ true) y1))
         (
          .bnd (ap y0.steps x3.at_) fun z21=>
          aw (aa 0 Try.f38) (ai N N.n) x1_n x4 x3 z21 y0 (aE y2 x3.at_ true) y1))
        (
         .nl (([] :List Nat))
         (
          .bnd (ap y0.steps x3.at_) fun z22=>
          aw (aa 0 Try.f38) (ai N N.n) x1_n x4 x3 z22 y0 (aE y2 x3.at_ true) y1)
         (
          .bnd (ap y0.steps x3.at_) fun z23=>
          aw (aa 0 Try.f38) (ai N N.n) x1_n x4 x3 z23 y0 (aE y2 x3.at_ true) y1))))
      (
       .nl (([] :List Nat))
       (
        .nl (([] :List Nat))
        (
         .nl (([] :List Nat))
         (
          .nl (([] :List Nat))
          (
           .bnd (ap y0.steps x3.at_) fun z24=>
           .nl (([] :List Nat))
           (
            aw (aa 0 Try.f38) (ai N N.n) x1_n x4 x3 z24 y0 (aE y2 x3.at_ true) y1)
           (
            aw (aa 0 Try.f38) (ai N N.n) x1_n x4 x3 z24 y0 (aE y2 x3.at_ true) y1))
          (
           .bnd (ap y0.steps x3.at_) fun z25=>
           aw (aa 0 Try.f38) (ai N N.n) x1_n x4 x3 z25 y0 (aE y2 x3.at_ true) y1))
         (
          .bnd (ap y0.steps x3.at_) fun z26=>
          aw (aa 0 Try.f38) (ai N N.n) x1_n x4 x3 z26 y0 (aE y2 x3.at_ true) y1))
        (
         .bnd (ap y0.steps x3.at_) fun z27=>
         aw (aa 0 Try.f38) (ai N N.n) x1_n x4 x3 z27 y0 (aE y2 x3.at_ true) y1))
       (
        .nl (([] :List Nat))
        (
         .nl (([] :List Nat))
         (
          .bnd (ap y0.steps x3.at_) fun z28=>
          aw (aa 0 Try.f38) (ai N N.n) x1_n x4 x3 z28 y0 (aE y2 x3.at_ true) y1)
         (
          .bnd (ap y0.steps x3.at_) fun z29=>
          aw (aa 0 Try.f38) (ai N N.n) x1_n x4 x3 z29 y0 (aE y2 x3.at_ true) y1))
        (
         .bnd (ap y0.steps x3.at_) fun z30=>
         aw (aa 0 Try.f38) (ai N N.n) x1_n x4 x3 z30 y0 (aE y2 x3.at_ true) y1))))
     (
      .nl (([] :List Nat))
      (
       .nl (([] :List Nat))
       (
        .bnd (ap y0.steps x3.at_) fun z31=>
        aw (aa 0 Try.f38) (ai N N.n) x1_n x4 x3 z31 y0 (aE y2 x3.at_ true) y1)
       (
        .nl (([] :List Nat))
        (
         .bnd (ap y0.steps x3.at_) fun z32=>
         aw (aa 0 Try.f38) (ai N N.n) x1_n x4 x3 z32 y0 (aE y2 x3.at_ true) y1)
        (
         .bnd (ap y0.steps x3.at_) fun z33=>
         aw (aa 0 Try.f38) (ai N N.n) x1_n x4 x3 z33 y0 (aE y2 x3.at_ true) y1)))
      (
       .nl (([] :List Nat))
       (
        .nl (([] :List Nat))
        (
         .bnd (ap y0.steps x3.at_) fun z34=>
         aw (aa 0 Try.f38) (ai N N.n) x1_n x4 x3 z34 y0 (aE y2 x3.at_ true) y1)
        (
         .bnd (ap y0.steps x3.at_) fun z35=>
         aw (aa 0 Try.f38) (ai N N.n) x1_n x4 x3 z35 y0 (aE y2 x3.at_ true) y1))
       (
        .bnd (ap y0.steps x3.at_) fun z36=>
        aw (aa 0 Try.f38) (ai N N.n) x1_n x4 x3 z36 y0 (aE y2 x3.at_ true) y1)))))
   (
    .nl (([] :List Nat))
    (
     .nl (([] :List Nat))
     (
      .nl (([] :List Nat))
      (
       .nl (([] :List Nat))
       (
        .nl (([] :List Nat))
        (
         .nl (([] :List Nat))
         (
          .bnd (ap y0.steps x3.at_) fun z37=>
          .nl (([] :List Nat))
          (
           aw (aa 0 Try.f38) (ai N N.n) x1_n x4 x3 z37 y0 (aE y2 x3.at_ true) y1)
          (
           aw (aa 0 Try.f38) (ai N N.n) x1_n x4 x3 z37 y0 (aE y2 x3.at_ true) y1))
         (
          .bnd (ap y0.steps x3.at_) fun z38=>
          aw (aa 0 Try.f38) (ai N N.n) x1_n x4 x3 z38 y0 (aE y2 x3.at_ true) y1))
        (
         .bnd (ap y0.steps x3.at_) fun z39=>
         aw (aa 0 Try.f38) (ai N N.n) x1_n x4 x3 z39 y0 (aE y2 x3.at_ true) y1))
       (
        .nl (([] :List Nat))
        (
         .nl (([] :List Nat))
         (
          .nl (([] :List Nat))
          (
           .bnd (ap y0.steps x3.at_) fun z40=>
           .nl (([] :List Nat))
           (
            aw (aa 0 Try.f38) (ai N N.n) x1_n x4 x3 z40 y0 (aE y2 x3.at_ true) y1)
           (
            aw (aa 0 Try.f38) (ai N N.n) x1_n x4 x3 z40 y0 (aE y2 x3.at_ true) y1))
          (
           .bnd (ap y0.steps x3.at_) fun z41=>
           aw (aa 0 Try.f38) (ai N N.n) x1_n x4 x3 z41 y0 (aE y2 x3.at_ true) y1))
         (
          .bnd (ap y0.steps x3.at_) fun z42=>
          aw (aa 0 Try.f38) (ai N N.n) x1_n x4 x3 z42 y0 (aE y2 x3.at_ true) y1))
        (
         .nl (([] :List Nat))
         (
          .bnd (ap y0.steps x3.at_) fun z43=>
          aw (aa 0 Try.f38) (ai N N.n) x1_n x4 x3 z43 y0 (aE y2 x3.at_ true) y1)
         (
          .bnd (ap y0.steps x3.at_) fun z44=>
          aw (aa 0 Try.f38) (ai N N.n) x1_n x4 x3 z44 y0 (aE y2 x3.at_ true) y1))))
      (
       .nl (([] :List Nat))
       (
        .nl (([] :List Nat))
        (
         .nl (([] :List Nat))
         (
          .nl (([] :List Nat))
          (
           .bnd (ap y0.steps x3.at_) fun z45=>
           .nl (([] :List Nat))
           (
            aw (aa 0 Try.f38) (ai N N.n) x1_n x4 x3 z45 y0 (aE y2 x3.at_ true) y1)
           (
            aw (aa 0 Try.f38) (ai N N.n) x1_n x4 x3 z45 y0 (aE y2 x3.at_ true) y1))
          (
           .bnd (ap y0.steps x3.at_) fun z46=>
           aw (aa 0 Try.f38) (ai N N.n) x1_n x4 x3 z46 y0 (aE y2 x3.at_ true) y1))
         (
          .bnd (ap y0.steps x3.at_) fun z47=>
          aw (aa 0 Try.f38) (ai N N.n) x1_n x4 x3 z47 y0 (aE y2 x3.at_ true) y1))
        (
         .bnd (ap y0.steps x3.at_) fun z48=>
         aw (aa 0 Try.f38) (ai N N.n) x1_n x4 x3 z48 y0 (aE y2 x3.at_ true) y1))
       (
        .nl (([] :List Nat))
        (
         .nl (([] :List Nat))
         (
          .bnd (ap y0.steps x3.at_) fun z49=>
          aw (aa 0 Try.f38) (ai N N.n) x1_n x4 x3 z49 y0 (aE y2 x3.at_ true) y1)
         (
          .bnd (ap y0.steps x3.at_) fun z50=>
          aw (aa 0 Try.f38) (ai N N.n) x1_n x4 x3 z50 y0 (aE y2 x3.at_ true) y1))
        (
         .bnd (ap y0.steps x3.at_) fun z51=>
         aw (aa 0 Try.f38) (ai N N.n) x1_n x4 x3 z51 y0 (aE y2 x3.at_ true) y1))))
     (
      .nl (([] :List Nat))
      (
       .nl (([] :List Nat))
       (
        .nl (([] :List Nat))
        (
         .nl (([] :List Nat))
         (
          .nl (([] :List Nat))
          (
           .bnd (ap y0.steps x3.at_) fun z52=>
           .nl (([] :List Nat))
           (
            aw (aa 0 Try.f38) (ai N N.n) x1_n x4 x3 z52 y0 (aE y2 x3.at_ true) y1)
           (
            aw (aa 0 Try.f38) (ai N N.n) x1_n x4 x3 z52 y0 (aE y2 x3.at_ true) y1))
          (
           .bnd (ap y0.steps x3.at_) fun z53=>
           aw (aa 0 Try.f38) (ai N N.n) x1_n x4 x3 z53 y0 (aE y2 x3.at_ true) y1))
         (
          .bnd (ap y0.steps x3.at_) fun z54=>
          aw (aa 0 Try.f38) (ai N N.n) x1_n x4 x3 z54 y0 (aE y2 x3.at_ true) y1))
        (
         .bnd (ap y0.steps x3.at_) fun z55=>
         aw (aa 0 Try.f38) (ai N N.n) x1_n x4 x3 z55 y0 (aE y2 x3.at_ true) y1))
       (
        .bnd (ap y0.steps x3.at_) fun z56=>
        aw (aa 0 Try.f38) (ai N N.n) x1_n x4 x3 z56 y0 (aE y2 x3.at_ true) y1))
      (
       .nl (([] :List Nat))
       (
        .nl (([] :List Nat))
        (
         .nl (([] :List Nat))
         (
          .bnd (ap y0.steps x3.at_) fun z57=>
          aw (aa 0 Try.f38) (ai N N.n) x1_n x4 x3 z57 y0 (aE y2 x3.at_ true) y1)
         (
          .bnd (ap y0.steps x3.at_) fun z58=>
          aw (aa 0 Try.f38) (ai N N.n) x1_n x4 x3 z58 y0 (aE y2 x3.at_ true) y1))
        (
         .bnd (ap y0.steps x3.at_) fun z59=>
         aw (aa 0 Try.f38) (ai N N.n) x1_n x4 x3 z59 y0 (aE y2 x3.at_ true) y1))
       (
        .bnd (ap y0.steps x3.at_) fun z60=>
        aw (aa 0 Try.f38) (ai N N.n) x1_n x4 x3 z60 y0 (aE y2 x3.at_ true) y1))))
    (
     .nl (([] :List Nat))
     (
      .nl (([] :List Nat))
      (
       .nl (([] :List Nat))
       (
        .bnd (ap y0.steps x3.at_) fun z61=>
        aw (aa 0 Try.f38) (ai N N.n) x1_n x4 x3 z61 y0 (aE y2 x3.at_ true) y1)
       (
        .nl (([] :List Nat))
        (
         .bnd (ap y0.steps x3.at_) fun z62=>
         aw (aa 0 Try.f38) (ai N N.n) x1_n x4 x3 z62 y0 (aE y2 x3.at_ true) y1)
        (
         .bnd (ap y0.steps x3.at_) fun z63=>
         aw (aa 0 Try.f38) (ai N N.n) x1_n x4 x3 z63 y0 (aE y2 x3.at_ true) y1)))
      (
       .nl (([] :List Nat))
       (
        .nl (([] :List Nat))
        (
         .bnd (ap y0.steps x3.at_) fun z64=>
         aw (aa 0 Try.f38) (ai N N.n) x1_n x4 x3 z64 y0 (aE y2 x3.at_ true) y1)
        (
         .bnd (ap y0.steps x3.at_) fun z65=>
         aw (aa 0 Try.f38) (ai N N.n) x1_n x4 x3 z65 y0 (aE y2 x3.at_ true) y1))
       (
        .bnd (ap y0.steps x3.at_) fun z66=>
        aw (aa 0 Try.f38) (ai N N.n) x1_n x4 x3 z66 y0 (aE y2 x3.at_ true) y1)))
     (
      .nl (([] :List Nat))
      (
       .nl (([] :List Nat))
       (
        .nl (([] :List Nat))
        (
         .bnd (ap y0.steps x3.at_) fun z67=>
         aw (aa 0 Try.f38) (ai N N.n) x1_n x4 x3 z67 y0 (aE y2 x3.at_ true) y1)
        (
         .bnd (ap y0.steps x3.at_) fun z68=>
         aw (aa 0 Try.f38) (ai N N.n) x1_n x4 x3 z68 y0 (aE y2 x3.at_ true) y1))
       (
        .bnd (ap y0.steps x3.at_) fun z69=>
        aw (aa 0 Try.f38) (ai N N.n) x1_n x4 x3 z69 y0 (aE y2 x3.at_ true) y1))
      (
       .bnd (ap y0.steps x3.at_) fun z70=>
       aw (aa 0 Try.f38) (ai N N.n) x1_n x4 x3 z70 y0 (aE y2 x3.at_ true) y1)))))
  (
   .nl (([] :List Nat))
   (
    .nl (([] :List Nat))
    (
     .nl (([] :List Nat))
     (
      .nl (([] :List Nat))
      (
       .nl (([] :List Nat))
       (
        .nl (([] :List Nat))
        (
         .nl (([] :List Nat))
         (
          .bnd (ap y0.steps x3.at_) fun z71=>
          .nl (([] :List Nat))
          (
           aw (aa 0 Try.f38) (ai N N.n) x1_n x4 x3 z71 y0 (aE y2 x3.at_ true) y1)
          (
           aw (aa 0 Try.f38) (ai N N.n) x1_n x4 x3 z71 y0 (aE y2 x3.at_ true) y1))
         (
          .bnd (ap y0.steps x3.at_) fun z72=>
          aw (aa 0 Try.f38) (ai N N.n) x1_n x4 x3 z72 y0 (aE y2 x3.at_ true) y1))
        (
         .bnd (ap y0.steps x3.at_) fun z73=>
         aw (aa 0 Try.f38) (ai N N.n) x1_n x4 x3 z73 y0 (aE y2 x3.at_ true) y1))
       (
        .nl (([] :List Nat))
        (
         .nl (([] :List Nat))
         (
          .nl (([] :List Nat))
          (
           .bnd (ap y0.steps x3.at_) fun z74=>
           .nl (([] :List Nat))
           (
            aw (aa 0 Try.f38) (ai N N.n) x1_n x4 x3 z74 y0 (aE y2 x3.at_ true) y1)
           (
            aw (aa 0 Try.f38) (ai N N.n) x1_n x4 x3 z74 y0 (aE y2 x3.at_ true) y1))
          (
           .bnd (ap y0.steps x3.at_) fun z75=>
           aw (aa 0 Try.f38) (ai N N.n) x1_n x4 x3 z75 y0 (aE y2 x3.at_ true) y1))
         (
          .bnd (ap y0.steps x3.at_) fun z76=>
          aw (aa 0 Try.f38) (ai N N.n) x1_n x4 x3 z76 y0 (aE y2 x3.at_ true) y1))
        (
         .nl (([] :List Nat))
         (
          .bnd (ap y0.steps x3.at_) fun z77=>
          aw (aa 0 Try.f38) (ai N N.n) x1_n x4 x3 z77 y0 (aE y2 x3.at_ true) y1)
         (
          .bnd (ap y0.steps x3.at_) fun z78=>
          aw (aa 0 Try.f38) (ai N N.n) x1_n x4 x3 z78 y0 (aE y2 x3.at_ true) y1))))
      (
       .nl (([] :List Nat))
       (
        .nl (([] :List Nat))
        (
         .nl (([] :List Nat))
         (
          .nl (([] :List Nat))
          (
           .bnd (ap y0.steps x3.at_) fun z79=>
           .nl (([] :List Nat))
           (
            aw (aa 0 Try.f38) (ai N N.n) x1_n x4 x3 z79 y0 (aE y2 x3.at_ true) y1)
           (
            aw (aa 0 Try.f38) (ai N N.n) x1_n x4 x3 z79 y0 (aE y2 x3.at_ true) y1))
          (
           .bnd (ap y0.steps x3.at_) fun z80=>
           aw (aa 0 Try.f38) (ai N N.n) x1_n x4 x3 z80 y0 (aE y2 x3.at_ true) y1))
         (
          .bnd (ap y0.steps x3.at_) fun z81=>
          aw (aa 0 Try.f38) (ai N N.n) x1_n x4 x3 z81 y0 (aE y2 x3.at_ true) y1))
        (
         .bnd (ap y0.steps x3.at_) fun z82=>
         aw (aa 0 Try.f38) (ai N N.n) x1_n x4 x3 z82 y0 (aE y2 x3.at_ true) y1))
       (
        .nl (([] :List Nat))
        (
         .nl (([] :List Nat))
         (
          .bnd (ap y0.steps x3.at_) fun z83=>
          aw (aa 0 Try.f38) (ai N N.n) x1_n x4 x3 z83 y0 (aE y2 x3.at_ true) y1)
         (
          .bnd (ap y0.steps x3.at_) fun z84=>
          aw (aa 0 Try.f38) (ai N N.n) x1_n x4 x3 z84 y0 (aE y2 x3.at_ true) y1))
        (
         .bnd (ap y0.steps x3.at_) fun z85=>
         aw (aa 0 Try.f38) (ai N N.n) x1_n x4 x3 z85 y0 (aE y2 x3.at_ true) y1))))
     (
      .nl (([] :List Nat))
      (
       .nl (([] :List Nat))
       (
        .nl (([] :List Nat))
        (
         .nl (([] :List Nat))
         (
          .nl (([] :List Nat))
          (
           .bnd (ap y0.steps x3.at_) fun z86=>
           .nl (([] :List Nat))
           (
            aw (aa 0 Try.f38) (ai N N.n) x1_n x4 x3 z86 y0 (aE y2 x3.at_ true) y1)
           (
            aw (aa 0 Try.f38) (ai N N.n) x1_n x4 x3 z86 y0 (aE y2 x3.at_ true) y1))
          (
           .bnd (ap y0.steps x3.at_) fun z87=>
           aw (aa 0 Try.f38) (ai N N.n) x1_n x4 x3 z87 y0 (aE y2 x3.at_ true) y1))
         (
          .bnd (ap y0.steps x3.at_) fun z88=>
          aw (aa 0 Try.f38) (ai N N.n) x1_n x4 x3 z88 y0 (aE y2 x3.at_ true) y1))
        (
         .bnd (ap y0.steps x3.at_) fun z89=>
         aw (aa 0 Try.f38) (ai N N.n) x1_n x4 x3 z89 y0 (aE y2 x3.at_ true) y1))
       (
        .bnd (ap y0.steps x3.at_) fun z90=>
        aw (aa 0 Try.f38) (ai N N.n) x1_n x4 x3 z90 y0 (aE y2 x3.at_ true) y1))
      (
       .nl (([] :List Nat))
       (
        .nl (([] :List Nat))
        (
         .nl (([] :List Nat))
         (
          .bnd (ap y0.steps x3.at_) fun z91=>
          aw (aa 0 Try.f38) (ai N N.n) x1_n x4 x3 z91 y0 (aE y2 x3.at_ true) y1)
         (
          .bnd (ap y0.steps x3.at_) fun z92=>
          aw (aa 0 Try.f38) (ai N N.n) x1_n x4 x3 z92 y0 (aE y2 x3.at_ true) y1))
        (
         .bnd (ap y0.steps x3.at_) fun z93=>
         aw (aa 0 Try.f38) (ai N N.n) x1_n x4 x3 z93 y0 (aE y2 x3.at_ true) y1))
       (
        .bnd (ap y0.steps x3.at_) fun z94=>
        aw (aa 0 Try.f38) (ai N N.n) x1_n x4 x3 z94 y0 (aE y2 x3.at_ true) y1))))
    (
     .nl (([] :List Nat))
     (
      .nl (([] :List Nat))
      (
       .nl (([] :List Nat))
       (
        .nl (([] :List Nat))
        (
         .nl (([] :List Nat))
         (
          .nl (([] :List Nat))
          (
           .bnd (ap y0.steps x3.at_) fun z95=>
           .nl (([] :List Nat))
           (
            aw (aa 0 Try.f38) (ai N N.n) x1_n x4 x3 z95 y0 (aE y2 x3.at_ true) y1)
           (
            aw (aa 0 Try.f38) (ai N N.n) x1_n x4 x3 z95 y0 (aE y2 x3.at_ true) y1))
          (
           .bnd (ap y0.steps x3.at_) fun z96=>
           aw (aa 0 Try.f38) (ai N N.n) x1_n x4 x3 z96 y0 (aE y2 x3.at_ true) y1))
         (
          .bnd (ap y0.steps x3.at_) fun z97=>
          aw (aa 0 Try.f38) (ai N N.n) x1_n x4 x3 z97 y0 (aE y2 x3.at_ true) y1))
        (
         .bnd (ap y0.steps x3.at_) fun z98=>
         aw (aa 0 Try.f38) (ai N N.n) x1_n x4 x3 z98 y0 (aE y2 x3.at_ true) y1))
       (
        .bnd (ap y0.steps x3.at_) fun z99=>
        aw (aa 0 Try.f38) (ai N N.n) x1_n x4 x3 z99 y0 (aE y2 x3.at_ true) y1))
      (
       .bnd (ap y0.steps x3.at_) fun z100=>
       aw (aa 0 Try.f38) (ai N N.n) x1_n x4 x3 z100 y0 (aE y2 x3.at_ true) y1))
     (
      .nl (([] :List Nat))
      (
       .nl (([] :List Nat))
       (
        .nl (([] :List Nat))
        (
         .nl (([] :List Nat))
         (
          .bnd (ap y0.steps x3.at_) fun z101=>
          aw (aa 0 Try.f38) (ai N N.n) x1_n x4 x3 z101 y0 (aE y2 x3.at_ true) y1)
         (
          .bnd (ap y0.steps x3.at_) fun z102=>
          aw (aa 0 Try.f38) (ai N N.n) x1_n x4 x3 z102 y0 (aE y2 x3.at_ true) y1))
        (
         .bnd (ap y0.steps x3.at_) fun z103=>
         aw (aa 0 Try.f38) (ai N N.n) x1_n x4 x3 z103 y0 (aE y2 x3.at_ true) y1))
       (
        .bnd (ap y0.steps x3.at_) fun z104=>
        aw (aa 0 Try.f38) (ai N N.n) x1_n x4 x3 z104 y0 (aE y2 x3.at_ true) y1))
      (
       .bnd (ap y0.steps x3.at_) fun z105=>
       aw (aa 0 Try.f38) (ai N N.n) x1_n x4 x3 z105 y0 (aE y2 x3.at_ true) y1))))
   (
    .nl (([] :List Nat))
    (
     .nl (([] :List Nat))
     (
      .nl (([] :List Nat))
      (
       .nl (([] :List Nat))
       (
        .bnd (ap y0.steps x3.at_) fun z106=>
        aw (aa 0 Try.f38) (ai N N.n) x1_n x4 x3 z106 y0 (aE y2 x3.at_ true) y1)
       (
        .nl (([] :List Nat))
        (
         .bnd (ap y0.steps x3.at_) fun z107=>
         aw (aa 0 Try.f38) (ai N N.n) x1_n x4 x3 z107 y0 (aE y2 x3.at_ true) y1)
        (
         .bnd (ap y0.steps x3.at_) fun z108=>
         aw (aa 0 Try.f38) (ai N N.n) x1_n x4 x3 z108 y0 (aE y2 x3.at_ true) y1)))
      (
       .nl (([] :List Nat))
       (
        .nl (([] :List Nat))
        (
         .bnd (ap y0.steps x3.at_) fun z109=>
         aw (aa 0 Try.f38) (ai N N.n) x1_n x4 x3 z109 y0 (aE y2 x3.at_ true) y1)
        (
         .bnd (ap y0.steps x3.at_) fun z110=>
         aw (aa 0 Try.f38) (ai N N.n) x1_n x4 x3 z110 y0 (aE y2 x3.at_ true) y1))
       (
        .bnd (ap y0.steps x3.at_) fun z111=>
        aw (aa 0 Try.f38) (ai N N.n) x1_n x4 x3 z111 y0 (aE y2 x3.at_ true) y1)))
     (
      .nl (([] :List Nat))
      (
       .nl (([] :List Nat))
       (
        .nl (([] :List Nat))
        (
         .bnd (ap y0.steps x3.at_) fun z112=>
         aw (aa 0 Try.f38) (ai N N.n) x1_n x4 x3 z112 y0 (aE y2 x3.at_ true) y1)
        (
         .bnd (ap y0.steps x3.at_) fun z113=>
         aw (aa 0 Try.f38) (ai N N.n) x1_n x4 x3 z113 y0 (aE y2 x3.at_ true) y1))
       (
        .bnd (ap y0.steps x3.at_) fun z114=>
        aw (aa 0 Try.f38) (ai N N.n) x1_n x4 x3 z114 y0 (aE y2 x3.at_ true) y1))
      (
       .bnd (ap y0.steps x3.at_) fun z115=>
       aw (aa 0 Try.f38) (ai N N.n) x1_n x4 x3 z115 y0 (aE y2 x3.at_ true) y1)))
    (
     .nl (([] :List Nat))
     (
      .nl (([] :List Nat))
      (
       .nl (([] :List Nat))
       (
        .nl (([] :List Nat))
        (
         .bnd (ap y0.steps x3.at_) fun z116=>
         aw (aa 0 Try.f38) (ai N N.n) x1_n x4 x3 z116 y0 (aE y2 x3.at_ true) y1)
        (
         .bnd (ap y0.steps x3.at_) fun z117=>
         aw (aa 0 Try.f38) (ai N N.n) x1_n x4 x3 z117 y0 (aE y2 x3.at_ true) y1))
       (
        .bnd (ap y0.steps x3.at_) fun z118=>
        aw (aa 0 Try.f38) (ai N N.n) x1_n x4 x3 z118 y0 (aE y2 x3.at_ true) y1))
      (
       .bnd (ap y0.steps x3.at_) fun z119=>
       aw (aa 0 Try.f38) (ai N N.n) x1_n x4 x3 z119 y0 (aE y2 x3.at_ true) y1))
     (
      .bnd (ap y0.steps x3.at_) fun z120=>
      aw (aa 0 Try.f38) (ai N N.n) x1_n x4 x3 z120 y0 (aE y2 x3.at_ true) y1)))))) (by kernel_rfl) (by kernel_rfl) h (⟨be (enc:=eZ) rfl,⟨fun _ _ h=>Eq.trans (by kernel_rfl) h,⟨fun _ _ h=>Eq.trans (by kernel_rfl) h,⟨fun _ _ h=>Eq.trans (by kernel_rfl) h,⟨fun _ _ h=>Eq.trans (by kernel_rfl) h,⟨fun _ _ h=>Eq.trans (by kernel_rfl) h,⟨fun _ _ h=>Eq.trans (by kernel_rfl) h,⟨fun _ _ h=>Eq.trans (by kernel_rfl) h,fun _=>⟨fun _ _ h=>Eq.trans (by kernel_rfl) h,fun h=>au N.n _ _ _ _ _ _ _ h,fun h=>au N.n _ _ _ _ _ _ _ h⟩,fun _=>fun h=>au N.n _ _ _ _ _ _ _ h⟩,fun _=>fun h=>au N.n _ _ _ _ _ _ _ h⟩,fun _=>fun h=>au N.n _ _ _ _ _ _ _ h⟩,⟨fun _ _ h=>Eq.trans (by kernel_rfl) h,⟨fun _ _ h=>Eq.trans (by kernel_rfl) h,⟨fun _ _ h=>Eq.trans (by kernel_rfl) h,⟨fun _ _ h=>Eq.trans (by kernel_rfl) h,fun _=>⟨fun _ _ h=>Eq.trans (by kernel_rfl) h,fun h=>au N.n _ _ _ _ _ _ _ h,fun h=>au N.n _ _ _ _ _ _ _ h⟩,fun _=>fun h=>au N.n _ _ _ _ _ _ _ h⟩,fun _=>fun h=>au N.n _ _ _ _ _ _ _ h⟩,⟨fun _ _ h=>Eq.trans (by kernel_rfl) h,⟨fun _ _ h=>Eq.trans (by kernel_rfl) h,⟨fun _ _ h=>Eq.trans (by kernel_rfl) h,fun _=>⟨fun _ _ h=>Eq.trans (by kernel_rfl) h,fun h=>au N.n _ _ _ _ _ _ _ h,fun h=>au N.n _ _ _ _ _ _ _ h⟩,fun _=>fun h=>au N.n _ _ _ _ _ _ _ h⟩,fun _=>fun h=>au N.n _ _ _ _ _ _ _ h⟩,⟨fun _ _ h=>Eq.trans (by kernel_rfl) h,fun _=>fun h=>au N.n _ _ _ _ _ _ _ h,fun _=>fun h=>au N.n _ _ _ _ _ _ _ h⟩⟩⟩,⟨fun _ _ h=>Eq.trans (by kernel_rfl) h,fun _=>fun h=>au N.n _ _ _ _ _ _ _ h,⟨fun _ _ h=>Eq.trans (by kernel_rfl) h,fun _=>fun h=>au N.n _ _ _ _ _ _ _ h,fun _=>fun h=>au N.n _ _ _ _ _ _ _ h⟩⟩⟩⟩,⟨fun _ _ h=>Eq.trans (by kernel_rfl) h,⟨fun _ _ h=>Eq.trans (by kernel_rfl) h,⟨fun _ _ h=>Eq.trans (by kernel_rfl) h,⟨fun _ _ h=>Eq.trans (by kernel_rfl) h,⟨fun _ _ h=>Eq.trans (by kernel_rfl) h,fun _=>⟨fun _ _ h=>Eq.trans (by kernel_rfl) h,fun h=>au N.n _ _ _ _ _ _ _ h,fun h=>au N.n _ _ _ _ _ _ _ h⟩,fun _=>fun h=>au N.n _ _ _ _ _ _ _ h⟩,fun _=>fun h=>au N.n _ _ _ _ _ _ _ h⟩,⟨fun _ _ h=>Eq.trans (by kernel_rfl) h,⟨fun _ _ h=>Eq.trans (by kernel_rfl) h,⟨fun _ _ h=>Eq.trans (by kernel_rfl) h,fun _=>⟨fun _ _ h=>Eq.trans (by kernel_rfl) h,fun h=>au N.n _ _ _ _ _ _ _ h,fun h=>au N.n _ _ _ _ _ _ _ h⟩,fun _=>fun h=>au N.n _ _ _ _ _ _ _ h⟩,fun _=>fun h=>au N.n _ _ _ _ _ _ _ h⟩,⟨fun _ _ h=>Eq.trans (by kernel_rfl) h,fun _=>fun h=>au N.n _ _ _ _ _ _ _ h,fun _=>fun h=>au N.n _ _ _ _ _ _ _ h⟩⟩⟩,⟨fun _ _ h=>Eq.trans (by kernel_rfl) h,⟨fun _ _ h=>Eq.trans (by kernel_rfl) h,⟨fun _ _ h=>Eq.trans (by kernel_rfl) h,⟨fun _ _ h=>Eq.trans (by kernel_rfl) h,fun _=>⟨fun _ _ h=>Eq.trans (by kernel_rfl) h,fun h=>au N.n _ _ _ _ _ _ _ h,fun h=>au N.n _ _ _ _ _ _ _ h⟩,fun _=>fun h=>au N.n _ _ _ _ _ _ _ h⟩,fun _=>fun h=>au N.n _ _ _ _ _ _ _ h⟩,fun _=>fun h=>au N.n _ _ _ _ _ _ _ h⟩,⟨fun _ _ h=>Eq.trans (by kernel_rfl) h,⟨fun _ _ h=>Eq.trans (by kernel_rfl) h,fun _=>fun h=>au N.n _ _ _ _ _ _ _ h,fun _=>fun h=>au N.n _ _ _ _ _ _ _ h⟩,fun _=>fun h=>au N.n _ _ _ _ _ _ _ h⟩⟩⟩,⟨fun _ _ h=>Eq.trans (by kernel_rfl) h,⟨fun _ _ h=>Eq.trans (by kernel_rfl) h,fun _=>fun h=>au N.n _ _ _ _ _ _ _ h,⟨fun _ _ h=>Eq.trans (by kernel_rfl) h,fun _=>fun h=>au N.n _ _ _ _ _ _ _ h,fun _=>fun h=>au N.n _ _ _ _ _ _ _ h⟩⟩,⟨fun _ _ h=>Eq.trans (by kernel_rfl) h,⟨fun _ _ h=>Eq.trans (by kernel_rfl) h,fun _=>fun h=>au N.n _ _ _ _ _ _ _ h,fun _=>fun h=>au N.n _ _ _ _ _ _ _ h⟩,fun _=>fun h=>au N.n _ _ _ _ _ _ _ h⟩⟩⟩⟩,⟨fun _ _ h=>Eq.trans (by kernel_rfl) h,⟨fun _ _ h=>Eq.trans (by kernel_rfl) h,⟨fun _ _ h=>Eq.trans (by kernel_rfl) h,⟨fun _ _ h=>Eq.trans (by kernel_rfl) h,⟨fun _ _ h=>Eq.trans (by kernel_rfl) h,⟨fun _ _ h=>Eq.trans (by kernel_rfl) h,fun _=>⟨fun _ _ h=>Eq.trans (by kernel_rfl) h,fun h=>au N.n _ _ _ _ _ _ _ h,fun h=>au N.n _ _ _ _ _ _ _ h⟩,fun _=>fun h=>au N.n _ _ _ _ _ _ _ h⟩,fun _=>fun h=>au N.n _ _ _ _ _ _ _ h⟩,⟨fun _ _ h=>Eq.trans (by kernel_rfl) h,⟨fun _ _ h=>Eq.trans (by kernel_rfl) h,⟨fun _ _ h=>Eq.trans (by kernel_rfl) h,fun _=>⟨fun _ _ h=>Eq.trans (by kernel_rfl) h,fun h=>au N.n _ _ _ _ _ _ _ h,fun h=>au N.n _ _ _ _ _ _ _ h⟩,fun _=>fun h=>au N.n _ _ _ _ _ _ _ h⟩,fun _=>fun h=>au N.n _ _ _ _ _ _ _ h⟩,⟨fun _ _ h=>Eq.trans (by kernel_rfl) h,fun _=>fun h=>au N.n _ _ _ _ _ _ _ h,fun _=>fun h=>au N.n _ _ _ _ _ _ _ h⟩⟩⟩,⟨fun _ _ h=>Eq.trans (by kernel_rfl) h,⟨fun _ _ h=>Eq.trans (by kernel_rfl) h,⟨fun _ _ h=>Eq.trans (by kernel_rfl) h,⟨fun _ _ h=>Eq.trans (by kernel_rfl) h,fun _=>⟨fun _ _ h=>Eq.trans (by kernel_rfl) h,fun h=>au N.n _ _ _ _ _ _ _ h,fun h=>au N.n _ _ _ _ _ _ _ h⟩,fun _=>fun h=>au N.n _ _ _ _ _ _ _ h⟩,fun _=>fun h=>au N.n _ _ _ _ _ _ _ h⟩,fun _=>fun h=>au N.n _ _ _ _ _ _ _ h⟩,⟨fun _ _ h=>Eq.trans (by kernel_rfl) h,⟨fun _ _ h=>Eq.trans (by kernel_rfl) h,fun _=>fun h=>au N.n _ _ _ _ _ _ _ h,fun _=>fun h=>au N.n _ _ _ _ _ _ _ h⟩,fun _=>fun h=>au N.n _ _ _ _ _ _ _ h⟩⟩⟩,⟨fun _ _ h=>Eq.trans (by kernel_rfl) h,⟨fun _ _ h=>Eq.trans (by kernel_rfl) h,⟨fun _ _ h=>Eq.trans (by kernel_rfl) h,⟨fun _ _ h=>Eq.trans (by kernel_rfl) h,⟨fun _ _ h=>Eq.trans (by kernel_rfl) h,fun _=>⟨fun _ _ h=>Eq.trans (by kernel_rfl) h,fun h=>au N.n _ _ _ _ _ _ _ h,fun h=>au N.n _ _ _ _ _ _ _ h⟩,fun _=>fun h=>au N.n _ _ _ _ _ _ _ h⟩,fun _=>fun h=>au N.n _ _ _ _ _ _ _ h⟩,fun _=>fun h=>au N.n _ _ _ _ _ _ _ h⟩,fun _=>fun h=>au N.n _ _ _ _ _ _ _ h⟩,⟨fun _ _ h=>Eq.trans (by kernel_rfl) h,⟨fun _ _ h=>Eq.trans (by kernel_rfl) h,⟨fun _ _ h=>Eq.trans (by kernel_rfl) h,fun _=>fun h=>au N.n _ _ _ _ _ _ _ h,fun _=>fun h=>au N.n _ _ _ _ _ _ _ h⟩,fun _=>fun h=>au N.n _ _ _ _ _ _ _ h⟩,fun _=>fun h=>au N.n _ _ _ _ _ _ _ h⟩⟩⟩,⟨fun _ _ h=>Eq.trans (by kernel_rfl) h,⟨fun _ _ h=>Eq.trans (by kernel_rfl) h,⟨fun _ _ h=>Eq.trans (by kernel_rfl) h,fun _=>fun h=>au N.n _ _ _ _ _ _ _ h,⟨fun _ _ h=>Eq.trans (by kernel_rfl) h,fun _=>fun h=>au N.n _ _ _ _ _ _ _ h,fun _=>fun h=>au N.n _ _ _ _ _ _ _ h⟩⟩,⟨fun _ _ h=>Eq.trans (by kernel_rfl) h,⟨fun _ _ h=>Eq.trans (by kernel_rfl) h,fun _=>fun h=>au N.n _ _ _ _ _ _ _ h,fun _=>fun h=>au N.n _ _ _ _ _ _ _ h⟩,fun _=>fun h=>au N.n _ _ _ _ _ _ _ h⟩⟩,⟨fun _ _ h=>Eq.trans (by kernel_rfl) h,⟨fun _ _ h=>Eq.trans (by kernel_rfl) h,⟨fun _ _ h=>Eq.trans (by kernel_rfl) h,fun _=>fun h=>au N.n _ _ _ _ _ _ _ h,fun _=>fun h=>au N.n _ _ _ _ _ _ _ h⟩,fun _=>fun h=>au N.n _ _ _ _ _ _ _ h⟩,fun _=>fun h=>au N.n _ _ _ _ _ _ _ h⟩⟩⟩⟩,⟨fun _ _ h=>Eq.trans (by kernel_rfl) h,⟨fun _ _ h=>Eq.trans (by kernel_rfl) h,⟨fun _ _ h=>Eq.trans (by kernel_rfl) h,⟨fun _ _ h=>Eq.trans (by kernel_rfl) h,⟨fun _ _ h=>Eq.trans (by kernel_rfl) h,⟨fun _ _ h=>Eq.trans (by kernel_rfl) h,⟨fun _ _ h=>Eq.trans (by kernel_rfl) h,fun _=>⟨fun _ _ h=>Eq.trans (by kernel_rfl) h,fun h=>au N.n _ _ _ _ _ _ _ h,fun h=>au N.n _ _ _ _ _ _ _ h⟩,fun _=>fun h=>au N.n _ _ _ _ _ _ _ h⟩,fun _=>fun h=>au N.n _ _ _ _ _ _ _ h⟩,⟨fun _ _ h=>Eq.trans (by kernel_rfl) h,⟨fun _ _ h=>Eq.trans (by kernel_rfl) h,⟨fun _ _ h=>Eq.trans (by kernel_rfl) h,fun _=>⟨fun _ _ h=>Eq.trans (by kernel_rfl) h,fun h=>au N.n _ _ _ _ _ _ _ h,fun h=>au N.n _ _ _ _ _ _ _ h⟩,fun _=>fun h=>au N.n _ _ _ _ _ _ _ h⟩,fun _=>fun h=>au N.n _ _ _ _ _ _ _ h⟩,⟨fun _ _ h=>Eq.trans (by kernel_rfl) h,fun _=>fun h=>au N.n _ _ _ _ _ _ _ h,fun _=>fun h=>au N.n _ _ _ _ _ _ _ h⟩⟩⟩,⟨fun _ _ h=>Eq.trans (by kernel_rfl) h,⟨fun _ _ h=>Eq.trans (by kernel_rfl) h,⟨fun _ _ h=>Eq.trans (by kernel_rfl) h,⟨fun _ _ h=>Eq.trans (by kernel_rfl) h,fun _=>⟨fun _ _ h=>Eq.trans (by kernel_rfl) h,fun h=>au N.n _ _ _ _ _ _ _ h,fun h=>au N.n _ _ _ _ _ _ _ h⟩,fun _=>fun h=>au N.n _ _ _ _ _ _ _ h⟩,fun _=>fun h=>au N.n _ _ _ _ _ _ _ h⟩,fun _=>fun h=>au N.n _ _ _ _ _ _ _ h⟩,⟨fun _ _ h=>Eq.trans (by kernel_rfl) h,⟨fun _ _ h=>Eq.trans (by kernel_rfl) h,fun _=>fun h=>au N.n _ _ _ _ _ _ _ h,fun _=>fun h=>au N.n _ _ _ _ _ _ _ h⟩,fun _=>fun h=>au N.n _ _ _ _ _ _ _ h⟩⟩⟩,⟨fun _ _ h=>Eq.trans (by kernel_rfl) h,⟨fun _ _ h=>Eq.trans (by kernel_rfl) h,⟨fun _ _ h=>Eq.trans (by kernel_rfl) h,⟨fun _ _ h=>Eq.trans (by kernel_rfl) h,⟨fun _ _ h=>Eq.trans (by kernel_rfl) h,fun _=>⟨fun _ _ h=>Eq.trans (by kernel_rfl) h,fun h=>au N.n _ _ _ _ _ _ _ h,fun h=>au N.n _ _ _ _ _ _ _ h⟩,fun _=>fun h=>au N.n _ _ _ _ _ _ _ h⟩,fun _=>fun h=>au N.n _ _ _ _ _ _ _ h⟩,fun _=>fun h=>au N.n _ _ _ _ _ _ _ h⟩,fun _=>fun h=>au N.n _ _ _ _ _ _ _ h⟩,⟨fun _ _ h=>Eq.trans (by kernel_rfl) h,⟨fun _ _ h=>Eq.trans (by kernel_rfl) h,⟨fun _ _ h=>Eq.trans (by kernel_rfl) h,fun _=>fun h=>au N.n _ _ _ _ _ _ _ h,fun _=>fun h=>au N.n _ _ _ _ _ _ _ h⟩,fun _=>fun h=>au N.n _ _ _ _ _ _ _ h⟩,fun _=>fun h=>au N.n _ _ _ _ _ _ _ h⟩⟩⟩,⟨fun _ _ h=>Eq.trans (by kernel_rfl) h,⟨fun _ _ h=>Eq.trans (by kernel_rfl) h,⟨fun _ _ h=>Eq.trans (by kernel_rfl) h,⟨fun _ _ h=>Eq.trans (by kernel_rfl) h,⟨fun _ _ h=>Eq.trans (by kernel_rfl) h,⟨fun _ _ h=>Eq.trans (by kernel_rfl) h,fun _=>⟨fun _ _ h=>Eq.trans (by kernel_rfl) h,fun h=>au N.n _ _ _ _ _ _ _ h,fun h=>au N.n _ _ _ _ _ _ _ h⟩,fun _=>fun h=>au N.n _ _ _ _ _ _ _ h⟩,fun _=>fun h=>au N.n _ _ _ _ _ _ _ h⟩,fun _=>fun h=>au N.n _ _ _ _ _ _ _ h⟩,fun _=>fun h=>au N.n _ _ _ _ _ _ _ h⟩,fun _=>fun h=>au N.n _ _ _ _ _ _ _ h⟩,⟨fun _ _ h=>Eq.trans (by kernel_rfl) h,⟨fun _ _ h=>Eq.trans (by kernel_rfl) h,⟨fun _ _ h=>Eq.trans (by kernel_rfl) h,⟨fun _ _ h=>Eq.trans (by kernel_rfl) h,fun _=>fun h=>au N.n _ _ _ _ _ _ _ h,fun _=>fun h=>au N.n _ _ _ _ _ _ _ h⟩,fun _=>fun h=>au N.n _ _ _ _ _ _ _ h⟩,fun _=>fun h=>au N.n _ _ _ _ _ _ _ h⟩,fun _=>fun h=>au N.n _ _ _ _ _ _ _ h⟩⟩⟩,⟨fun _ _ h=>Eq.trans (by kernel_rfl) h,⟨fun _ _ h=>Eq.trans (by kernel_rfl) h,⟨fun _ _ h=>Eq.trans (by kernel_rfl) h,⟨fun _ _ h=>Eq.trans (by kernel_rfl) h,fun _=>fun h=>au N.n _ _ _ _ _ _ _ h,⟨fun _ _ h=>Eq.trans (by kernel_rfl) h,fun _=>fun h=>au N.n _ _ _ _ _ _ _ h,fun _=>fun h=>au N.n _ _ _ _ _ _ _ h⟩⟩,⟨fun _ _ h=>Eq.trans (by kernel_rfl) h,⟨fun _ _ h=>Eq.trans (by kernel_rfl) h,fun _=>fun h=>au N.n _ _ _ _ _ _ _ h,fun _=>fun h=>au N.n _ _ _ _ _ _ _ h⟩,fun _=>fun h=>au N.n _ _ _ _ _ _ _ h⟩⟩,⟨fun _ _ h=>Eq.trans (by kernel_rfl) h,⟨fun _ _ h=>Eq.trans (by kernel_rfl) h,⟨fun _ _ h=>Eq.trans (by kernel_rfl) h,fun _=>fun h=>au N.n _ _ _ _ _ _ _ h,fun _=>fun h=>au N.n _ _ _ _ _ _ _ h⟩,fun _=>fun h=>au N.n _ _ _ _ _ _ _ h⟩,fun _=>fun h=>au N.n _ _ _ _ _ _ _ h⟩⟩,⟨fun _ _ h=>Eq.trans (by kernel_rfl) h,⟨fun _ _ h=>Eq.trans (by kernel_rfl) h,⟨fun _ _ h=>Eq.trans (by kernel_rfl) h,⟨fun _ _ h=>Eq.trans (by kernel_rfl) h,fun _=>fun h=>au N.n _ _ _ _ _ _ _ h,fun _=>fun h=>au N.n _ _ _ _ _ _ _ h⟩,fun _=>fun h=>au N.n _ _ _ _ _ _ _ h⟩,fun _=>fun h=>au N.n _ _ _ _ _ _ _ h⟩,fun _=>fun h=>au N.n _ _ _ _ _ _ _ h⟩⟩⟩⟩⟩)
def Dq(x1_n:Nat)(x3:Vthread)(x4:Int)(y0:VMask)(y1:List Vthread)(y2:List (Int × Bool)):List (TV EE.T):=[.a (.box 100000 0),.a (.vec (.nam 10) 200001 x1_n),.a (.mpr 100002),.ag (eK EE (.nam 10) x3),.a (.d (.int .i64) x4)]
def xz(x1_n:Nat)(x3:Vthread)(x4:Int)(y0:VMask)(y1:List Vthread)(y2:List (Int × Bool)):List (Nat × TB EE.T):=[(100000,.cs (eK EE (.nam 8) y0)),(200001,.vec 200001 (.nam 10) y1),(100002,.imap .bool y2)]
theorem ot{N:RecC2}(hN:qY N)(x1_n:Nat)(x3:Vthread)(x4:Int)(y0:VMask)(y1:List Vthread)(y2:List (Int × Bool)){r:PR bm}(h:gd N x1_n x3 x4 y0 y1 y2=some r)(ρ:Rn)(hi:Inj ρ (xz x1_n x3 x4 y0 y1 y2)):aT Try.prog 38 ((Dq x1_n x3 x4 y0 y1 y2).map (TV.to EE.toEnc ρ)) (hTo EE.toEnc ρ (xz x1_n x3 x4 y0 y1 y2)) (cS EE ρ fun u=>u=eZ r):=
 fA (aa 0 Try.f38) 89 mixed (IL N hN) Try.func38 (by kernel_rfl) rfl rfl rfl rfl (Ia x1_n x3 x4 y0 y1 y2 h) ρ hi
def o5(N:RecC2)(us:List (TV EE.T))(hs:List (Nat × TB EE.T)):XR EE.T:=
 gdX (fU us 5) <|
 bnX (aB us 0) fun i0=>
 bnX (aVi (.nam 10) us 1) fun i1=>
 bnX (aVn (.nam 10) us 1) fun x1_n=>
 bnX (aM us 2) fun i2=>
 bnX (aS EE 10 us 3) fun x3=>
 bnX (aD (.int .i64) us 4) fun x4=>
 bnX (bS EE 8 hs i0) fun y0=>
 bnX (bV (.nam 10) hs i1) fun y1=>
 bnX (bI .bool hs i2) fun y2=>
 gdX (bX hs [i0,i1,i2]) <|
 gdX (iw [i0,i1,i2]) <|
 .mv (gd N x1_n x3 x4 y0 y1 y2) [i0,i1,i2] (mvL [i0,i1,i2] [100000,200001,100002]) 0 (fq i0 i1 i2) (sJ i0 i1 i2)
theorem nc(N:RecC2)(hN:qY N):XOk Try.prog EE 38 (o5 N):=fun us hs=>
 a8 fun h1=>aA fun i0 h2=>aA fun i1 h3=>aA fun x1_n h4=>aA fun i2 h5=>aA fun x3 h6=>aA fun x4 h7=>aA fun y0 h8=>aA fun y1 h9=>aA fun y2 h10=>a8 fun h11=>a8 fun h12=>fun p hz ρ hi=>gm (ex:=[]) (ks:=[100000,200001,100002]) (us':=Dq x1_n x3 x4 y0 y1 y2) (h0:=xz x1_n x3 x4 y0 y1 y2) (ρ':=mT ρ [i0,i1,i2]) (uc:=fq 100000 200001 100002) (u:=fq i0 i1 i2) (hc:=sJ 100000 200001 100002) (h:=sJ i0 i1 i2) hi h11 (by kernel_rfl) ⟨jf h2 (by kernel_rfl),LI h3 h4 (by kernel_rfl),K7 h5 (by kernel_rfl),F4 h6,mo h7,cf h1⟩ ⟨(by kernel_rfl),GU h8,(by kernel_rfl),kc h9 (by kernel_rfl),(by kernel_rfl),KY h10,trivial⟩ ⟨.inr rfl,.inl rfl,.inr rfl,trivial⟩ h12 (fun hj=>ot hN x1_n x3 x4 y0 y1 y2 hz _ hj) (fun z=>⟨by kernel_rfl,by kernel_rfl,by kernel_rfl,by kernel_rfl⟩)
theorem kq(n0:Nat):∀m,qY ⟨n0,fF n0 m⟩
 |0=>Er n0
 |m+1=>nc ⟨n0,fF n0 m⟩ (kq n0 m)
def ip(N:Nat):List (TV EE.T)→List (Nat × TB EE.T)→XR EE.T:=fO ⟨N,fF N N⟩
theorem je(N:Nat):XOk Try.prog EE 38 (ip N):=kq N N
end Go.Proofs.Ytlhjbhgkhpbnfaa
