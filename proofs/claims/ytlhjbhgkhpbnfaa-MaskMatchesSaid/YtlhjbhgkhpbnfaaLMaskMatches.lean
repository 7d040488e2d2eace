/- It is proved that the law MaskMatches returns true, whatever mask and text it is handed; there is no condition. -/
import Derived.Test.YtlhjbhgkhpbnfaaCk09
namespace Go.Proofs.Ytlhjbhgkhpbnfaa
open Go.ChangeShapes Go.WideShapes Go.ChangeAt Go.RowKit Go.ChangeMaps P
set_option linter.unusedSimpArgs false
set_option linter.unusedVariables false
variable {MM:Nat}
set_option maxRecDepth 1000000 in
theorem begun_m:fJ (MM+3000)=some true:=by kernel_rfl
theorem ansR_len(G:Nat)(tx:List UInt8)(o:Option (List Int))(hG:G≤9):(R8 G tx o).2.length≤1000:=by
 cases o with
 |none=>exact Nat.zero_le _
 |some sl=>show((List.range G).map _).length≤1000;simp;omega
theorem maskMatches_ev(m tx:List UInt8)(hMM:400000≤MM):jc (MM+3000) m tx=some (.ok true):=by
 unfold jc
 rw[KF]
 cases h:rdM m with
 |error q=>
  have hq:=IH h
  rw[Ip h tx,Option.bind_some,Option.bind_some]
  dsimp only
  rw[beq_eq_false_iff_ne.2 hq,cond_false]
  unfold cR dl
  rw[begun_m,Option.bind_some,Bool.not_true,cond_false]
  have h1:(q.1 != q.1)=false:=by simp
  have h2:(q.1 != 0)=true:=by rw[bne,beq_eq_false_iff_ne.2 hq];rfl
  rw[h1,cond_false,h2,cond_true,Option.bind_some,cond_true]
  simp
 |ok p=>
  obtain⟨x,g⟩:=p
  obtain⟨k1,k2,k3,k4,k5⟩:=RN (MM:=MM) h tx
  rw[k5]
  by_cases ht:2000 < tx.length
  ·rw[if_pos ht,Option.bind_some,Option.bind_some]
   dsimp only
   rw[show((0:Int)==0)=true from rfl,cond_true,decide_eq_true (by omega),cond_true]
   unfold cR dl
   rw[begun_m,Option.bind_some,Bool.not_true,cond_false]
   rfl
  ·rw[if_neg ht,Option.bind_some,Option.bind_some]
   dsimp only
   rw[show((0:Int)==0)=true from rfl,cond_true,decide_eq_false (by omega),cond_false]
   unfold cR
   rw[begun_m,Option.bind_some,Bool.not_true,cond_false,show((0:Int) != 0)=false from rfl,cond_false,cond_false,Qj k2 k1 k3 k4 (by omega) hMM,Option.bind_some]
   dsimp only
   rw[show ∀b:Bool,(b==b)=true from fun b=>by cases b<;> rfl,cond_true,Sc _ (ansR_len _ _ _ k4),Option.bind_some]
theorem small_reach{n:Nat}(h:n≤reachBytes):OS n:=h
theorem maskMatches_walk(x y:ByteArray)(w:World):Calls Try.prog 3 #[.string x,.string y] w fun e w'=>e=.returned (.bool true)∧Below w.heap.size w w':=by
 have e:∀s:ByteArray,mkB s.data.toList=s:=fun s=>rfl
 have h:=te x.data.toList y.data.toList (maskMatches_ev (MM:=400000) x.data.toList y.data.toList (Nat.le_refl _)) Rn.zero (fun p hp=>nomatch hp)
 refine wS (vs:=[.string x,.string y]) (us:=[.v (.string (mkB x.data.toList)),.v (.string (mkB y.data.toList))]) h rfl fun i u v hu hv=> ?_
 match i,hu,hv with
 |0,hu,hv=>rw[e] at hu;simp at hu hv;subst hu hv;exact⟨.v _,rfl⟩
 |1,hu,hv=>rw[e,e] at hu;simp at hu hv;subst hu hv;exact⟨.v _,rfl⟩
 |i+2,hu,hv=>simp at hu
set_option maxRecDepth 100000 in
theorem maskMatches_lifted(os:Os)(started:os.Started)(H:Type)(enc:TypeId × Value→H):
  ReturnsInHanded {} Try.checked os 3 .any (Rows.maskMatchesSpec.pre6 enc Try.prog Try.f3 Rows.maskMatchesRow.domain false) (Rows.maskMatchesSpec.post enc Try.prog Try.f3 false true false false):=by
 refine returnsInHanded_of_change_sized (C:=Try.checked) Try.own started (by kernel_rfl) Try.func3
  (ChangeSpec.witness6 (enc:=enc) (C:=Try.checked) false ⟨#[],#[.string ⟨#[]⟩,.string ⟨#[]⟩],[]⟩ 8 (by kernel_rfl) (by kernel_rfl) (by kernel_rfl) (by kernel_rfl)) ?_
 intro W base args ds gs before hval0 hW _ hsz0 _
 have hsz:(DataW.weightsEach Try.prog (Try.f3.params.toList++Rows.maskMatchesSpec.plain.varTypes Try.prog) (ds++gs)).all (· ≤reachBytes)=true:=hsz0
 have hval:∀ (j:Nat) t v,Try.f3.params[j]? =some t→args[j]? =some v→Value.okWide Try.prog W .any base t v:=hval0
 have hW':=hW
 obtain⟨p,q,hA0,hV,rfl,_,_⟩:=hW
 have hA:DataW.TrodAll enc Try.prog W 0 (fun _=>true) true Try.f3.params.toList args.toList ds p:=hA0
 clear hsz0 hval0 hA0
 rw[Try.params3] at hA hval hsz
 obtain⟨v0,vs0,d0,ds0,p0,q0,hargs,rfl,rfl,h0,rr0⟩:=trodAll_cons hA
 obtain⟨v1,vs1,d1,ds1,p1,q1,rfl,rfl,rfl,h1,rr1⟩:=trodAll_cons rr0
 obtain⟨rfl,rfl,rfl⟩:=trodAll_nil rr1
 obtain rfl:args= #[v0,v1] :=by cases args;simp_all
 obtain⟨rfl,rfl⟩:=trodVars_none hV
 have w0:∀n∈d0.weights Try.prog 9,n≤reachBytes:=fun n hn=>of_decide_eq_true (List.all_eq_true.1 hsz n (DataW.weights_mem_each (j:=0) rfl rfl n hn))
 have w1:∀n∈d1.weights Try.prog 9,n≤reachBytes:=fun n hn=>of_decide_eq_true (List.all_eq_true.1 hsz n (DataW.weights_mem_each (j:=1) rfl rfl n hn))
 simp only[List.append_nil] at hW'
 have hlt:=hW'.lt
 have hl0:∀x∈p0,x.block < W.heap.size:=fun x hx=>by first|exact hlt x hx| (refine hlt x ?_;simp[hx])
 have k0:∀W',Below W.heap.size W W'→DataW.Trod enc Try.prog W' 0 (fun b=>decide (b < W.heap.size)) true 9 v0 d0 p0:=fun W' hb=>Below.trod Try.laidOut (by kernel_rfl) (of_decide_eq_true (by kernel_rfl)) h0 hb hl0
 have hl1:∀x∈p1,x.block < W.heap.size:=fun x hx=>by first|exact hlt x hx| (refine hlt x ?_;simp[hx])
 have k1:∀W',Below W.heap.size W W'→DataW.Trod enc Try.prog W' 0 (fun b=>decide (b < W.heap.size)) true 9 v1 d1 p1:=fun W' hb=>Below.trod Try.laidOut (by kernel_rfl) (of_decide_eq_true (by kernel_rfl)) h1 hb hl1
 obtain⟨a0,rfl,rfl,rfl,x0⟩:=open_string Try.underlying9 (hval 0 9 v0 rfl rfl) h0
 have a0w:OS a0.size:=by rw[← DN];exact small_reach (w0 _ (by simp[DataW.weights]))
 obtain⟨a1,rfl,rfl,rfl,x1⟩:=open_string Try.underlying9 (hval 1 9 v1 rfl rfl) h1
 have a1w:OS a1.size:=by rw[← DN];exact small_reach (w1 _ (by simp[DataW.weights]))
 refine(maskMatches_walk a0 a1 W).mono fun e W' ⟨he,hb⟩=> ?_
 subst he
 exact⟨_,rfl,_,_,_,[],_,[],hW',trodAll_cons_mk (shut_bool Try.underlying4 _) trodAll_mk0,(trodAll_cons_mk (k0 _ hb) (trodAll_cons_mk (k1 _ hb) trodAll_mk0)),rfl,hb.frame _,fun h=>by cases h⟩
theorem maskMatches_holds:Rows.MaskMatchesSaid:=
 OpenClaim.holds_of_wide 3 Try.f3 rfl rfl rfl rfl rfl rfl rfl ⟨rfl,rfl,rfl,rfl,rfl⟩ rfl rfl rfl rfl rfl (by kernel_rfl) Try.func3 (by kernel_rfl)
  (of_decide_eq_true (by kernel_rfl)) (by unfold Func.isWrapper;first| (rw[if_pos (by decide+kernel)];kernel_rfl)| (rw[if_neg (by decide+kernel)];exact⟨rfl,rfl⟩))
  (fun os started H enc _=>maskMatches_lifted os started H enc)
#print axioms maskMatches_holds
end Go.Proofs.Ytlhjbhgkhpbnfaa
