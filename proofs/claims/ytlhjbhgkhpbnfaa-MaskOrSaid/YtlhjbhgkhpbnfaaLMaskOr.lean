/- It is proved that the law MaskOr returns true, whatever masks and text it is handed; there is no condition. -/
import Derived.Test.YtlhjbhgkhpbnfaaBk08
namespace Go.Proofs.Ytlhjbhgkhpbnfaa
open Go.ChangeShapes Go.WideShapes Go.ChangeAt Go.RowKit Go.ChangeMaps P
set_option linter.unusedSimpArgs false
set_option linter.unusedVariables false
theorem small_reach{n:Nat}(h:n≤reachBytes):qk n:=h
theorem maskOr_walk(x y s:ByteArray)(w:World)(hx:qk x.size)(hy:qk y.size):Calls Try.prog 6 #[.string x,.string y,.string s] w fun e w'=>e=.returned (.bool true)∧Below w.heap.size w w':=by
 have e:∀s:ByteArray,mkB s.data.toList=s:=fun s=>rfl
 have hl:∀s:ByteArray,qk s.size→s.data.toList.length≤1000000000000000:=fun s h=>by
  have:s.data.toList.length=s.size:=by simp
  rw[this]
  exact Nat.le_trans h (by decide)
 have h:=vE x.data.toList y.data.toList s.data.toList (Es (hl x hx) (hl y hy)) Rn.zero
 refine sx (vs:=[.string x,.string y,.string s]) (us:=[.v (.string (mkB x.data.toList)),.v (.string (mkB y.data.toList)),.v (.string (mkB s.data.toList))]) h rfl fun i u v hu hv=> ?_
 match i,hu,hv with
 |0,hu,hv=>rw[e] at hu;simp at hu hv;subst hu hv;exact⟨.v _,rfl⟩
 |1,hu,hv=>rw[e,e] at hu;simp at hu hv;subst hu hv;exact⟨.v _,rfl⟩
 |2,hu,hv=>rw[e,e,e] at hu;simp at hu hv;subst hu hv;exact⟨.v _,rfl⟩
 |i+3,hu,hv=>simp at hu
set_option maxRecDepth 100000 in
theorem maskOr_lifted(os:Os)(started:os.Started)(H:Type)(enc:TypeId × Value→H):
  ReturnsInHanded {} Try.checked os 6 .any (Rows.maskOrSpec.pre6 enc Try.prog Try.f6 Rows.maskOrRow.domain false) (Rows.maskOrSpec.post enc Try.prog Try.f6 false true false false):=by
 refine returnsInHanded_of_change_sized (C:=Try.checked) Try.own started (by kernel_rfl) Try.func6
  (ChangeSpec.witness6 (enc:=enc) (C:=Try.checked) false ⟨#[],#[.string ⟨#[]⟩,.string ⟨#[]⟩,.string ⟨#[]⟩],[]⟩ 8 (by kernel_rfl) (by kernel_rfl) (by kernel_rfl) (by kernel_rfl)) ?_
 intro W base args ds gs before hval0 hW _ hsz0 _
 have hsz:(DataW.weightsEach Try.prog (Try.f6.params.toList++Rows.maskOrSpec.plain.varTypes Try.prog) (ds++gs)).all (· ≤reachBytes)=true:=hsz0
 have hval:∀ (j:Nat) t v,Try.f6.params[j]? =some t→args[j]? =some v→Value.okWide Try.prog W .any base t v:=hval0
 have hW':=hW
 obtain⟨p,q,hA0,hV,rfl,_,_⟩:=hW
 have hA:DataW.TrodAll enc Try.prog W 0 (fun _=>true) true Try.f6.params.toList args.toList ds p:=hA0
 clear hsz0 hval0 hA0
 rw[Try.params6] at hA hval hsz
 obtain⟨v0,vs0,d0,ds0,p0,q0,hargs,rfl,rfl,h0,rr0⟩:=trodAll_cons hA
 obtain⟨v1,vs1,d1,ds1,p1,q1,rfl,rfl,rfl,h1,rr1⟩:=trodAll_cons rr0
 obtain⟨v2,vs2,d2,ds2,p2,q2,rfl,rfl,rfl,h2,rr2⟩:=trodAll_cons rr1
 obtain⟨rfl,rfl,rfl⟩:=trodAll_nil rr2
 obtain rfl:args= #[v0,v1,v2] :=by cases args;simp_all
 obtain⟨rfl,rfl⟩:=trodVars_none hV
 have w0:∀n∈d0.weights Try.prog 9,n≤reachBytes:=fun n hn=>of_decide_eq_true (List.all_eq_true.1 hsz n (DataW.weights_mem_each (j:=0) rfl rfl n hn))
 have w1:∀n∈d1.weights Try.prog 9,n≤reachBytes:=fun n hn=>of_decide_eq_true (List.all_eq_true.1 hsz n (DataW.weights_mem_each (j:=1) rfl rfl n hn))
 have w2:∀n∈d2.weights Try.prog 9,n≤reachBytes:=fun n hn=>of_decide_eq_true (List.all_eq_true.1 hsz n (DataW.weights_mem_each (j:=2) rfl rfl n hn))
 simp only[List.append_nil] at hW'
 have hlt:=hW'.lt
 have hl0:∀x∈p0,x.block < W.heap.size:=fun x hx=>by first|exact hlt x hx| (refine hlt x ?_;simp[hx])
 have k0:∀W',Below W.heap.size W W'→DataW.Trod enc Try.prog W' 0 (fun b=>decide (b < W.heap.size)) true 9 v0 d0 p0:=fun W' hb=>Below.trod Try.laidOut (by kernel_rfl) (of_decide_eq_true (by kernel_rfl)) h0 hb hl0
 have hl1:∀x∈p1,x.block < W.heap.size:=fun x hx=>by first|exact hlt x hx| (refine hlt x ?_;simp[hx])
 have k1:∀W',Below W.heap.size W W'→DataW.Trod enc Try.prog W' 0 (fun b=>decide (b < W.heap.size)) true 9 v1 d1 p1:=fun W' hb=>Below.trod Try.laidOut (by kernel_rfl) (of_decide_eq_true (by kernel_rfl)) h1 hb hl1
 have hl2:∀x∈p2,x.block < W.heap.size:=fun x hx=>by first|exact hlt x hx| (refine hlt x ?_;simp[hx])
 have k2:∀W',Below W.heap.size W W'→DataW.Trod enc Try.prog W' 0 (fun b=>decide (b < W.heap.size)) true 9 v2 d2 p2:=fun W' hb=>Below.trod Try.laidOut (by kernel_rfl) (of_decide_eq_true (by kernel_rfl)) h2 hb hl2
 obtain⟨a0,rfl,rfl,rfl,x0⟩:=open_string Try.underlying9 (hval 0 9 v0 rfl rfl) h0
 have a0w:qk a0.size:=by rw[← s9];exact small_reach (w0 _ (by simp[DataW.weights]))
 obtain⟨a1,rfl,rfl,rfl,x1⟩:=open_string Try.underlying9 (hval 1 9 v1 rfl rfl) h1
 have a1w:qk a1.size:=by rw[← s9];exact small_reach (w1 _ (by simp[DataW.weights]))
 obtain⟨a2,rfl,rfl,rfl,x2⟩:=open_string Try.underlying9 (hval 2 9 v2 rfl rfl) h2
 have a2w:qk a2.size:=by rw[← s9];exact small_reach (w2 _ (by simp[DataW.weights]))
 refine(maskOr_walk a0 a1 a2 W a0w a1w).mono fun e W' ⟨he,hb⟩=> ?_
 subst he
 exact⟨_,rfl,_,_,_,[],_,[],hW',trodAll_cons_mk (shut_bool Try.underlying4 _) trodAll_mk0,(trodAll_cons_mk (k0 _ hb) (trodAll_cons_mk (k1 _ hb) (trodAll_cons_mk (k2 _ hb) trodAll_mk0))),rfl,hb.frame _,fun h=>by cases h⟩
theorem maskOr_holds:Rows.MaskOrSaid:=
 OpenClaim.holds_of_wide 6 Try.f6 rfl rfl rfl rfl rfl rfl rfl ⟨rfl,rfl,rfl,rfl,rfl⟩ rfl rfl rfl rfl rfl (by kernel_rfl) Try.func6 (by kernel_rfl)
  (of_decide_eq_true (by kernel_rfl)) (by unfold Func.isWrapper;first| (rw[if_pos (by decide+kernel)];kernel_rfl)| (rw[if_neg (by decide+kernel)];exact⟨rfl,rfl⟩))
  (fun os started H enc _=>maskOr_lifted os started H enc)
#print axioms maskOr_holds
end Go.Proofs.Ytlhjbhgkhpbnfaa
