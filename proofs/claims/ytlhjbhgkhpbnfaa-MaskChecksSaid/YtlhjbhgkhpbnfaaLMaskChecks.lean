/- It is proved that the law MaskChecks returns true, whatever text it is handed; there is no condition. -/
import Derived.Test.YtlhjbhgkhpbnfaaBk08
namespace Go.Proofs.Ytlhjbhgkhpbnfaa
open Go.ChangeShapes Go.WideShapes Go.ChangeAt Go.RowKit Go.ChangeMaps P
set_option linter.unusedSimpArgs false
set_option linter.unusedVariables false
set_option maxRecDepth 1000000 in
theorem begun_c:fT 3000=some true:=by kernel_rfl
theorem maskChecks_ev(m:List UInt8):iZ 3000 m=some (.ok true):=by
 unfold iZ
 rw[Hu,begun_c]
 unfold je
 rw[I5]
 cases h:rdM m with
 |error q=>
  dsimp only
  rw[if_neg (Ov h),Option.bind_some,Option.bind_some]
  dsimp only
  rw[Option.bind_some,cond_true]
  simp[CV]
 |ok p=>
  obtain⟨x,g⟩:=p
  dsimp only
  rw[Option.bind_some,Option.bind_some]
  dsimp only
  rw[Option.bind_some,cond_true]
  simp[CV]
theorem small_reach{n:Nat}(h:n≤reachBytes):Fr n:=h
theorem maskChecks_walk(x:ByteArray)(w:World):Calls Try.prog 8 #[.string x] w fun e w'=>e=.returned (.bool true)∧Below w.heap.size w w':=by
 have e:∀s:ByteArray,mkB s.data.toList=s:=fun s=>rfl
 have h:=rE x.data.toList (maskChecks_ev x.data.toList) Rn.zero (fun p hp=>nomatch hp)
 refine uv (vs:=[.string x]) (us:=[.v (.string (mkB x.data.toList))]) h rfl fun i u v hu hv=> ?_
 match i,hu,hv with
 |0,hu,hv=>rw[e] at hu;simp at hu hv;subst hu hv;exact⟨.v _,rfl⟩
 |i+1,hu,hv=>simp at hu
set_option maxRecDepth 100000 in
theorem maskChecks_lifted(os:Os)(started:os.Started)(H:Type)(enc:TypeId × Value→H):
  ReturnsInHanded {} Try.checked os 8 .any (Rows.maskChecksSpec.pre6 enc Try.prog Try.f8 Rows.maskChecksRow.domain false) (Rows.maskChecksSpec.post enc Try.prog Try.f8 false true false false):=by
 refine returnsInHanded_of_change_sized (C:=Try.checked) Try.own started (by kernel_rfl) Try.func8
  (ChangeSpec.witness6 (enc:=enc) (C:=Try.checked) false ⟨#[],#[.string ⟨#[]⟩],[]⟩ 8 (by kernel_rfl) (by kernel_rfl) (by kernel_rfl) (by kernel_rfl)) ?_
 intro W base args ds gs before hval0 hW _ hsz0 _
 have hsz:(DataW.weightsEach Try.prog (Try.f8.params.toList++Rows.maskChecksSpec.plain.varTypes Try.prog) (ds++gs)).all (· ≤reachBytes)=true:=hsz0
 have hval:∀ (j:Nat) t v,Try.f8.params[j]? =some t→args[j]? =some v→Value.okWide Try.prog W .any base t v:=hval0
 have hW':=hW
 obtain⟨p,q,hA0,hV,rfl,_,_⟩:=hW
 have hA:DataW.TrodAll enc Try.prog W 0 (fun _=>true) true Try.f8.params.toList args.toList ds p:=hA0
 clear hsz0 hval0 hA0
 rw[Try.params8] at hA hval hsz
 obtain⟨v0,vs0,d0,ds0,p0,q0,hargs,rfl,rfl,h0,rr0⟩:=trodAll_cons hA
 obtain⟨rfl,rfl,rfl⟩:=trodAll_nil rr0
 obtain rfl:args= #[v0] :=by cases args;simp_all
 obtain⟨rfl,rfl⟩:=trodVars_none hV
 have w0:∀n∈d0.weights Try.prog 9,n≤reachBytes:=fun n hn=>of_decide_eq_true (List.all_eq_true.1 hsz n (DataW.weights_mem_each (j:=0) rfl rfl n hn))
 simp only[List.append_nil] at hW'
 have hlt:=hW'.lt
 have hl0:∀x∈p0,x.block < W.heap.size:=fun x hx=>by first|exact hlt x hx| (refine hlt x ?_;simp[hx])
 have k0:∀W',Below W.heap.size W W'→DataW.Trod enc Try.prog W' 0 (fun b=>decide (b < W.heap.size)) true 9 v0 d0 p0:=fun W' hb=>Below.trod Try.laidOut (by kernel_rfl) (of_decide_eq_true (by kernel_rfl)) h0 hb hl0
 obtain⟨a0,rfl,rfl,rfl,x0⟩:=open_string Try.underlying9 (hval 0 9 v0 rfl rfl) h0
 have a0w:Fr a0.size:=by rw[← F5];exact small_reach (w0 _ (by simp[DataW.weights]))
 refine(maskChecks_walk a0 W).mono fun e W' ⟨he,hb⟩=> ?_
 subst he
 exact⟨_,rfl,_,_,_,[],_,[],hW',trodAll_cons_mk (shut_bool Try.underlying4 _) trodAll_mk0,(trodAll_cons_mk (k0 _ hb) trodAll_mk0),rfl,hb.frame _,fun h=>by cases h⟩
theorem maskChecks_holds:Rows.MaskChecksSaid:=
 OpenClaim.holds_of_wide 8 Try.f8 rfl rfl rfl rfl rfl rfl rfl ⟨rfl,rfl,rfl,rfl,rfl⟩ rfl rfl rfl rfl rfl (by kernel_rfl) Try.func8 (by kernel_rfl)
  (of_decide_eq_true (by kernel_rfl)) (by unfold Func.isWrapper;first| (rw[if_pos (by decide+kernel)];kernel_rfl)| (rw[if_neg (by decide+kernel)];exact⟨rfl,rfl⟩))
  (fun os started H enc _=>maskChecks_lifted os started H enc)
#print axioms maskChecks_holds
end Go.Proofs.Ytlhjbhgkhpbnfaa
