/- It is proved that the law MaskPlain returns true and leaves its arguments as they read, whatever numbers it is handed; there is no condition. -/
import Derived.Test.YtlhjbhgkhpbnfaaBk08
namespace Go.Proofs.Ytlhjbhgkhpbnfaa
open Go.ChangeShapes Go.WideShapes Go.ChangeAt Go.RowKit Go.ChangeMaps P
set_option linter.unusedSimpArgs false
set_option linter.unusedVariables false
theorem i64_in{x:Int}(h:(Lit.int .i64 x).wf=true): -9223372036854775808≤x∧x≤9223372036854775807:=by
 simp [Lit.wf,IntKind.min,IntKind.max,IntKind.signed,IntKind.bits] at h
 exact⟨by omega,by omega⟩
theorem maskPlain_walk(x y:List Int)(hx:x.length≤reachBytes∧∀n∈x,(Lit.int .i64 n).wf=true)(hy:y.length≤reachBytes∧∀n∈y,(Lit.int .i64 n).wf=true)(v u:Value)(w:World)(hr:Rel (qy w) (.sl false 1 (x.map (fun n:Int=>[AV.v (.int .i64 n)]))) v)(hq:Rel (qy w) (.sl false 1 (y.map (fun n:Int=>[AV.v (.int .i64 n)]))) u):Calls Try.prog 5 #[v,u] w fun e w'=>e=.returned (.bool true)∧Below w.heap.size w w':=by
 have h:=qJ x y (xD (fun n hn=>i64_in (hx.2 n hn)) (fun n hn=>i64_in (hy.2 n hn))) Rn.zero
 refine rx (vs:=[v,u]) (us:=[.sl false 1 (x.map (fun n:Int=>[AV.v (.int .i64 n)])),.sl false 1 (y.map (fun n:Int=>[AV.v (.int .i64 n)]))]) h rfl fun i u x hu hx=> ?_
 match i,hu,hx with
 |0,hu,hx=>simp at hu hx;subst hu hx;exact⟨hr,rfl⟩
 |1,hu,hx=>simp at hu hx;subst hu hx;exact⟨hq,rfl⟩
 |i+2,hu,hx=>simp at hu
set_option maxRecDepth 100000 in
theorem maskPlain_lifted(os:Os)(started:os.Started)(H:Type)(enc:TypeId × Value→H):
  ReturnsInHanded {} Try.checked os 5 .any (Rows.maskPlainSpec.pre6 enc Try.prog Try.f5 Rows.maskPlainRow.domain false) (Rows.maskPlainSpec.post enc Try.prog Try.f5 false true false false):=by
 refine returnsInHanded_of_change_sized (C:=Try.checked) Try.own started (by kernel_rfl) Try.func5
  (ChangeSpec.witness6 (enc:=enc) (C:=Try.checked) false ⟨#[],#[.slice none 0 0,.slice none 0 0],[]⟩ 8 (by kernel_rfl) (by kernel_rfl) (by kernel_rfl) (by kernel_rfl)) ?_
 intro W base args ds gs before hval0 hW _ hsz0 _
 have hsz:(DataW.weightsEach Try.prog (Try.f5.params.toList++Rows.maskPlainSpec.plain.varTypes Try.prog) (ds++gs)).all (· ≤reachBytes)=true:=hsz0
 have hval:∀ (j:Nat) t v,Try.f5.params[j]? =some t→args[j]? =some v→Value.okWide Try.prog W .any base t v:=hval0
 have hW':=hW
 obtain⟨p,q,hA0,hV,rfl,_,_⟩:=hW
 have hA:DataW.TrodAll enc Try.prog W 0 (fun _=>true) true Try.f5.params.toList args.toList ds p:=hA0
 clear hsz0 hval0 hA0
 rw [Try.params5] at hA hval hsz
 obtain⟨v0,vs0,d0,ds0,p0,q0,hargs,rfl,rfl,h0,rr0⟩:=trodAll_cons hA
 obtain⟨v1,vs1,d1,ds1,p1,q1,rfl,rfl,rfl,h1,rr1⟩:=trodAll_cons rr0
 obtain⟨rfl,rfl,rfl⟩:=trodAll_nil rr1
 obtain rfl:args= #[v0,v1] :=by cases args;simp_all
 obtain⟨rfl,rfl⟩:=trodVars_none hV
 have w0:∀n∈d0.weights Try.prog 38,n≤reachBytes:=fun n hn=>of_decide_eq_true (List.all_eq_true.1 hsz n (DataW.weights_mem_each (j:=0) rfl rfl n hn))
 have w1:∀n∈d1.weights Try.prog 38,n≤reachBytes:=fun n hn=>of_decide_eq_true (List.all_eq_true.1 hsz n (DataW.weights_mem_each (j:=1) rfl rfl n hn))
 simp only [List.append_nil] at hW'
 have hlt:=hW'.lt
 have hl0:∀x∈p0,x.block < W.heap.size:=fun x hx=>by first|exact hlt x hx| (refine hlt x ?_;simp [hx])
 have k0:∀W',Below W.heap.size W W'→DataW.Trod enc Try.prog W' 0 (fun b=>decide (b < W.heap.size)) true 38 v0 d0 p0:=fun W' hb=>Below.trod Try.laidOut (by kernel_rfl) (of_decide_eq_true (by kernel_rfl)) h0 hb hl0
 have hl1:∀x∈p1,x.block < W.heap.size:=fun x hx=>by first|exact hlt x hx| (refine hlt x ?_;simp [hx])
 have k1:∀W',Below W.heap.size W W'→DataW.Trod enc Try.prog W' 0 (fun b=>decide (b < W.heap.size)) true 38 v1 d1 p1:=fun W' hb=>Below.trod Try.laidOut (by kernel_rfl) (of_decide_eq_true (by kernel_rfl)) h1 hb hl1
 obtain⟨a0,a0w,r0⟩:=GF q7 Try.underlying38 (hval 0 38 v0 rfl rfl) h0 w0
 obtain⟨a1,a1w,r1⟩:=GF q7 Try.underlying38 (hval 1 38 v1 rfl rfl) h1 w1
 refine(maskPlain_walk a0 a1 a0w a1w v0 v1 W r0 r1).mono fun e W' ⟨he,hb⟩=> ?_
 subst he
 exact⟨_,rfl,_,_,_,[],_,[],hW',trodAll_cons_mk (shut_bool Try.underlying4 _) trodAll_mk0,(trodAll_cons_mk (k0 _ hb) (trodAll_cons_mk (k1 _ hb) trodAll_mk0)),rfl,hb.frame _,fun h=>by cases h⟩
theorem maskPlain_holds:Rows.MaskPlainSaid:=
 OpenClaim.holds_of_wide 5 Try.f5 rfl rfl rfl rfl rfl rfl rfl ⟨rfl,rfl,rfl,rfl,rfl⟩ rfl rfl rfl rfl rfl (by kernel_rfl) Try.func5 (by kernel_rfl)
  (of_decide_eq_true (by kernel_rfl)) (by unfold Func.isWrapper;first| (rw [if_pos (by decide+kernel)];kernel_rfl)| (rw [if_neg (by decide+kernel)];exact⟨rfl,rfl⟩))
  (fun os started H enc _=>maskPlain_lifted os started H enc)
#print axioms maskPlain_holds
end Go.Proofs.Ytlhjbhgkhpbnfaa
