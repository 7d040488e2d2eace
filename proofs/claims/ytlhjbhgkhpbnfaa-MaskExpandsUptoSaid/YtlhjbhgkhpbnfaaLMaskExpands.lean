/- It is proved that the law MaskExpands returns true and leaves its arguments as they read, whatever template, text and groups it is handed, if these are together of bulk at most 1048576. -/
import Derived.Test.YtlhjbhgkhpbnfaaBk08
import Derived.Deep.CondSized
namespace Go.Proofs.Ytlhjbhgkhpbnfaa
open Go.ChangeShapes Go.WideShapes Go.ChangeAt Go.RowKit Go.ChangeMaps P
set_option linter.unusedSimpArgs false
set_option linter.unusedVariables false
section
variable {H:Type} {Pr:Program}
theorem str_bulk{e:TypeId}(he:Pr.underlying e=some .string)(d:DataW H):∀n∈d.weights Pr e,n≤Rows.uptoBulk d:=by
 intro n hn
 cases d with
 |lit l=>cases l<;> simp [DataW.weights,Rows.uptoBulk] at hn ⊢ <;> omega
 |nil=>simp [DataW.weights] at hn
 |ptr d=>simp [DataW.weights,he] at hn
 |slice a b=>simp [DataW.weights,he] at hn
 |agg a=>simp [DataW.weights,he] at hn
 |iface a b=>simp [DataW.weights] at hn
 |map a=>simp [DataW.weights,he] at hn
 |held a=>simp [DataW.weights] at hn
theorem bulk_pos(d:DataW H):1≤Rows.uptoBulk d:=by
 cases d with
 |lit l=>cases l<;> simp [Rows.uptoBulk]
 |_=>simp [Rows.uptoBulk]
theorem all_bulk{e:TypeId}(he:Pr.underlying e=some .string):∀ (l:List (DataW H)),l.length≤Rows.uptoBulkAll l∧∀n∈DataW.weightsAll Pr e l,n≤Rows.uptoBulkAll l
 | [] =>⟨Nat.zero_le _,fun n hn=>by simp [DataW.weightsAll] at hn⟩
 |d::r=>by
  obtain⟨h1,h2⟩:=all_bulk he r
  have h3:=bulk_pos d
  refine⟨by simp only [Rows.uptoBulkAll,List.length_cons];omega,fun n hn=> ?_⟩
  simp only [DataW.weightsAll,List.mem_append] at hn
  simp only [Rows.uptoBulkAll]
  rcases hn with hn|hn
  ·have:=str_bulk he d n hn
   omega
  ·have:=h2 n hn
   omega
theorem texts_bulk{t e:TypeId}(ht:Pr.underlying t=some (.slice e))(he:Pr.underlying e=some .string)(hb:Pr.bytesOf e=16)(d:DataW H):∀n∈d.weights Pr t,n≤16 * Rows.uptoBulk d:=by
 intro n hn
 cases d with
 |lit l=>cases l<;> simp [DataW.weights,Rows.uptoBulk] at hn ⊢ <;> omega
 |nil=>simp [DataW.weights] at hn
 |ptr d=>simp [DataW.weights,ht] at hn
 |slice a b=>
  obtain⟨h1,h2⟩:=all_bulk he a
  obtain⟨h3,h4⟩:=all_bulk he b
  simp only [DataW.weights,ht,hb,List.mem_cons,List.mem_append] at hn
  simp only [Rows.uptoBulk]
  rcases hn with rfl|hn|hn
  ·omega
  ·have:=h2 n hn
   omega
  ·have:=h4 n hn
   omega
 |agg a=>simp [DataW.weights,ht] at hn
 |iface a b=>simp [DataW.weights] at hn
 |map a=>simp [DataW.weights,ht] at hn
 |held a=>simp [DataW.weights] at hn
end
theorem opn_texts{R:Nat}{H:Type}{enc:TypeId × Value→H}{w:World}{base:Nat}{spare:Nat→Bool}{held:Bool}:qG R enc Try.prog w base spare held 22 (fun l:List (List UInt8)=>[AV.sl false 1 (l.map (fun s:List UInt8=>[AV.v (.string (mkB s))]))]) (fun l=>l.length≤R∧∀y∈l,y.length≤R):=
 r8 Try.underlying22 (by kernel_rfl) (by decide) (of_decide_eq_true (by kernel_rfl)) (fun z=>by rfl) (xa Try.underlying9)
theorem small_reach{n:Nat}(h:n≤reachBytes):zW n:=h
theorem maskExpands_walk(t whole:ByteArray)(v:Value)(w:World)(ht:t.data.toList.length≤1048576)(hw:whole.data.toList.length≤1048576)(hv:∃z:List (List UInt8),(z.length≤16777216∧∀y∈z,y.length≤16777216)∧Rel (sb w) (.sl false 1 (z.map (fun s:List UInt8=>[AV.v (.string (mkB s))]))) v):Calls Try.prog 4 #[.string t,.string whole,v] w fun e w'=>e=.returned (.bool true)∧Below w.heap.size w w':=by
 obtain⟨z,⟨hz1,hz2⟩,hr⟩:=hv
 have h:=oN t.data.toList whole.data.toList z (tG ht hw hz2 hz1) Rn.zero
 refine sa (vs:=[.string t,.string whole,v]) (us:=[.v (.string (mkB t.data.toList)),.v (.string (mkB whole.data.toList)),.sl false 1 (z.map (fun s:List UInt8=>[AV.v (.string (mkB s))]))]) h rfl fun i u x hu hx=> ?_
 have e:∀s:ByteArray,mkB s.data.toList=s:=fun s=>rfl
 match i,hu,hx with
 |0,hu,hx=>rw [e] at hu;simp at hu hx;subst hu hx;exact⟨.v _,rfl⟩
 |1,hu,hx=>rw [e] at hu;simp at hu hx;subst hu hx;exact⟨.v _,rfl⟩
 |2,hu,hx=>simp at hu hx;subst hu hx;exact⟨hr,rfl⟩
 |i+3,hu,hx=>simp at hu
set_option maxRecDepth 100000 in
theorem maskExpands_lifted(os:Os)(started:os.Started)(H:Type)(enc:TypeId × Value→H)(FI:Stop.Interp):
  ReturnsInHanded {} Try.checked os 4 .any ((Rows.OpenSpec.upto Rows.maskExpandsSpec).pre6 enc Try.prog Try.f4 Rows.maskExpandsUptoRow.domain false) (((Rows.OpenSpec.upto Rows.maskExpandsSpec).at FI).post enc Try.prog Try.f4 false true false false):=by
 refine returnsInHanded_of_cond_sized (C:=Try.checked) (s:=(Rows.OpenSpec.upto Rows.maskExpandsSpec)) (k:=Rows.uptoSmall) rfl Try.own started (by kernel_rfl) Try.func4
  (OpenSpec.witness (enc:=enc) (C:=Try.checked) (s:=(Rows.OpenSpec.upto Rows.maskExpandsSpec)) (k:=Rows.uptoSmall) rfl false ⟨#[],#[.string ⟨#[]⟩,.string ⟨#[]⟩,.slice none 0 0],[]⟩ 8 (by kernel_rfl) (by kernel_rfl) (by kernel_rfl) (x:=([.lit (.string []),.lit (.string []),.nil],[],[])) (by kernel_rfl) rfl (by kernel_rfl)) ?_
 intro W base args ds gs before hval0 hW _ hk hsz0 _
 have hsz:(DataW.weightsEach Try.prog (Try.f4.params.toList++Rows.maskExpandsSpec.plain.varTypes Try.prog) (ds++gs)).all (· ≤reachBytes)=true:=hsz0
 have hval:∀ (j:Nat) t v,Try.f4.params[j]? =some t→args[j]? =some v→Value.okWide Try.prog W .any base t v:=hval0
 have hW':=hW
 obtain⟨p,q,hA0,hV,rfl,_,_⟩:=hW
 have hA:DataW.TrodAll enc Try.prog W 0 (fun _=>true) true Try.f4.params.toList args.toList ds p:=hA0
 clear hsz0 hval0 hA0
 rw [Try.params4] at hA hval hsz
 obtain⟨v0,vs0,d0,ds0,p0,q0,hargs,rfl,rfl,h0,rr0⟩:=trodAll_cons hA
 obtain⟨v1,vs1,d1,ds1,p1,q1,rfl,rfl,rfl,h1,rr1⟩:=trodAll_cons rr0
 obtain⟨v2,vs2,d2,ds2,p2,q2,rfl,rfl,rfl,h2,rr2⟩:=trodAll_cons rr1
 obtain⟨rfl,rfl,rfl⟩:=trodAll_nil rr2
 obtain rfl:args= #[v0,v1,v2] :=by cases args;simp_all
 obtain⟨rfl,rfl⟩:=trodVars_none hV
 have w0:∀n∈d0.weights Try.prog 9,n≤reachBytes:=fun n hn=>of_decide_eq_true (List.all_eq_true.1 hsz n (DataW.weights_mem_each (j:=0) rfl rfl n hn))
 have w1:∀n∈d1.weights Try.prog 9,n≤reachBytes:=fun n hn=>of_decide_eq_true (List.all_eq_true.1 hsz n (DataW.weights_mem_each (j:=1) rfl rfl n hn))
 have w2:∀n∈d2.weights Try.prog 22,n≤reachBytes:=fun n hn=>of_decide_eq_true (List.all_eq_true.1 hsz n (DataW.weights_mem_each (j:=2) rfl rfl n hn))
 simp only [List.append_nil] at hW'
 have hlt:=hW'.lt
 have hl0:∀x∈p0,x.block < W.heap.size:=fun x hx=>by first|exact hlt x hx| (refine hlt x ?_;simp [hx])
 have k0:∀W',Below W.heap.size W W'→DataW.Trod enc Try.prog W' 0 (fun b=>decide (b < W.heap.size)) true 9 v0 d0 p0:=fun W' hb=>Below.trod Try.laidOut (by kernel_rfl) (of_decide_eq_true (by kernel_rfl)) h0 hb hl0
 have hl1:∀x∈p1,x.block < W.heap.size:=fun x hx=>by first|exact hlt x hx| (refine hlt x ?_;simp [hx])
 have k1:∀W',Below W.heap.size W W'→DataW.Trod enc Try.prog W' 0 (fun b=>decide (b < W.heap.size)) true 9 v1 d1 p1:=fun W' hb=>Below.trod Try.laidOut (by kernel_rfl) (of_decide_eq_true (by kernel_rfl)) h1 hb hl1
 have hl2:∀x∈p2,x.block < W.heap.size:=fun x hx=>by first|exact hlt x hx| (refine hlt x ?_;simp [hx])
 have k2:∀W',Below W.heap.size W W'→DataW.Trod enc Try.prog W' 0 (fun b=>decide (b < W.heap.size)) true 22 v2 d2 p2:=fun W' hb=>Below.trod Try.laidOut (by kernel_rfl) (of_decide_eq_true (by kernel_rfl)) h2 hb hl2
 obtain⟨a0,rfl,rfl,rfl,x0⟩:=open_string Try.underlying9 (hval 0 9 v0 rfl rfl) h0
 have a0w:zW a0.size:=by rw [← ye];exact small_reach (w0 _ (by simp [DataW.weights]))
 obtain⟨a1,rfl,rfl,rfl,x1⟩:=open_string Try.underlying9 (hval 1 9 v1 rfl rfl) h1
 have a1w:zW a1.size:=by rw [← ye];exact small_reach (w1 _ (by simp [DataW.weights]))
 obtain⟨a2,a2w,r2⟩:=IH ua Try.underlying22 (hval 2 22 v2 rfl rfl) h2 w2
 have hbk:=of_decide_eq_true hk
 simp only [Rows.uptoBulkAll,Rows.uptoBulk,List.append_nil] at hbk
 refine(maskExpands_walk a0 a1 v2 W (by omega) (by omega) (IH opn_texts Try.underlying22 (hval 2 22 v2 rfl rfl) h2 (fun n hn=>Nat.le_trans (texts_bulk Try.underlying22 Try.underlying9 (by kernel_rfl) d2 n hn) (by omega)))).mono fun e W' ⟨he,hb⟩=> ?_
 subst he
 exact⟨_,rfl,_,_,_,[],_,[],hW',trodAll_cons_mk (shut_bool Try.underlying4 _) trodAll_mk0,(trodAll_cons_mk (k0 _ hb) (trodAll_cons_mk (k1 _ hb) (trodAll_cons_mk (k2 _ hb) trodAll_mk0))),rfl,hb.frame _,fun h=>by cases h⟩
theorem maskExpandsUpto_holds:Rows.MaskExpandsUptoSaid:=
 OpenClaim.holds_of_cond 4 Try.f4 rfl rfl rfl rfl rfl rfl rfl ⟨rfl,rfl,rfl,rfl,rfl⟩ rfl rfl rfl rfl rfl (by kernel_rfl) Try.func4 (by kernel_rfl)
  (of_decide_eq_true (by kernel_rfl)) (by unfold Func.isWrapper;first| (rw [if_pos (by decide+kernel)];kernel_rfl)| (rw [if_neg (by decide+kernel)];exact⟨rfl,rfl⟩))
  (fun os started H enc _ FI=>maskExpands_lifted os started H enc FI)
#print axioms maskExpandsUpto_holds
end Go.Proofs.Ytlhjbhgkhpbnfaa
