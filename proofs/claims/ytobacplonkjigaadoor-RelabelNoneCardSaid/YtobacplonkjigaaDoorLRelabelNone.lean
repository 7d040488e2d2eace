/- It is proved that the law RelabelNone returns true and leaves its arguments as they read, whatever labels, sources and text between it is handed; there is no condition but what the given row lays (three package-level variables that the law's code names). -/
import Derived.Test.YtobacplonkjigaaDoorBk09
import Derived.Test.YtobacplonkjigaaDoorTie
import Derived.Test.YtobacplonkjigaaDoorCards
import Derived.SevenTiedAt
namespace Go.Proofs.YtobacplonkjigaaDoor
open Go.ChangeShapes Go.WideShapes Go.ChangeAt Go.RowKit Go.ChangeMaps P
set_option linter.unusedSimpArgs false
set_option linter.unusedVariables false
theorem wlab_of{l:List VLabel}(h1:l.length≤reachBytes)(h2:∀y∈l,o9 y):zI l:=⟨by unfold reachBytes at h1;omega,fun z hz=>by
 have:=h2 z hz
 unfold o9 at this
 unfold reachBytes at this
 exact⟨by omega,by omega⟩⟩
theorem small_reach{n:Nat}(h:n≤reachBytes):Eb n:=h
theorem relabelNone_walk(z:List VLabel)(y:List (List UInt8))(s:ByteArray)(hz:z.length≤reachBytes∧∀y∈z,o9 y)(hy:y.length≤reachBytes∧∀q∈y,q.length≤reachBytes)(hs:Eb s.size)(v v2:Value)(w:World)(hr:Rel (uV w) (.sl false 2 (z.map dJ)) v)(hr2:Rel (uV w) (.sl false 1 (y.map (fun s:List UInt8=>[AV.v (.string (mkB s))]))) v2):Calls Tryd.prog 3 #[v,v2,.string s] w fun e w'=>e=.returned (.bool true)∧Below w.heap.size w w':=by
 have hsl:s.data.toList.length < 140737488355328:=by
  have:s.data.toList.length=s.size:=by simp
  rw[this];exact Nat.lt_of_le_of_lt hs (by decide)
 obtain⟨N,hN⟩:=yT (l:=z) (ss:=y) (b:=s.data.toList) (wlab_of hz.1 hz.2) (Nat.lt_of_le_of_lt hy.1 (by decide)) (fun q hq=>Nat.lt_of_le_of_lt (hy.2 q hq) (by decide)) hsl
 have h:=sV z y s.data.toList hN Rn.zero
 have e:mkB s.data.toList=s:=rfl
 refine wC (vs:=[v,v2,.string s]) (us:=[.sl false 2 (z.map dJ),.sl false 1 (y.map (fun s:List UInt8=>[AV.v (.string (mkB s))])),.v (.string (mkB s.data.toList))]) h rfl fun i u x hu hx=> ?_
 match i,hu,hx with
 |0,hu,hx=>simp at hu hx;subst hu hx;exact⟨hr,rfl⟩
 |1,hu,hx=>simp at hu hx;subst hu hx;exact⟨hr2,rfl⟩
 |2,hu,hx=>rw[e] at hu;simp at hu hx;subst hu hx;exact⟨.v _,rfl⟩
 |i+3,hu,hx=>simp at hu
def litV:DataW Unit→Value
 |.lit (.int k n)=>.int k n
 |_=>.nilFunc
def litsV:DataW Unit→Array Value
 |.agg l=>(l.map litV).toArray
 |_=> #[]
def layV(d:DataW Unit):Obj→Obj
 |.cells _ t frozen=>.cells (litsV d) t frozen
 |o=>o
noncomputable def laidWorld (os:Os):World:=
 let w0:=World.holding Tryd.prog os ⟨#[],#[],[]⟩
 { w0 with heap:=((w0.heap.modify 1 (layV Rows.laid_internal_strconv_uint64pow10)).modify 2 (layV Rows.laid_math_bits_deBruijn32tab)).modify 3 (layV Rows.laid_math_bits_deBruijn64tab) }
set_option maxRecDepth 100000 in
theorem laidWorld_met(os:Os)(args:Array Value):laidMetH Tryd.prog Rows.relabelNoneRow.laid ((laidWorld os).forCall (fun _ _=>0) ⟨#[],args,[]⟩).memory:=
 laidMetH_of_parts (laidMet_of_run' 8 (by kernel_rfl) (by kernel_rfl)) (by kernel_rfl)
set_option maxRecDepth 100000 in
theorem relabelNone_lifted(os:Os)(started:os.Started)(H:Type)(enc:TypeId × Value→H):
  ReturnsInHanded {} Tryd.checked os 3 .any (fun w args=>(Rows.relabelNoneSpec.pre enc Tryd.prog Tryd.f3 [] false w args∧laidMetH Tryd.prog Rows.relabelNoneRow.laid w)∧sizedMet enc Tryd.prog Tryd.f3 (OpenSpec.ofChange Rows.relabelNoneSpec) false w args)
   (Rows.relabelNoneSpec.post enc Tryd.prog Tryd.f3 false true false false):=by
 refine returnsInHanded_of_change_and (C:=Tryd.checked) (X:=fun w _=>laidMetH Tryd.prog Rows.relabelNoneRow.laid w) (fun _ _ _ hh h=>h.of_heap hh) Tryd.own started (by kernel_rfl) Tryd.func3
  (ChangeSpec.witness_at (enc:=enc) (C:=Tryd.checked) (os:=os) (X:=fun w _=>laidMetH Tryd.prog Rows.relabelNoneRow.laid w) false (laidWorld os) #[.slice none 0 0,.slice none 0 0,.string ⟨#[]⟩] 8 rfl (by kernel_rfl) (by kernel_rfl) (by kernel_rfl) (by kernel_rfl) (by kernel_rfl) (laidWorld_met os _)) ?_
 intro W base args ds gs before hval0 hW _ hsz0 hL _
 have hsz:(DataW.weightsEach Tryd.prog (Tryd.f3.params.toList++Rows.relabelNoneSpec.plain.varTypes Tryd.prog) (ds++gs)).all (· ≤reachBytes)=true:=hsz0
 have hval:∀ (j:Nat) t v,Tryd.f3.params[j]? =some t→args[j]? =some v→Value.okWide Tryd.prog W .any base t v:=hval0
 have hW':=hW
 obtain⟨p,q,hA0,hV,rfl,_,_⟩:=hW
 have hA:DataW.TrodAll enc Tryd.prog W 0 (fun _=>true) true Tryd.f3.params.toList args.toList ds p:=hA0
 clear hsz0 hval0 hA0
 rw[Tryd.params3] at hA hval hsz
 obtain⟨v0,vs0,d0,ds0,p0,q0,hargs,rfl,rfl,h0,rr0⟩:=trodAll_cons hA
 obtain⟨v1,vs1,d1,ds1,p1,q1,rfl,rfl,rfl,h1,rr1⟩:=trodAll_cons rr0
 obtain⟨v2,vs2,d2,ds2,p2,q2,rfl,rfl,rfl,h2,rr2⟩:=trodAll_cons rr1
 obtain⟨rfl,rfl,rfl⟩:=trodAll_nil rr2
 obtain rfl:args= #[v0,v1,v2] :=by cases args;simp_all
 obtain⟨rfl,rfl⟩:=trodVars_none hV
 have w0:∀n∈d0.weights Tryd.prog 22,n≤reachBytes:=fun n hn=>of_decide_eq_true (List.all_eq_true.1 hsz n (DataW.weights_mem_each (j:=0) rfl rfl n hn))
 have w1:∀n∈d1.weights Tryd.prog 23,n≤reachBytes:=fun n hn=>of_decide_eq_true (List.all_eq_true.1 hsz n (DataW.weights_mem_each (j:=1) rfl rfl n hn))
 have w2:∀n∈d2.weights Tryd.prog 9,n≤reachBytes:=fun n hn=>of_decide_eq_true (List.all_eq_true.1 hsz n (DataW.weights_mem_each (j:=2) rfl rfl n hn))
 simp only[List.append_nil] at hW'
 have hlt:=hW'.lt
 have hl0:∀x∈p0,x.block < W.heap.size:=fun x hx=>by first|exact hlt x hx| (refine hlt x ?_;simp[hx])
 have k0:∀W',Below W.heap.size W W'→DataW.Trod enc Tryd.prog W' 0 (fun b=>decide (b < W.heap.size)) true 22 v0 d0 p0:=fun W' hb=>Below.trod Tryd.laidOut (by kernel_rfl) (of_decide_eq_true (by kernel_rfl)) h0 hb hl0
 have hl1:∀x∈p1,x.block < W.heap.size:=fun x hx=>by first|exact hlt x hx| (refine hlt x ?_;simp[hx])
 have k1:∀W',Below W.heap.size W W'→DataW.Trod enc Tryd.prog W' 0 (fun b=>decide (b < W.heap.size)) true 23 v1 d1 p1:=fun W' hb=>Below.trod Tryd.laidOut (by kernel_rfl) (of_decide_eq_true (by kernel_rfl)) h1 hb hl1
 have hl2:∀x∈p2,x.block < W.heap.size:=fun x hx=>by first|exact hlt x hx| (refine hlt x ?_;simp[hx])
 have k2:∀W',Below W.heap.size W W'→DataW.Trod enc Tryd.prog W' 0 (fun b=>decide (b < W.heap.size)) true 9 v2 d2 p2:=fun W' hb=>Below.trod Tryd.laidOut (by kernel_rfl) (of_decide_eq_true (by kernel_rfl)) h2 hb hl2
 obtain⟨a0,a0w,r0⟩:=NW tJ Tryd.underlying22 (hval 0 22 v0 rfl rfl) h0 w0
 obtain⟨a1,a1w,r1⟩:=NW xm Tryd.underlying23 (hval 1 23 v1 rfl rfl) h1 w1
 obtain⟨a2,rfl,rfl,rfl,x2⟩:=open_string Tryd.underlying9 (hval 2 9 v2 rfl rfl) h2
 have a2w:Eb a2.size:=by rw[← H5];exact small_reach (w2 _ (by simp[DataW.weights]))
 refine(relabelNone_walk a0 a1 a2 a0w a1w a2w v0 v1 W r0 r1).mono fun e W' ⟨he,hb⟩=> ?_
 subst he
 exact⟨_,rfl,_,_,_,[],_,[],hW',trodAll_cons_mk (shut_bool Tryd.underlying4 _) trodAll_mk0,(trodAll_cons_mk (k0 _ hb) (trodAll_cons_mk (k1 _ hb) (trodAll_cons_mk (k2 _ hb) trodAll_mk0))),rfl,hb.frame _,fun h=>by cases h⟩
theorem relabelNone_holds:Rows.RelabelNoneSaid:=
 OpenClaim.holds_of_wide 3 Tryd.f3 rfl rfl rfl rfl rfl rfl rfl ⟨rfl,rfl,rfl,rfl,rfl⟩ rfl rfl rfl rfl rfl (by kernel_rfl) Tryd.func3 (by kernel_rfl)
  (of_decide_eq_true (by kernel_rfl)) (by unfold Func.isWrapper;first| (rw[if_pos (by decide+kernel)];kernel_rfl)| (rw[if_neg (by decide+kernel)];exact⟨rfl,rfl⟩))
  (fun os started H enc _=>relabelNone_lifted os started H enc)
#print axioms relabelNone_holds
set_option maxRecDepth 100000 in
theorem relabelNoneCard_holds:Rows.RelabelNoneCardSaid:=
 Claim7.holds_tied_plain_at .later [] [.data,.data,.data] true (true,"825fe311f1ee848ed42fdc12493117286833bcc5e69d48ce5c31657455ffc846") true
  relabelNone_holds (fun _ h=>by cases h) (by kernel_rfl) (fun _ h=>by cases h) relabelNone_row_tie rfl ⟨rfl,rfl⟩ (by kernel_rfl) rfl
  (fun f fn hf hfn=>by
   obtain rfl:f=3:=Option.some.inj ((show Tryd.prog.funcNamed "gleaner/gleanerlaw.RelabelNone" =some 3 by kernel_rfl).symm.trans hf)|>.symm
   obtain rfl:fn=Tryd.f3:=(Option.some.inj (Tryd.func3.symm.trans hfn)).symm
   exact⟨by kernel_rfl,fun j t ht=>by
    rw[Tryd.params3] at ht
    have h3:t=22∨t=23∨t=9:=by
     rcases j with _|_|_|j
     ·left;simpa using ht.symm
     ·right;left;simpa using ht.symm
     ·right;right;simpa using ht.symm
     ·simp at ht
    rcases h3 with rfl|rfl|rfl
    ·exact(show Tryd.prog.wantsStandIn 22=false by kernel_rfl)
    ·exact(show Tryd.prog.wantsStandIn 23=false by kernel_rfl)
    ·exact(show Tryd.prog.wantsStandIn 9=false by kernel_rfl)⟩)
  (by kernel_rfl)
#print axioms relabelNoneCard_holds
end Go.Proofs.YtobacplonkjigaaDoor
