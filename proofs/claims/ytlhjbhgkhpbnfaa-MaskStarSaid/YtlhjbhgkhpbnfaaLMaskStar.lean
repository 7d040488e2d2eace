/- It is proved that the law MaskStar returns true, whatever numbers and whatever text it is handed; there is no condition. -/
import Derived.Test.YtlhjbhgkhpbnfaaBk08
namespace Go.Proofs.Ytlhjbhgkhpbnfaa
open Go.ChangeShapes Go.WideShapes Go.ChangeAt Go.RowKit Go.ChangeMaps P
set_option linter.unusedSimpArgs false
set_option linter.unusedVariables false
def I64 (n : Int) : Prop := -9223372036854775808 ≤ n ∧ n < 9223372036854775808
theorem i64_of_wf {x : Int} (h : (Lit.int .i64 x).wf = true) : I64 x := by
 simp [Lit.wf,IntKind.min,IntKind.max,IntKind.signed,IntKind.bits] at h
 exact ⟨by omega,by omega⟩
theorem small_reach {n : Nat} (h : n ≤ reachBytes) : Bc n := h
theorem maskStar_walk (x y : Int) (s : ByteArray) (w : World) (hx : I64 x) (hy : I64 y) : Calls Try.prog 7 #[.int .i64 x, .int .i64 y, .string s] w fun e w' => e = .returned (.bool true) ∧ Below w.heap.size w w' := by
 have h := ra x y s.data.toList (yw ⟨hx.1,by have := hx.2; omega⟩ ⟨hy.1,by have := hy.2; omega⟩ s.data.toList) Rn.zero
 refine qX (vs := [.int .i64 x,.int .i64 y,.string s]) (us := [.v (.int .i64 x),.v (.int .i64 y),.v (.string (mkB s.data.toList))]) h rfl fun i u v hu hv => ?_
 match i,hu,hv with
 | 0,hu,hv => simp at hu hv; subst hu hv; exact ⟨.v _,rfl⟩
 | 1,hu,hv => simp at hu hv; subst hu hv; exact ⟨.v _,rfl⟩
 | 2, hu, hv =>
   have e : mkB s.data.toList = s := rfl
   rw [e] at hu
   simp at hu hv; subst hu hv; exact ⟨.v _,rfl⟩
 | i + 3,hu,hv => simp at hu
set_option maxRecDepth 100000 in
theorem maskStar_lifted (os : Os) (started : os.Started) (H : Type) (enc : TypeId × Value → H) :
  ReturnsInHanded {} Try.checked os 7 .any (Rows.maskStarSpec.pre6 enc Try.prog Try.f7 Rows.maskStarRow.domain false) (Rows.maskStarSpec.post enc Try.prog Try.f7 false true false false) := by
 refine returnsInHanded_of_change_sized (C := Try.checked) Try.own started (by kernel_rfl) Try.func7
  (ChangeSpec.witness6 (enc := enc) (C := Try.checked) false ⟨#[],#[.int .i64 0,.int .i64 0,.string ⟨#[]⟩],[]⟩ 8 (by kernel_rfl) (by kernel_rfl) (by kernel_rfl) (by kernel_rfl)) ?_
 intro W base args ds gs before hval0 hW _ hsz0 _
 have hsz : (DataW.weightsEach Try.prog (Try.f7.params.toList ++ Rows.maskStarSpec.plain.varTypes Try.prog) (ds ++ gs)).all (· ≤ reachBytes) = true := hsz0
 have hval : ∀ (j : Nat) t v,Try.f7.params[j]? = some t → args[j]? = some v → Value.okWide Try.prog W .any base t v := hval0
 have hW' := hW
 obtain ⟨p,q,hA0,hV,rfl,_,_⟩ := hW
 have hA : DataW.TrodAll enc Try.prog W 0 (fun _ => true) true Try.f7.params.toList args.toList ds p := hA0
 clear hsz0 hval0 hA0
 rw [Try.params7] at hA hval hsz
 obtain ⟨v0,vs0,d0,ds0,p0,q0,hargs,rfl,rfl,h0,rr0⟩ := trodAll_cons hA
 obtain ⟨v1,vs1,d1,ds1,p1,q1,rfl,rfl,rfl,h1,rr1⟩ := trodAll_cons rr0
 obtain ⟨v2,vs2,d2,ds2,p2,q2,rfl,rfl,rfl,h2,rr2⟩ := trodAll_cons rr1
 obtain ⟨rfl,rfl,rfl⟩ := trodAll_nil rr2
 obtain rfl : args = #[v0,v1,v2] := by cases args; simp_all
 obtain ⟨rfl,rfl⟩ := trodVars_none hV
 have w0 : ∀ n ∈ d0.weights Try.prog 3,n ≤ reachBytes := fun n hn => of_decide_eq_true (List.all_eq_true.1 hsz n (DataW.weights_mem_each (j := 0) rfl rfl n hn))
 have w1 : ∀ n ∈ d1.weights Try.prog 3,n ≤ reachBytes := fun n hn => of_decide_eq_true (List.all_eq_true.1 hsz n (DataW.weights_mem_each (j := 1) rfl rfl n hn))
 have w2 : ∀ n ∈ d2.weights Try.prog 9,n ≤ reachBytes := fun n hn => of_decide_eq_true (List.all_eq_true.1 hsz n (DataW.weights_mem_each (j := 2) rfl rfl n hn))
 simp only [List.append_nil] at hW'
 have hlt := hW'.lt
 have hl0 : ∀ x ∈ p0,x.block < W.heap.size := fun x hx => by first | exact hlt x hx | (refine hlt x ?_; simp [hx])
 have k0 : ∀ W',Below W.heap.size W W' → DataW.Trod enc Try.prog W' 0 (fun b => decide (b < W.heap.size)) true 3 v0 d0 p0 := fun W' hb => Below.trod Try.laidOut (by kernel_rfl) (of_decide_eq_true (by kernel_rfl)) h0 hb hl0
 have hl1 : ∀ x ∈ p1,x.block < W.heap.size := fun x hx => by first | exact hlt x hx | (refine hlt x ?_; simp [hx])
 have k1 : ∀ W',Below W.heap.size W W' → DataW.Trod enc Try.prog W' 0 (fun b => decide (b < W.heap.size)) true 3 v1 d1 p1 := fun W' hb => Below.trod Try.laidOut (by kernel_rfl) (of_decide_eq_true (by kernel_rfl)) h1 hb hl1
 have hl2 : ∀ x ∈ p2,x.block < W.heap.size := fun x hx => by first | exact hlt x hx | (refine hlt x ?_; simp [hx])
 have k2 : ∀ W',Below W.heap.size W W' → DataW.Trod enc Try.prog W' 0 (fun b => decide (b < W.heap.size)) true 9 v2 d2 p2 := fun W' hb => Below.trod Try.laidOut (by kernel_rfl) (of_decide_eq_true (by kernel_rfl)) h2 hb hl2
 obtain ⟨a0,rfl,rfl,rfl,x0⟩ := open_int Try.underlying3 (hval 0 3 v0 rfl rfl) h0
 have a0w := i64_of_wf x0
 obtain ⟨a1,rfl,rfl,rfl,x1⟩ := open_int Try.underlying3 (hval 1 3 v1 rfl rfl) h1
 have a1w := i64_of_wf x1
 obtain ⟨a2,rfl,rfl,rfl,x2⟩ := open_string Try.underlying9 (hval 2 9 v2 rfl rfl) h2
 have a2w : Bc a2.size := by rw [← BE]; exact small_reach (w2 _ (by simp [DataW.weights]))
 refine (maskStar_walk a0 a1 a2 W a0w a1w).mono fun e W' ⟨he,hb⟩ => ?_
 subst he
 exact ⟨_,rfl,_,_,_,[],_,[],hW',trodAll_cons_mk (shut_bool Try.underlying4 _) trodAll_mk0,(trodAll_cons_mk (k0 _ hb) (trodAll_cons_mk (k1 _ hb) (trodAll_cons_mk (k2 _ hb) trodAll_mk0))),rfl,hb.frame _,fun h => by cases h⟩
theorem maskStar_holds : Rows.MaskStarSaid :=
 OpenClaim.holds_of_wide 7 Try.f7 rfl rfl rfl rfl rfl rfl rfl ⟨rfl, rfl, rfl, rfl, rfl⟩ rfl rfl rfl rfl rfl (by kernel_rfl) Try.func7 (by kernel_rfl)
  (of_decide_eq_true (by kernel_rfl)) (by unfold Func.isWrapper; first | (rw [if_pos (by decide +kernel)]; kernel_rfl) | (rw [if_neg (by decide +kernel)]; exact ⟨rfl,rfl⟩))
  (fun os started H enc _ => maskStar_lifted os started H enc)
#print axioms maskStar_holds
end Go.Proofs.Ytlhjbhgkhpbnfaa
