/- What ar_drawX asks for, out of the layer's own: effects, calls, loads. -/
import Derived.Test.YtgmlkhfjhogdbaaGZ
namespace Go.Proofs.Ytgmlkhfjhogdbaa
open Go.RowKit P
set_option linter.unusedSimpArgs false
set_option linter.unusedVariables false
section
variable {P : Program} {Q : Exit → AS → Prop} {ks : List It} {T : Tys P} {σ : AS} {R : AS → Prop} {RP : Value → List (Nat × List AV) → Prop} {post : AOut → List (Nat × List AV) → Prop} {us : List AV} {ρs : List (Option Root)} {xs : Array Operand} {ats : Array TypeId} {f : FuncId} {d : Nat} {t ty : TypeId} {x : Operand} {pos : String} {af : Array Edge} {g : Option (Nat × Bool)}
theorem runsX_upon {R0 : Value → World → Prop} {RP0 : Value → World → Prop} {r : Result Next} (h : runsUpon P R0 r) : runsX P R0 RP0 r := by
  cases r with
  | halt z w => exact h.elim
  | ok nx w =>
    cases nx <;> simp only [runsUpon] at h <;> simp only [runsX]
    case value x => exact h
    case skip => exact h
    case enter f args =>
      refine h.mono fun e w' he => ?_
      cases e with
      | returned v => exact he
      | panicked ch => exact he.elim
      | outgrown => exact he.elim
theorem effX_eff {o : Oper} (h : EffOp P o σ R) : EffX P o σ R RP := fun F X a hs => runsX_upon (h F X a hs)
theorem loadC_box {b o : Nat} {cs : List AV} {u : AV} {dsc : TypeDesc} {dd : Option Tmp} (hx : opV σ x = some (.v (.pointer (some ⟨b, o, none⟩)))) (hb : look σ.h b = some cs) (hu : cs[o]? = some u) (h0 : look T.ty t = some dsc) (h1 : oneB dsc = true) (hm : isMpB cs = false) : LoadC P ⟨dd, .load t x, ty, pos, af, g⟩ σ b o u.rd := by
  refine ⟨⟨cs, u, hb, hm, hu, rfl⟩, fun s e => (by cases e), fun F X a hs => ?_⟩
  have e1 := opV_val hs (by simp [Op.operands]) hx
  obtain ⟨v, hc, _⟩ := box_cellX (hs.box b cs hb) hm hu
  exact ⟨v, hc, by simp only [execOp, e1]; exact run_val (run_load1 (T.tyOk _ _ h0) h1 hc)⟩
theorem effX_call {Hp Hr : List (Nat × List AV)} (hc : ACalls P f us Hp post) (ha : PArgs σ xs.toList us ρs) (h1 : oneSome ρs = true) (hroot : ∀ k o, some (Root.c k o) ∈ ρs → look Hp k = none) (hHp : ∀ k cs, look Hp k = some cs → look σ.h k = some cs) (hHr : ∀ k cs, look Hr k = some cs → look (layAll ρs σ).h k = some cs ∧ look Hp k = none) (hd : Nat.ble (d + 1) σ.n = true)
    (hR : ∀ u H', post (.ret u) H' → R (AS.nf ((callSt σ ρs Hr H').put d u))) (hP : ∀ v H', post (.pan v) H' → ∃ H2, (∀ k cs, look H2 k = some cs → look (callSt σ ρs Hr H').h k = some cs) ∧ RP v H2) (hn : ∀ H', (callSt σ ρs Hr H').n = σ.n) : EffX P ⟨some d, .call { callee := .value (.func f), args := xs, argTypes := ats }, ty, pos, af, g⟩ σ R RP := by
  intro F X a hs
  have hlen := ha.len
  rw [Conc.execOp_call_func rfl, run_enter hc.1]
  simp only [runsX]
  refine (call_core (vs := xs.map a.eval) hs hc (by simp [hlen.1]) (fun i u hu => ?_) (fun i j r hi hj => oneSome_spec h1 i j r r hi hj) hroot hHp hHr (lt_of_ble hd)).mono fun e w' ⟨X', out, H', p1, p2, p3, p4, p5⟩ => ?_
  · obtain ⟨x, ρ, hx, hρ, hp⟩ := ha.get i u hu
    have hx' : xs[i]? = some x := by simpa using hx
    have : (xs.map a.eval).getD i undef = a.eval x := by simp [hx']
    rw [this]; exact ⟨ρ, hρ, hp.val hs⟩
  · cases out with
    | ret u => obtain ⟨v, rfl, hv⟩ := p5; exact ⟨X', _, p1, hR u H' p2, hv, p3⟩
    | pan x =>
      subst p5
      obtain ⟨H2, k1, k2⟩ := hP x H' p2
      have h9 : SimE F X' ⟨(callSt σ ρs Hr H').n, [], H2, []⟩ a.tmps := p4.sub rfl (fun _ _ h => by cases h) k1 (fun p hp => by cases hp)
      rw [hn] at h9
      exact ⟨x, rfl, X', H2, p1, k2, h9, p3⟩
end
/-! ### Regions that draw: every order is walked -/
def hasW : List Nat → Nat → Bool
  | [], _ => false
  | a :: r, i => match Nat.beq i a with | true => true | false => hasW r i
def rdyOf (l : List Oper) (done : List Nat) : List Nat := (List.range l.length).filter fun i => !hasW done i && match l[i]? with
  | some o => (depsOf o).all (hasW done)
  | none => false
def AAny (P : Program) (Q : Exit → AS → Prop) (ks : List It) (l : List Oper) (n0 : Nat) : Nat → List Nat → AS → Prop
  | 0, done, σ => rdyOf l done = [] ∧ ARun P Q ks σ
  | n + 1, done, σ => (rdyOf l done = [] → ARun P Q ks σ) ∧ ∀ i ∈ rdyOf l done, ∀ o, l[i]? = some o → σ.n = n0 ∧ o.guard = none ∧ EffX P o σ (AAny P Q ks l n0 n (i :: done)) fun v H2 => Stk P Q ks (.panic [{ v := v, recovered := false }]) ⟨n0, [], H2, []⟩
theorem hasW_mem {i : Nat} : ∀ {l : List Nat}, hasW l i = true ↔ i ∈ l
  | [] => ⟨fun h => (by cases h), fun h => (by cases h)⟩
  | a :: r => by
    unfold hasW
    rw [List.mem_cons]
    cases e : Nat.beq i a with
    | true => exact ⟨fun _ => .inl (Nat.eq_of_beq_eq_true e), fun _ => rfl⟩
    | false =>
      refine ⟨fun h => .inr (hasW_mem.1 h), fun h => ?_⟩
      rcases h with rfl | h
      · rw [Nat.beq_refl] at e; cases e
      · exact hasW_mem.2 h
section
variable {P : Program} {Q : Exit → AS → Prop} {ks : List It} {σ : AS} {l : List Oper}
theorem mem_rdy {done : List Nat} {i : Nat} : i ∈ rdyOf l done ↔ i ∉ done ∧ ∃ o, l[i]? = some o ∧ ∀ d ∈ depsOf o, d ∈ done := by
  unfold rdyOf
  rw [List.mem_filter, List.mem_range]
  constructor
  · rintro ⟨h1, h2⟩
    rw [Bool.and_eq_true] at h2
    have ho : l[i]? = some l[i] := List.getElem?_eq_getElem h1
    refine ⟨fun hc => ?_, l[i], ho, fun d hd => ?_⟩
    · rw [hasW_mem.2 hc] at h2; exact absurd h2.1 (by simp)
    · have h3 := h2.2
      rw [ho] at h3
      exact hasW_mem.1 (List.all_eq_true.1 h3 d hd)
  · rintro ⟨h1, o, ho, h2⟩
    refine ⟨(List.getElem?_eq_some_iff.1 ho).1, ?_⟩
    rw [Bool.and_eq_true]
    refine ⟨?_, ?_⟩
    · cases e : hasW done i with
      | false => rfl
      | true => exact absurd (hasW_mem.1 e) h1
    · rw [ho]
      exact List.all_eq_true.2 fun d hd => hasW_mem.2 (h2 d hd)
theorem ar_any {id : Nat} (hm : P.follows .mixedOrders = true) (h : AAny P Q ks l σ.n l.length [] σ) : ARun P Q (.c (.region id l.toArray true) :: ks) σ := by
  intro F X a hs D hdf
  have hXd : New X ⟨X.w.drew, X.g⟩ := ⟨rfl, rfl, rfl, Nat.le_refl _, fun _ _ => ⟨rfl, rfl⟩⟩
  refine wp_region_any hm ?_
  have key : ∀ (fuel : Nat) (done : List Nat) (listed : Array Bool) (X1 : GW) (a1 : Act) (σ1 : AS), listed.size = l.length → (∀ j, j < l.length → (listed.getD j false = true ↔ j ∈ done)) → (∀ d ∈ done, d < l.length) → a1.defers = D → a1.tmps.size = σ.n → Ext F X X1 → SimE F X1 σ1 a1.tmps → AAny P Q ks l σ.n fuel done σ1 → wpAny P .any l.toArray (PostA F X D (Stk P Q ks)) fuel listed a1 X1.w := by
    intro fuel
    induction fuel with
    | zero =>
      intro done listed X1 a1 σ1 hsz hl hdn hd1 hn1 hx1 hs1 hA
      have hr : ∀ i, i ∈ Region.ready .any l.toArray listed → i ∈ rdyOf l done := fun i hi => by
        obtain ⟨h1, o, h2, h3⟩ := mem_ready.1 hi
        have h2' : l[i]? = some o := by simpa using h2
        have hil := (List.getElem?_eq_some_iff.1 h2').1
        have hlf : listed.getD i false = false := by rw [← getD_tf (by omega)]; exact h1
        refine mem_rdy.2 ⟨fun hc => (by rw [(hl i hil).2 hc] at hlf; cases hlf), o, h2', fun d hd => ?_⟩
        obtain ⟨e, k1, k2, k3⟩ := mem_depsOf.1 hd
        have := h3 e k1 k2
        rw [k3] at this
        have hdl : d < l.length := by
          apply Classical.byContradiction
          intro hc
          rw [Array.getD_eq_getD_getElem?, Array.getElem?_eq_none (by omega)] at this; cases this
        exact (hl d hdl).1 this
      refine ⟨List.eq_nil_iff_forall_not_mem.2 fun i hi => ?_, hd1, X1, σ1, rfl, hA.2, hs1, hx1⟩
      have := hr i hi
      rw [hA.1] at this; cases this
    | succ fuel ih =>
      intro done listed X1 a1 σ1 hsz hl hdn hd1 hn1 hx1 hs1 hA
      have hr : ∀ i, i ∈ Region.ready .any l.toArray listed ↔ i ∈ rdyOf l done := fun i => by
        rw [mem_ready, mem_rdy]
        constructor
        · rintro ⟨h1, o, h2, h3⟩
          have h2' : l[i]? = some o := by simpa using h2
          have hil := (List.getElem?_eq_some_iff.1 h2').1
          have hlf : listed.getD i false = false := by rw [← getD_tf (by omega)]; exact h1
          refine ⟨fun hc => (by rw [(hl i hil).2 hc] at hlf; cases hlf), o, h2', fun d hd => ?_⟩
          obtain ⟨e, k1, k2, k3⟩ := mem_depsOf.1 hd
          have := h3 e k1 k2
          rw [k3] at this
          have hdl : d < l.length := by
            apply Classical.byContradiction
            intro hc
            rw [Array.getD_eq_getD_getElem?, Array.getElem?_eq_none (by omega)] at this; cases this
          exact (hl d hdl).1 this
        · rintro ⟨h1, o, h2, h3⟩
          have hil := (List.getElem?_eq_some_iff.1 h2).1
          refine ⟨?_, o, by simpa using h2, fun e he hb => ?_⟩
          · rw [getD_tf (by omega)]
            cases hc : listed.getD i false with
            | false => rfl
            | true => exact absurd ((hl i hil).1 hc) h1
          · have hd := h3 e.on (mem_depsOf.2 ⟨e, he, hb, rfl⟩)
            exact (hl _ (hdn _ hd)).2 hd
      refine ⟨fun hnil => ⟨hd1, X1, σ1, rfl, hA.1 (List.eq_nil_iff_forall_not_mem.2 fun i hi => by rw [← hr i, hnil] at hi; cases hi), hs1, hx1⟩, fun i hi => ?_⟩
      have hi' := (hr i).1 hi
      obtain ⟨h1, o, h2, h3⟩ := mem_rdy.1 hi'
      have hil := (List.getElem?_eq_some_iff.1 h2).1
      obtain ⟨hn, hg, hE⟩ := hA.2 i hi' o h2
      have hrun := hE F X1 a1 hs1
      have fin2 : ∀ (x : Value) (w' : World), (∃ (X' : GW) (σ' : AS), X'.w = w' ∧ AAny P Q ks l σ.n fuel (i :: done) σ' ∧ SimE F X' σ' (a1.put o.dst x).tmps ∧ Ext F X1 X') → wpAny P .any l.toArray (PostA F X D (Stk P Q ks)) fuel (listed.setIfInBounds i true) (a1.put o.dst x) w' := by
        rintro x w' ⟨X', σ', rfl, k1, k2, k3⟩
        refine ih (i :: done) (listed.setIfInBounds i true) X' (a1.put o.dst x) σ' (by simp [hsz]) (fun j hj => ?_) (fun d hd => (List.mem_cons.1 hd).elim (fun e => e ▸ hil) (hdn d)) (by rw [put_defers]; exact hd1) (by rw [put_sz]; exact hn1) (hx1.trans k3) k2 k1
        rw [getD_setb false (by omega), List.mem_cons]
        by_cases e : j = i
        · subst e; simp
        · rw [if_neg e, hl j hj]; simp [e]
      have pan : ∀ (v : Value) (w' : World), (∃ (X' : GW) (H2 : List (Nat × List AV)), X'.w = w' ∧ Stk P Q ks (.panic [{ v := v, recovered := false }]) ⟨σ.n, [], H2, []⟩ ∧ SimE F X' ⟨σ1.n, [], H2, []⟩ a1.tmps ∧ Ext F X1 X') → PostA F X D (Stk P Q ks) (.panic [{ v := v, recovered := false }]) a1 w' := by
        rintro v w' ⟨X', H2, rfl, k1, k2, k3⟩
        rw [hn] at k2
        exact ⟨hd1, X', _, rfl, k1, k2, hx1.trans k3⟩
      have ho2 : l.toArray[i]? = some o := by simpa using h2
      unfold wpOp
      simp only [ho2]
      have hw : Region.wanted o (yielded l.toArray a1.tmps) = true := by unfold Region.wanted; rw [hg]
      rw [if_pos hw]
      left
      unfold Oper.wp
      generalize (execOp a1.eval o).run P X1.w = r at hrun ⊢
      cases r with
      | halt z w =>
        cases z <;> simp only [runsX] at hrun
        exact pan _ _ hrun
      | ok nx w =>
        cases nx <;> simp only [runsX] at hrun <;> simp only [Oper.upon]
        case value x => exact fin2 _ _ hrun
        case skip => exact fin2 _ _ hrun
        case enter f args =>
          refine hrun.mono fun e w' he => ?_
          cases e with
          | returned v => exact fin2 _ _ he
          | panicked ch => obtain ⟨v, rfl, he⟩ := he; exact pan _ _ he
          | outgrown => exact he.elim
  have hno : ∀ i, (Array.replicate l.toArray.size false).getD i false = false := fun i => by
    simp only [Array.getD_eq_getD_getElem?, Array.getElem?_replicate]
    split <;> simp
  have := key l.toArray.size [] (Array.replicate l.toArray.size false) ⟨X.w.drew, X.g⟩ a σ (by simp) (fun j _ => by rw [hno]; simp) (fun d hd => by cases hd) hdf hs.size (hXd.ext hs.gb hs.fb) (hs.new hXd hs.gb) (by simpa using h)
  exact this
end
end Go.Proofs.Ytgmlkhfjhogdbaa
