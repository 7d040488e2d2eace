/- Regions that draw, in two parts: ar_drawX. -/
import Derived.Test.YtgmlkhfjhogdbaaGY
namespace Go.Proofs.Ytgmlkhfjhogdbaa
open Go.RowKit P
set_option linter.unusedSimpArgs false
set_option linter.unusedVariables false
section
variable {P : Program} {Q : Exit → AS → Prop} {ks : List It} {σ : AS} {K : AS → Prop} {l : List Oper} {mN mB : Nat → Bool} {ld : List (Nat × Nat × Nat)}
theorem runsX.mono {R R' : Value → World → Prop} {RP RP' : Value → World → Prop} {r : Result Next} (h : runsX P R RP r) (hR : ∀ x w, R x w → R' x w) (hP : ∀ v w, RP v w → RP' v w) : runsX P R' RP' r := by
  cases r with
  | halt z w => cases z <;> simp only [runsX] at h ⊢ <;> first | exact hP _ _ h | exact h.elim
  | ok nx w =>
    cases nx <;> simp only [runsX] at h ⊢
    case value x => exact hR _ _ h
    case skip => exact hR _ _ h
    case enter f args =>
      refine h.mono fun e w' he => ?_
      cases e with
      | returned v => exact hR _ _ he
      | panicked ch => obtain ⟨v, rfl, he⟩ := he; exact ⟨v, rfl, hP _ _ he⟩
      | outgrown => exact he.elim
theorem bst_t (i : Nat) (σ : AS) : (bst mB i σ).t = σ.t := by unfold bst; cases mB i <;> rfl
theorem bst_h {i : Nat} {σ : AS} {k : Nat} {c : List AV} (h : look (bst mB i σ).h k = some c) : mB i = true ∧ look σ.h k = some c := by
  unfold bst at h
  cases hb : mB i with
  | true => rw [hb] at h; exact ⟨rfl, h⟩
  | false => rw [hb] at h; cases h
def valX (X : GW) (tm : Array Value) (ld : List (Nat × Nat × Nat)) (o : Oper) (u : AV) : Value := match o.dst with
  | some d => match ldAt ld d with
    | some p => (X.w.cell? ⟨p.2.1, p.2.2, none⟩).getD undef
    | none => valOf { tmps := tm, defers := [] } u o.op
  | none => undef
set_option maxHeartbeats 1000000
theorem ar_drawX {id : Nat} {st : Nat → Bool} {cs1 cs2 : List Nat} (hm : P.follows .mixedOrders = true) (hB : MixOk l mN (cs1 ++ cs2)) (hmB : ∀ (i c : Nat) o, mN i = true → mB i = true → cs2.head? = some c → l[c]? = some o → ∀ p : Nat → Prop, (∀ (q : Nat) oq, l[q]? = some oq → p q → ∀ d ∈ depsOf oq, p d) → p c → p i) (he : σ.e = []) (hldn : (ld.map (·.1)).Nodup) (hldb : ∀ p ∈ ld, ∃ (q : Nat) (o : Oper), l[q]? = some o ∧ mN q = true ∧ o.dst = some p.1)
    (h : NSemX P l mN mB ld (fun σ' => CSemX P σ.n (fun v H2 => ∃ H3, (∀ k cs, look H3 k = some cs → look (H2 ++ σ.h.filter fun p => st p.1) k = some cs) ∧ Stk P Q ks (.panic [{ v := v, recovered := false }]) ⟨σ.n, [], H3, []⟩) (fun σ2 => CSemX P σ.n (fun v H2 => Stk P Q ks (.panic [{ v := v, recovered := false }]) ⟨σ.n, [], H2, []⟩) (fun σ3 => ARun P Q ks σ3) (cs2.filterMap fun i => l[i]?) ((σ2.withH (σ2.h ++ σ.h.filter fun p => st p.1)).alc ld)) (cs1.filterMap fun i => l[i]?) ((σ'.withH (σ.h.filter fun p => !st p.1)).als (nMoves l mN 0 l))) 0 l (σ.withH (σ.h.filter fun p => st p.1))) :
    ARun P Q (.c (.region id l.toArray true) :: ks) σ := by
  obtain ⟨us, hul, hK, hstep⟩ := n_tableX l l 0 _ h
  simp only [Nat.zero_add] at hstep
  refine ar_drawG (cs := cs1 ++ cs2) (lim := fun i => match mB i with | true => cs1.length | false => (cs1 ++ cs2).length) hm hB (fun i j c o hmi hj hc ho => ?_) (fun i o ho hmi => ?_) fun F X tm D hs => ?_
  · cases hb : mB i with
    | true =>
      simp only [hb] at hj
      subst hj
      rw [List.getElem?_append_right (Nat.le_refl _), Nat.sub_self] at hc
      exact hmB i c o hmi hb (by rw [List.head?_eq_getElem?]; exact hc) ho
    | false =>
      simp only [hb] at hj
      subst hj
      rw [List.getElem?_eq_none (Nat.le_refl _)] at hc; cases hc
  · have hil := (List.getElem?_eq_some_iff.1 ho).1
    obtain ⟨d, k1, k2, k3, _⟩ := hstep i o us[i] ho (List.getElem?_eq_getElem (by omega)) hmi
    exact ⟨d, k1, k2, lt_of_ble k3⟩
  have hsa := hs.aside st he
  generalize hH1 : (σ.h.filter fun p => st p.1) = H1 at *
  generalize hH0 : (σ.h.filter fun p => !st p.1) = H0 at *
  have h1look : ∀ k c, look H1 k = some c → st k = true ∧ look σ.h k = some c := fun k c hk => by
    rw [← hH1, look_filt] at hk
    by_cases e : st k = true
    · rw [if_pos e] at hk; exact ⟨e, hk⟩
    · rw [if_neg e] at hk; cases hk
  have hbox1 : ∀ k c, look H1 k = some c → BoxOk F X k c := fun k c hk => hs.box k c (h1look k c hk).2
  have hmdis : ∀ (q q' : Nat) o o' d, (msk mN 0 l)[q]? = some o → (msk mN 0 l)[q']? = some o' → o.dst = some d → o'.dst = some d → q = q' := fun q q' o o' d h1 h2 h3 h4 => by
    obtain ⟨k1, k2⟩ := msk_dst h1 h3
    obtain ⟨k3, k4⟩ := msk_dst h2 h4
    exact hB.ndst q q' o o' d k2 k4 k1 h3 h4
  have hml : us.length = (msk mN 0 l).length := by rw [msk_len, hul]
  -- a slot that no operation that turns nothing writes
  have hputs : ∀ (i : Nat) (t : Nat) (u : AV), look (puts (σ.withH H1) ((msk mN 0 l).take i) (us.take i)).t t = some u → (∃ q o, q < i ∧ l[q]? = some o ∧ mN q = true ∧ o.dst = some t ∧ us[q]? = some u) ∨ (look σ.t t = some u ∧ ∀ q o, q < i → l[q]? = some o → mN q = true → o.dst ≠ some t) := by
    intro i t u hu
    rw [puts_look _ _ _ _ (by simp [hml]) (fun q q' o1 o2 d h1 h2 h3 h4 => by
      rw [List.getElem?_take] at h1 h2
      split at h1
      · split at h2
        · exact hmdis q q' o1 o2 d h1 h2 h3 h4
        · cases h2
      · cases h1)] at hu
    cases hf : (((msk mN 0 l).take i).zip (us.take i)).find? (fun p => p.1.dst == some t) with
    | some p =>
      rw [hf] at hu; cases hu
      have hmem := List.mem_of_find?_eq_some hf
      have hpd : p.1.dst = some t := by simpa using List.find?_some hf
      obtain ⟨q, hq⟩ := List.getElem?_of_mem hmem
      rw [List.getElem?_zip_eq_some, List.getElem?_take, List.getElem?_take] at hq
      have hqi : q < i := by
        apply Classical.byContradiction
        intro hc
        rw [if_neg hc] at hq; cases hq.1
      rw [if_pos hqi, if_pos hqi] at hq
      obtain ⟨k1, k2⟩ := msk_dst hq.1 hpd
      exact .inl ⟨q, p.1, hqi, k2, k1, hpd, hq.2⟩
    | none =>
      rw [hf] at hu
      refine .inr ⟨hu, fun q o hqi hlo hmq hod => ?_⟩
      have hql := (List.getElem?_eq_some_iff.1 hlo).1
      have hmq' : (msk mN 0 l)[q]? = some o := by rw [msk_get mN 0 l q o hlo, Nat.zero_add, hmq]
      have hmem : (o, us[q]'(by omega)) ∈ ((msk mN 0 l).take i).zip (us.take i) := by
        refine List.mem_of_getElem? (i := q) (List.getElem?_zip_eq_some.2 ⟨?_, ?_⟩)
        · rw [List.getElem?_take, if_pos hqi]; exact hmq'
        · rw [List.getElem?_take, if_pos hqi]; exact List.getElem?_eq_getElem (by omega)
      exact absurd (by simpa using hod) (List.find?_eq_none.1 hf _ hmem)
  refine ⟨fun (q : Nat) => match l[q]?, us[q]? with
    | some o, some u => valX X tm ld o u
    | _, _ => undef, ?_⟩
  generalize hVdef : (fun (q : Nat) => match l[q]?, us[q]? with
    | some o, some u => valX X tm ld o u
    | _, _ => undef) = V
  have hV : ∀ (q : Nat) o u, l[q]? = some o → us[q]? = some u → V q = valX X tm ld o u := fun q o u ho hu => by rw [← hVdef]; simp only [ho, hu]
  have hmv : ∀ (q : Nat) o u s, l[q]? = some o → us[q]? = some u → mN q = true → o.op = .move (.tmp s) → (∀ (q' : Nat) o', l[q']? = some o' → mN q' = true → o'.dst ≠ some s) → Rel X u (tm.getD s undef) := by
    intro q o u s ho hu hmq hop hns
    obtain ⟨d, k1, k2, k3, k4, k5, k6⟩ := hstep q o u ho hu hmq
    refine (move_run (F := F) (a := { tmps := tm, defers := [] }) hop k4 ⟨hs.gb, hs.fb, fun t u' ht hu' => ?_, fun k c hk => ?_⟩).1
    · rw [hop] at ht
      simp [Op.operands] at ht
      subst ht
      rw [bst_t] at hu'
      rcases hputs q t u' hu' with ⟨q', o', _, k7, k9, k8, _⟩ | ⟨k7, _⟩
      · exact absurd k8 (hns q' o' k7 k9)
      · exact hs.slot t u' k7
    · have := (bst_h hk).2
      rw [puts_h] at this; exact hbox1 k c this
  have relV : ∀ (q : Nat) o u, l[q]? = some o → us[q]? = some u → mN q = true → Rel X u (V q) ∧ own1 (some u) = none := by
    intro q o u ho hu hmq
    obtain ⟨d, k1, k2, k3, k4, k5, k6⟩ := hstep q o u ho hu hmq
    refine ⟨?_, k5⟩
    rw [hV q o u ho hu]
    have k7 := k6 d k1
    unfold valX
    simp only [k1]
    cases hld : ldAt ld d with
    | some p =>
      rw [hld] at k7
      obtain ⟨_, ⟨cs, u0, j1, j2, j3, rfl⟩, _, _⟩ := k7
      rw [puts_h] at j1
      obtain ⟨v, g1, g2⟩ := box_cellX (hbox1 _ _ j1) j2 j3
      simp only [g1, Option.getD_some]
      exact g2.rd
    | none =>
      rw [hld] at k7
      rcases k7 with ⟨x, rfl⟩ | ⟨s, hop, hns⟩
      · exact .v x
      · by_cases hx : ∃ x, u = .v x
        · obtain ⟨x, rfl⟩ := hx; exact .v x
        · have hval : valOf { tmps := tm, defers := [] } u o.op = tm.getD s undef := by
            rw [hop]
            cases u <;> first | rfl | exact absurd ⟨_, rfl⟩ hx
          rw [hval]
          exact hmv q o u s ho hu hmq hop hns
  refine ⟨fun j X1 tf => tf.size = tm.size ∧ (∀ (q : Nat) o t, l[q]? = some o → mN q = true → o.dst = some t → tf.getD t undef = V q) ∧ Ext F X X1 ∧ ((j ≤ cs1.length ∧ ∃ σ1, SimE (AsideF F X H1) X1 σ1 tf ∧ Ext (AsideF F X H1) X X1 ∧ CSemX P σ.n (fun v H2 => ∃ H3, (∀ k cs, look H3 k = some cs → look (H2 ++ H1) k = some cs) ∧ Stk P Q ks (.panic [{ v := v, recovered := false }]) ⟨σ.n, [], H3, []⟩) (fun σ2 => CSemX P σ.n (fun v H2 => Stk P Q ks (.panic [{ v := v, recovered := false }]) ⟨σ.n, [], H2, []⟩) (fun σ3 => ARun P Q ks σ3) (cs2.filterMap fun i => l[i]?) ((σ2.withH (σ2.h ++ H1)).alc ld)) ((cs1.drop j).filterMap fun i => l[i]?) σ1) ∨
    (cs1.length < j ∧ ∃ σ1, SimE F X1 σ1 tf ∧ CSemX P σ.n (fun v H2 => Stk P Q ks (.panic [{ v := v, recovered := false }]) ⟨σ.n, [], H2, []⟩) (fun σ3 => ARun P Q ks σ3) ((cs2.drop (j - cs1.length)).filterMap fun i => l[i]?) σ1)), fun tf0 hf => ?_⟩
  obtain ⟨hf1, hf2, hf3⟩ := hf
  have hfull : ∀ t u, look (puts (σ.withH H1) (msk mN 0 l) us).t t = some u → (∃ (q : Nat) (o : Oper), l[q]? = some o ∧ mN q = true ∧ o.dst = some t ∧ us[q]? = some u) ∨ (look σ.t t = some u ∧ ∀ (q : Nat) o, l[q]? = some o → mN q = true → o.dst ≠ some t) := by
    intro t u hu
    have e1 : (msk mN 0 l).take l.length = msk mN 0 l := List.take_of_length_le (by rw [msk_len]; omega)
    have e2 : us.take l.length = us := List.take_of_length_le (by omega)
    rcases hputs l.length t u (by rw [e1, e2]; exact hu) with ⟨q, o, _, k⟩ | ⟨k1, k2⟩
    · exact .inl ⟨q, o, k⟩
    · exact .inr ⟨k1, fun q o ho => k2 q o (List.getElem?_eq_some_iff.1 ho).1 ho⟩
  have hs0 : SimE (AsideF F X H1) X (((puts (σ.withH H1) (msk mN 0 l) us).withH H0).als (nMoves l mN 0 l)) tf0 := by
    refine als_sim (hsa.other (by rw [hf1, hs.size]; exact (puts_n (msk mN 0 l) us (σ.withH H1)).symm) hsa.fb (fun t u hu => ?_) (fun k c hk => ⟨hk, (hsa.box k c hk).nF⟩) (puts_e (msk mN 0 l) us (σ.withH H1) he) (fun r => r) (fun r sz lw ho => .inr ?_) (fun _ _ _ _ _ _ _ _ hne _ _ _ _ => hne)) fun p hp => ?_
    · rcases hfull t u hu with ⟨q, o, k1, k2, k3, k4⟩ | ⟨k1, k2⟩
      · rw [hf3 q o t k1 k2 k3]; exact (relV q o u k1 k4 k2).1
      · rw [hf2 t k2]; exact hs.slot t u k1
    · have fin : ∀ r, (σ.withH H0).own r = some (sz, lw) → rootV tf0 X.w r = rootV tm X.w r → (σ.withH H0).own r = some (sz, lw) ∧ rootV tf0 X.w r = rootV tm X.w r ∧ ∀ a n c, rootV tf0 X.w r = some (.slice (some a) n c) → ¬ AsideF F X H1 a.block := fun r h1 h2 => ⟨h1, h2, fun a n c hr => by
        obtain ⟨x, hx, hok⟩ := hsa.own r sz lw h1
        rw [h2, hx] at hr
        cases hr
        exact (own_blk hok).2.1⟩
      cases r with
      | s t =>
        obtain ⟨k0⟩ : look (puts (σ.withH H1) (msk mN 0 l) us).t t = some (.sl true sz lw) ∧ True := ⟨own_s_look ho, trivial⟩
        rcases hfull t _ k0 with ⟨q, o, k1, k2, k3, k4⟩ | ⟨k1, k2⟩
        · have := (relV q o _ k1 k4 k2).2
          cases this
        · exact fin (.s t) (by simp only [AS.own, AS.withH, k1]; rfl) (by simp only [rootV, hf2 t k2])
      | c k o => exact fin (.c k o) ho rfl
    · obtain ⟨i, o, k1, k2, k3, k4, k5⟩ := nMoves_get l 0 p hp
      rw [Nat.zero_add] at k2
      have hil := (List.getElem?_eq_some_iff.1 k1).1
      have hui : us[i]? = some us[i] := List.getElem?_eq_getElem (by omega)
      obtain ⟨d, j1, _, _, _, _, j6⟩ := hstep i o us[i] k1 hui k2
      have j7 := j6 p.1 k3
      rw [hf3 i o p.1 k1 k2 k3, hf2 p.2 k5, hV i o us[i] k1 hui]
      unfold valX
      simp only [k3]
      cases hld : ldAt ld p.1 with
      | some p' =>
        rw [hld] at j7
        exact absurd k4 (j7.2.2.1 p.2)
      | none =>
        have hr := hmv i o us[i] p.2 k1 hui k2 k4 k5
        generalize us[i] = u at hr ⊢
        by_cases hx : ∃ x, u = .v x
        · obtain ⟨x, rfl⟩ := hx
          exact (rel_v hr).symm
        · rw [k4]
          cases u <;> first | rfl | exact absurd ⟨_, rfl⟩ hx
  -- the boxes come back
  have back : ∀ X1 tf σ1, (∀ (q : Nat) o t, l[q]? = some o → mN q = true → o.dst = some t → tf.getD t undef = V q) → SimE (AsideF F X H1) X1 σ1 tf → Ext (AsideF F X H1) X X1 → SimE F X1 ((σ1.withH (σ1.h ++ H1)).alc ld) tf := by
    intro X1 tf σ1 hv h1 hx
    refine alc_sim (hs.backO (fun k cs hk => (h1look k cs hk).2) h1 (fun b hb => hb) hx) fun p hp => ?_
    obtain ⟨q, o, j1, j2, j3⟩ := hldb p hp
    have hql := (List.getElem?_eq_some_iff.1 j1).1
    have huq : us[q]? = some us[q] := List.getElem?_eq_getElem (by omega)
    obtain ⟨d, k1, _, _, _, _, k6⟩ := hstep q o us[q] j1 huq j2
    have k7 := k6 p.1 j3
    rw [ldAt_self hldn hp] at k7
    obtain ⟨_, ⟨cs, u0, g1, g2, g3, _⟩, _, _⟩ := k7
    rw [puts_h] at g1
    obtain ⟨v, g4, _⟩ := box_cellX (hbox1 _ _ g1) g2 g3
    rw [hv q o p.1 j1 j2 j3, hV q o us[q] j1 huq, cell_of_heap (hx.frame p.2.1 (.inr (.inl ⟨cs, g1⟩))).1, g4]
    unfold valX
    simp only [j3, ldAt_self hldn hp, g4, Option.getD_some]
  refine ⟨⟨hf1, hf3, Ext.refl _ _, .inl ⟨Nat.zero_le _, _, hs0, Ext.refl _ _, by rw [List.drop_zero]; exact hK⟩⟩, ?_, ?_, ?_⟩
  · rintro i o j X1 a1 tf ho hmi hj ⟨g0, g1, gx, hJ⟩ hsee
    have hil := (List.getElem?_eq_some_iff.1 ho).1
    have hui : us[i]? = some us[i] := List.getElem?_eq_getElem (by omega)
    obtain ⟨d, k1, k2, k3, k4, k5, k6⟩ := hstep i o us[i] ho hui hmi
    have hgb : (∀ b n, X1.g b = some n → b < X1.w.heap.size) ∧ (∀ b, F b → b < X1.w.heap.size) := by
      rcases hJ with ⟨_, σ1, q1, _⟩ | ⟨_, σ1, q1, _⟩
      · exact ⟨q1.gb, fun b hb => q1.fb b (.inl hb)⟩
      · exact ⟨q1.gb, q1.fb⟩
    have hph : mB i = true → Ext (AsideF F X H1) X X1 := fun hb => by
      simp only [hb] at hj
      rcases hJ with ⟨_, σ1, _, q2, _⟩ | ⟨q0, _⟩
      · exact q2
      · omega
    have hR : SimR F X1 (bst mB i (puts (σ.withH H1) ((msk mN 0 l).take i) (us.take i))) o.op a1.tmps := by
      refine ⟨hgb.1, hgb.2, fun t u ht hu => ?_, fun k c hk => ?_⟩
      · have hts : t ∈ seesOf l o := by simp only [seesOf]; exact List.mem_append_left _ (mem_tmpsOf ht)
        rw [bst_t] at hu
        rw [hsee t hts]
        rcases hputs i t u hu with ⟨q, oq, _, j1, j2, j3, j4⟩ | ⟨j1, j2⟩
        · rw [hf3 q oq t j1 j2 j3]
          exact (relV q oq u j1 j4 j2).1.mono gx.pres
        · rw [hf2 t fun q o' hq hmq hod => j2 q o' (hB.settled i o q o' t ho hq hmq hod hts).1 hq hmq hod]
          exact (hs.slot t u j1).mono gx.pres
      · obtain ⟨hb, hk⟩ := bst_h hk
        rw [puts_h] at hk
        have hbx := hbox1 k c hk
        have hE := hph hb
        exact hbx.keep ⟨(hE.frame k (.inr (.inl ⟨c, hk⟩))).1, (hE.frame k (.inr (.inl ⟨c, hk⟩))).2, hbx.nF⟩ hE.pres
    have k7 := k6 d k1
    have hVi := hV i o us[i] ho hui
    unfold valX at hVi
    simp only [k1] at hVi
    cases hld : ldAt ld d with
    | some p =>
      rw [hld] at k7
      simp only [hld] at hVi
      obtain ⟨hb, ⟨cs, u0, e1, e2, e3, _⟩, _, hrun⟩ := k7
      have hR2 : SimR F X1 (puts (σ.withH H1) ((msk mN 0 l).take i) (us.take i)) o.op a1.tmps := by
        have : bst mB i (puts (σ.withH H1) ((msk mN 0 l).take i) (us.take i)) = puts (σ.withH H1) ((msk mN 0 l).take i) (us.take i) := by unfold bst; rw [hb]
        rw [this] at hR; exact hR
      obtain ⟨v, v1, v2⟩ := hrun F X1 a1 hR2
      rw [puts_h] at e1
      have hc : X.w.cell? ⟨p.2.1, p.2.2, none⟩ = some v := by
        rw [← cell_of_heap ((hph hb).frame p.2.1 (.inr (.inl ⟨cs, e1⟩))).1]; exact v1
      unfold Runs
      rw [v2]
      exact ⟨by rw [hVi, hc]; rfl, X1, rfl, ⟨g0, g1, gx, hJ⟩, Ext.refl _ _⟩
    | none =>
      rw [hld] at k7
      simp only [hld] at hVi
      rcases k7 with ⟨x, hx⟩ | ⟨s, hop, hns⟩
      · refine (k4 F X1 a1 hR).mono fun y w' ⟨X2, q1, q2, q3, q4, _⟩ => ⟨?_, X2, q1, ⟨g0, g1, gx.trans (q2.ext hgb.1 hgb.2), ?_⟩, q2.ext hgb.1 hgb.2⟩
        · rw [hx] at q4 hVi
          rw [hVi]
          exact rel_v q4
        · rcases hJ with ⟨e1, σ1, e2, e3, e4⟩ | ⟨e1, σ1, e2, e3⟩
          · exact .inl ⟨e1, σ1, e2.new q2 q3, e3.trans (q2.ext e2.gb e2.fb), e4⟩
          · exact .inr ⟨e1, σ1, e2.new q2 q3, e3⟩
      · have hex := (move_run hop k4 hR).2
        unfold Runs
        rw [hex]
        refine ⟨?_, X1, rfl, ⟨g0, g1, gx, hJ⟩, Ext.refl _ _⟩
        rw [hsee s (by simp only [seesOf, hop]; exact List.mem_append_left _ (by simp [Op.operands, tmpsOf])), hf2 s hns, hVi]
        have hr := hmv i o us[i] s ho hui hmi hop hns
        generalize us[i] = u at hr ⊢
        by_cases hx : ∃ x, u = .v x
        · obtain ⟨x, rfl⟩ := hx
          exact rel_v hr
        · rw [hop]
          cases u <;> first | rfl | exact absurd ⟨_, rfl⟩ hx
  · rintro j c o X1 tf hcj hlo ⟨g0, g1, gx, hJ⟩
    have hcm : mN c = false := (hB.call c (List.getElem?_eq_some_iff.1 hlo).1).2 (List.mem_of_getElem? hcj)
    have hsz : tm.size = σ.n := hs.size
    have hput : ∀ x, (({ tmps := tf, defers := D } : Act).put o.dst x).tmps.size = tm.size ∧ ∀ (q : Nat) oq t, l[q]? = some oq → mN q = true → oq.dst = some t → (({ tmps := tf, defers := D } : Act).put o.dst x).tmps.getD t undef = V q := fun x => by
      refine ⟨by rw [put_sz]; exact g0, fun q oq t h1 h2 h3 => ?_⟩
      rw [put_getD, if_neg]
      · exact g1 q oq t h1 h2 h3
      · rintro ⟨e, _⟩
        have := hB.ndst q c oq o t h1 hlo h2 h3 e
        subst this
        rw [hcm] at h2; cases h2
    have two : ∀ (σ1 : AS) (rest : List Nat), cs1.length ≤ j → rest = cs2.drop (j + 1 - cs1.length) → SimE F X1 σ1 tf → CSemX P σ.n (fun v H2 => Stk P Q ks (.panic [{ v := v, recovered := false }]) ⟨σ.n, [], H2, []⟩) (fun σ3 => ARun P Q ks σ3) (o :: rest.filterMap fun i => l[i]?) σ1 → _ := fun σ1 rest hjl hrest h1 h2 =>
      runsX.mono (R' := fun x w' => ∃ X' : GW, X'.w = w' ∧ (((({ tmps := tf, defers := D } : Act).put o.dst x).tmps.size = tm.size ∧ (∀ (q : Nat) oq t, l[q]? = some oq → mN q = true → oq.dst = some t → (({ tmps := tf, defers := D } : Act).put o.dst x).tmps.getD t undef = V q) ∧ Ext F X X' ∧ ∃ σ2, SimE F X' σ2 (({ tmps := tf, defers := D } : Act).put o.dst x).tmps ∧ CSemX P σ.n (fun v H2 => Stk P Q ks (.panic [{ v := v, recovered := false }]) ⟨σ.n, [], H2, []⟩) (fun σ3 => ARun P Q ks σ3) ((cs2.drop (j + 1 - cs1.length)).filterMap fun i => l[i]?) σ2)) ∧ Ext F X1 X') (RP' := fun v w' => ∃ (X' : GW) (H2 : List (Nat × List AV)) (tm2 : Array Value), X'.w = w' ∧ Stk P Q ks (.panic [{ v := v, recovered := false }]) ⟨tm.size, [], H2, []⟩ ∧ SimE F X' ⟨tm.size, [], H2, []⟩ tm2 ∧ Ext F X1 X') (h2.2 F X1 { tmps := tf, defers := D } h1) (fun x w' ⟨X', σ', e1, e2, e3, e4⟩ => ⟨X', e1, ⟨(hput x).1, (hput x).2, gx.trans e4, σ', e3, by rw [← hrest]; exact e2⟩, e4⟩) (fun v w' ⟨X', H2, e1, e2, e3, e4⟩ => ⟨X', H2, tf, e1, by rw [hsz]; exact e2, by rw [hsz, ← h2.1]; exact e3, e4⟩)
    rcases hJ with ⟨e1, σ1, e2, e3, e4⟩ | ⟨e1, σ1, e2, e3⟩
    · by_cases hjl : j < cs1.length
      · have hc1 : cs1[j]? = some c := by rw [List.getElem?_append_left hjl] at hcj; exact hcj
        have hdr : cs1.drop j = c :: cs1.drop (j + 1) := by
          rw [List.drop_eq_getElem_cons hjl]
          have := List.getElem?_eq_getElem hjl
          rw [hc1] at this
          rw [Option.some.inj this]
        rw [hdr, List.filterMap_cons, hlo] at e4
        refine (e4.2 _ X1 { tmps := tf, defers := D } e2).mono (fun x w' ⟨X', σ', f1, f2, f3, f4⟩ => ⟨X', f1, ⟨(hput x).1, (hput x).2, gx.trans (f4.mono fun b hb => .inl hb), .inl ⟨hjl, σ', f3, e3.trans f4, f2⟩⟩, f4.mono fun b hb => .inl hb⟩) (fun v w' ⟨X', H2, f1, ⟨H3, f5, f2⟩, f3, f4⟩ => ⟨X', H3, tf, f1, by rw [hsz]; exact f2, ?_, f4.mono fun b hb => .inl hb⟩)
        have := hs.backO (fun k cs hk => (h1look k cs hk).2) f3 (fun b hb => hb) (e3.trans f4)
        rw [hsz, ← e4.1]
        exact SimE.sub this rfl (fun _ _ h => by cases h) f5 (fun p hp => by cases hp)
      · have hje : j = cs1.length := by omega
        have hc2 : cs2[0]? = some c := by
          rw [List.getElem?_append_right (by omega), hje, Nat.sub_self] at hcj; exact hcj
        cases hcs2 : cs2 with
        | nil => rw [hcs2] at hc2; cases hc2
        | cons c' r =>
          rw [hcs2] at hc2
          simp at hc2
          subst hc2
          rw [hje, List.drop_length] at e4
          have e5 : CSemX P σ.n (fun v H2 => Stk P Q ks (.panic [{ v := v, recovered := false }]) ⟨σ.n, [], H2, []⟩) (fun σ3 => ARun P Q ks σ3) (cs2.filterMap fun i => l[i]?) ((σ1.withH (σ1.h ++ H1)).alc ld) := e4
          rw [hcs2, List.filterMap_cons, hlo] at e5
          refine (two _ r (by omega) (by rw [hcs2, hje]; simp) (back X1 tf σ1 g1 e2 e3) e5).mono (fun x w' ⟨X', f1, ⟨f2, f3, f4, σ2, f5, f6⟩, f7⟩ => ⟨X', f1, ⟨f2, f3, f4, .inr ⟨by omega, σ2, f5, by rw [← hcs2]; exact f6⟩⟩, f7⟩) (fun v w' h => h)
    · have hc2 : cs2[j - cs1.length]? = some c := by
        rw [List.getElem?_append_right (by omega)] at hcj; exact hcj
      have hlt := (List.getElem?_eq_some_iff.1 hc2).1
      have hdr : cs2.drop (j - cs1.length) = c :: cs2.drop (j + 1 - cs1.length) := by
        rw [List.drop_eq_getElem_cons hlt, show j - cs1.length + 1 = j + 1 - cs1.length by omega]
        have := List.getElem?_eq_getElem hlt
        rw [hc2] at this
        rw [Option.some.inj this]
      rw [hdr, List.filterMap_cons, hlo] at e3
      exact (two σ1 _ (by omega) rfl e2 e3).mono (fun x w' ⟨X', f1, ⟨f2, f3, f4, σ2, f5, f6⟩, f7⟩ => ⟨X', f1, ⟨f2, f3, f4, .inr ⟨by omega, σ2, f5, f6⟩⟩, f7⟩) (fun v w' h => h)
  · rintro X1 tf ⟨g0, g1, gx, ⟨g2, σ1, g3, g4, g5⟩ | ⟨g2, σ1, g3, g4⟩⟩
    · have e2 : cs2 = [] := by
        rw [List.length_append] at g2
        exact List.length_eq_zero_iff.1 (by omega)
      subst e2
      rw [List.append_nil, List.drop_length] at g5
      exact ⟨_, back X1 tf σ1 g1 g3 g4, g5⟩
    · rw [List.length_append, List.drop_eq_nil_of_le (by omega)] at g4
      exact ⟨σ1, g3, g4⟩
end
end Go.Proofs.Ytgmlkhfjhogdbaa
