/- Regions that draw, with one operation among them that turns a box. -/
import Derived.Test.YtgmlkhfjhogdbaaGD
namespace Go.Proofs.Ytgmlkhfjhogdbaa
open Go.RowKit P
set_option linter.unusedSimpArgs false
set_option linter.unusedVariables false

/-- Other boxes. -/
def AS.withH (σ : AS) (h : List (Nat × List AV)) : AS := { n := σ.n, t := σ.t, h := h, e := σ.e }
def noBox {α : Type} (k : Nat) : List (Nat × α) → List (Nat × α)
  | [] => []
  | p :: r => if p.1 = k then noBox k r else p :: noBox k r
theorem noBox_look {α : Type} {k' k : Nat} {a : α} : ∀ {h : List (Nat × α)}, look (noBox k' h) k = some a → k ≠ k' ∧ look h k = some a
  | [], h => by simp [noBox, look_nil] at h
  | (q, b) :: r, h => by
    simp only [noBox] at h
    by_cases e : q = k'
    · rw [if_pos e] at h
      obtain ⟨h1, h2⟩ := noBox_look h
      refine ⟨h1, ?_⟩
      rw [look_cons, if_neg (by rw [e]; exact h1)]; exact h2
    · rw [if_neg e, look_cons] at h
      by_cases e2 : k = q
      · rw [if_pos e2] at h
        rw [look_cons, if_pos e2]
        exact ⟨by rw [e2]; exact e, h⟩
      · rw [if_neg e2] at h
        obtain ⟨h1, h2⟩ := noBox_look h
        rw [look_cons, if_neg e2]; exact ⟨h1, h2⟩
theorem setc_h (σ : AS) (k : Nat) (cs : List AV) : (σ.setc k cs).h = (k, cs) :: σ.h := rfl
def drawLB (l body : List Oper) (om oa : Oper) (after : List Oper) : Bool :=
  lexFrom 0 l && settledAllB l body body 0 && dstsB body [] && settledB l body.length om body 0 && (om.guard.isNone && om.dst.isNone) && chainB after (body.length + 1) && coverG ((body ++ [om]).map depsOf).reverse (depsOf oa)
section
variable {P : Program} {Q : Exit → AS → Prop} {ks : List It} {T : Tys P} {σ : AS} {K : AS → Prop} {l body after rest : List Oper} {om oa o : Oper} {d k : Nat} {u : AV}
/-- A region that draws: what turns nothing in whatever order, and one that turns a box somewhere among it; then the rest as the text goes. What turns nothing is reckoned without that box. -/
theorem ar_drawL {id k' : Nat} (hm : P.follows .mixedOrders = true) (hl : l = body ++ om :: oa :: after) (hB : drawLB l body om oa after = true) (he : σ.e = [])
    (h : QSem P l (fun σ' => ∃ cs' : List AV, (∀ σ1 : AS, σ1.n = σ.n → σ1.e = [] → σ1.h = σ.h → (∀ t, Operand.tmp t ∈ om.op.operands.toList → look σ1.t t = look σ'.t t) → EffTo P om σ1 (σ1.setc k' cs')) ∧ ARun P Q (.o l (body.length + 1) (oa :: after) :: ks) (((σ'.withH σ.h).setc k' cs').als (slotMoves body))) body (σ.withH (noBox k' σ.h))) : ARun P Q (.c (.region id l.toArray true) :: ks) σ := by
  intro F X a hs D hdf
  obtain ⟨us, hul, ⟨cs', hom, hK⟩, hstep⟩ := q_table body (σ.withH (noBox k' σ.h)) h
  simp only [drawLB, Bool.and_eq_true] at hB
  obtain ⟨⟨⟨⟨⟨⟨hx, hset⟩, hdst⟩, hsom⟩, hgd⟩, hchn⟩, hcov⟩ := hB
  have hguard : om.guard = none := by
    cases hg : om.guard with
    | none => rfl
    | some p => rw [hg] at hgd; simp at hgd
  have hodst : om.dst = none := by
    cases hg : om.dst with
    | none => rfl
    | some p => rw [hg] at hgd; simp at hgd
  have hdis := (dstsB_spec body [] hdst).2
  have hlb : ∀ i, i < body.length → l[i]? = body[i]? := fun i hi => by rw [hl, List.getElem?_append_left hi]
  have hlo : l[body.length]? = some om := by rw [hl]; simp
  have hla : l[body.length + 1]? = some oa := by rw [hl]; simp
  have hll : body.length + 1 < l.length := by rw [hl]; simp
  have hlex : ∀ (i : Nat) o, l[i]? = some o → ∀ j ∈ depsOf o, j < i := by
    intro i o ho j hj
    have := lexFrom_spec l 0 i o hx ho j hj
    omega
  have hch : ∀ (i : Nat) o, body.length + 1 < i → l[i]? = some o → i - 1 ∈ depsOf o := by
    intro i o hi ho
    obtain ⟨j, hj⟩ : ∃ j, i = body.length + 1 + 1 + j := ⟨i - body.length - 1 - 1, by omega⟩
    have hoa : after[j]? = some o := by
      rw [hl, List.getElem?_append_right (by omega)] at ho
      rw [show i - body.length = j + 1 + 1 by omega] at ho
      simpa using ho
    have := chainB_get hchn j o hoa
    rwa [show i - 1 = body.length + 1 + j by omega]
  refine wp_region_any hm ?_
  let Inv : Array Bool → GW → Act → Prop := fun listed X1 a1 => ∃ σ1 : AS, SimE F X1 σ1 a1.tmps ∧ σ1.n = σ.n ∧ σ1.h = (if listed.getD body.length false = true then (σ.setc k' cs').h else σ.h) ∧ σ1.e = [] ∧
    (∀ (i : Nat) o d u, body[i]? = some o → us[i]? = some u → o.dst = some d → listed.getD i false = true → look σ1.t d = some u) ∧
    (∀ t, (∀ (i : Nat) o, body[i]? = some o → o.dst = some t → listed.getD i false = false) → look σ1.t t = look σ.t t) ∧
    (∀ (i : Nat) o d s, body[i]? = some o → o.dst = some d → o.op = .move (.tmp s) → o.guard = none → (∀ (q : Nat) oq, body[q]? = some oq → oq.dst ≠ some s) → listed.getD i false = true → a1.tmps.getD d undef = a1.tmps.getD s undef)
  have ready_of : ∀ (listed : Array Bool), listed.size = l.length → listed.getD (body.length + 1) false = false → Region.ready .any l.toArray listed ≠ [] := by
    intro listed hsz hlast hnil
    obtain ⟨k, hk, hkf, hkl⟩ := first_false (fun j => listed.getD j false) (body.length + 1 + 1) ⟨body.length + 1, by omega, hlast⟩
    have hkl2 : k < l.length := by omega
    have hmem : k ∈ Region.ready .any l.toArray listed := by
      refine mem_ready.2 ⟨by rw [getD_tf (by omega)]; exact hkf, l[k], by simp [hkl2], fun e he hb => ?_⟩
      exact hkl e.on (hlex k l[k] (List.getElem?_eq_getElem hkl2) e.on (mem_depsOf.2 ⟨e, he, hb, rfl⟩))
    rw [hnil] at hmem; cases hmem
  have key : ∀ (fuel : Nat) (listed : Array Bool) (X1 : GW) (a1 : Act), listed.size = l.length → (∀ j, body.length + 1 ≤ j → listed.getD j false = false) →
      ((List.range l.length).filter (fun i => !listed.getD i true)).length ≤ fuel → Ext F X X1 → a1.defers = D → Inv listed X1 a1 →
      (∀ j oj, l[j]? = some oj → listed.getD j false = true → ∀ d ∈ depsOf oj, listed.getD d false = true) →
      wpAny P .any l.toArray (PostA F X D (Stk P Q ks)) fuel listed a1 X1.w := by
    intro fuel
    induction fuel with
    | zero =>
      intro listed X1 a1 hsz hlast hf hx1 hd1 hI hdn
      have h0 := List.length_eq_zero_iff.1 (Nat.le_zero.1 hf)
      have := List.filter_eq_nil_iff.1 h0 (body.length + 1) (List.mem_range.2 (by omega))
      rw [getD_tf (by omega), hlast _ (Nat.le_refl _)] at this; exact absurd rfl this
    | succ fuel ih =>
      intro listed X1 a1 hsz hlast hf hx1 hd1 hI hdn
      refine ⟨fun hnil => absurd hnil (ready_of listed hsz (hlast _ (Nat.le_refl _))), fun i hi => ?_⟩
      obtain ⟨h1, o, h2, h3⟩ := mem_ready.1 hi
      have h2l : l[i]? = some o := by simpa using h2
      have hil : i < l.length := (List.getElem?_eq_some_iff.1 h2l).1
      have hlf : listed.getD i false = false := by rw [← getD_tf (by omega)]; exact h1
      obtain ⟨σ1, s1, s2, s3, se, s4, s5, s6⟩ := hI
      -- what is seen is as in the text's order
      have hsee0 : ∀ (i : Nat) (o : Oper), l[i]? = some o → i ≤ body.length → settledB l i o body 0 = true → listed.getD i false = false → (∀ e ∈ o.after, Region.binds .any e = true → listed.getD e.on false = true) → ∀ t, t ∈ seesOf l o → look (puts (σ.withH (noBox k' σ.h)) (body.take i) (us.take i)).t t = look σ1.t t := by
        intro i o h2l hib hset1 hlf h3 t ht
        rw [puts_look _ _ _ _ (by simp; omega) (fun q q' o1 o2 d h1 h2 h3 h4 => by
          rw [List.getElem?_take] at h1 h2
          split at h1
          · split at h2
            · exact hdis q q' o1 o2 d h1 h2 h3 h4
            · cases h2
          · cases h1)]
        cases hf : ((body.take i).zip (us.take i)).find? (fun p => p.1.dst == some t) with
        | some p =>
          have hmem := List.mem_of_find?_eq_some hf
          have hpd : p.1.dst = some t := by simpa using List.find?_some hf
          obtain ⟨q, hq⟩ := List.getElem?_of_mem hmem
          rw [List.getElem?_zip_eq_some, List.getElem?_take, List.getElem?_take] at hq
          have hqi : q < i := by
            apply Classical.byContradiction
            intro hc
            rw [if_neg hc] at hq; cases hq.1
          rw [if_pos hqi, if_pos hqi] at hq
          obtain ⟨d', hd', hs'⟩ := settledB_spec body 0 q p.1 hset1 hq.1
          rw [hpd] at hd'; cases hd'
          have hdep := (hs' ht (by omega)).1 (by omega)
          rw [Nat.zero_add] at hdep
          obtain ⟨e, he1, he2, he3⟩ := mem_depsOf.1 hdep
          have hq3 : listed.getD q false = true := by rw [← he3]; exact h3 e he1 he2
          rw [s4 q p.1 t p.2 hq.1 hq.2 hpd hq3]
        | none =>
          simp only
          symm
          refine s5 t fun j oj hj hjd => ?_
          have hjl := (List.getElem?_eq_some_iff.1 hj).1
          by_cases hji : j < i
          · have hmem : (oj, us[j]'(by omega)) ∈ (body.take i).zip (us.take i) := by
              refine List.mem_of_getElem? (i := j) (List.getElem?_zip_eq_some.2 ⟨?_, ?_⟩)
              · rw [List.getElem?_take, if_pos hji]; exact hj
              · rw [List.getElem?_take, if_pos hji]; exact List.getElem?_eq_getElem (by omega)
            exact absurd (by simpa using hjd) (List.find?_eq_none.1 hf _ hmem)
          · by_cases hje : j = i
            · subst hje; exact hlf
            · obtain ⟨d', hd', hs'⟩ := settledB_spec body 0 j oj hset1 hj
              rw [hjd] at hd'; cases hd'
              have hdep := (hs' ht (by omega)).2 (by omega)
              cases hc : listed.getD j false
              · rfl
              · have := hdn j oj (by rw [hlb j hjl]; exact hj) hc i hdep
                rw [hlf] at this; cases this
      have hR0 : ∀ (i : Nat) (o : Oper), l[i]? = some o → i ≤ body.length → settledB l i o body 0 = true → listed.getD i false = false → (∀ e ∈ o.after, Region.binds .any e = true → listed.getD e.on false = true) → SimR F X1 (puts (σ.withH (noBox k' σ.h)) (body.take i) (us.take i)) o.op a1.tmps := by
        intro i o h2l hib hset1 hlf h3
        refine ⟨s1.gb, s1.fb, fun t u ht hu => ?_, fun k cs hk => ?_⟩
        · rw [hsee0 i o h2l hib hset1 hlf h3 t (by simp only [seesOf]; exact List.mem_append_left _ (mem_tmpsOf ht))] at hu
          exact s1.slot t u hu
        · rw [puts_h] at hk
          obtain ⟨hk1, hk2⟩ := noBox_look hk
          refine s1.box k cs ?_
          rw [s3]
          split
          · rw [setc_h, look_cons, if_neg hk1]; exact hk2
          · exact hk2
      unfold wpOp
      simp only [h2]
      by_cases hib : i < body.length
      · have h2' : body[i]? = some o := by rw [← hlb i hib]; exact h2l
        have hui : us[i]? = some us[i] := List.getElem?_eq_getElem (by omega)
        obtain ⟨d, hod, hdn2, hcase⟩ := hstep i o us[i] h2' hui
        have hset1 : settledB l i o body 0 = true := by have := settledAllB_spec body 0 i o hset h2'; rwa [Nat.zero_add] at this
        have hsee := hsee0 i o h2l (by omega) hset1 hlf h3
        have hwan : wantedA l (puts (σ.withH (noBox k' σ.h)) (body.take i) (us.take i)) o = wantedA l σ1 o := by
          refine (wantedA_congr (by rw [puts_n, s2]; rfl) fun j want d0 hg hd0 => hsee d0 ?_)
          simp only [seesOf, hg, hd0]; simp
        have hdz : d < a1.tmps.size := by rw [s1.size, s2]; exact lt_of_ble hdn2
        have go : ∀ (v : Value) (X2 : GW), (∀ s, o.op = .move (.tmp s) → o.guard = none → v = a1.tmps.getD s undef) → New X1 X2 → (∀ b n, X2.g b = some n → b < X2.w.heap.size) → Rel X2 us[i] v → FreshOk F X1.w.heap.size X2 us[i] v → wpAny P .any l.toArray (PostA F X D (Stk P Q ks)) fuel (listed.setIfInBounds i true) (a1.put o.dst v) X2.w := by
          intro v X2 hv2 hn2 hg2 hr2 hf2
          refine ih (listed.setIfInBounds i true) X2 (a1.put o.dst v) (by simp [hsz]) (fun j hj => by rw [getD_setb false (by omega), if_neg (by omega)]; exact hlast j hj) ?_ (hx1.trans (hn2.ext s1.gb s1.fb)) (by rw [put_defers]; exact hd1) ?_ ?_
          · have := count_set hil hsz h1
            omega
          · refine ⟨σ1.put d us[i], ?_, s2, by rw [getD_setb false (by omega), if_neg (show ¬ body.length = i by omega)]; exact s3, by simp [AS.put, se], fun j oj dj uj hj huj hdj hlj => ?_, fun t ht => ?_, fun j oj dj sj hj hdj hopj hgj hsj hlj => ?_⟩
            · rw [hod]
              exact s1.put_new (by rw [s2]; exact lt_of_ble hdn2) hn2 hg2 hr2 hf2
            · simp only [AS.put, look_cons]
              by_cases e : j = i
              · subst e
                rw [h2'] at hj; cases hj
                rw [hod] at hdj; cases hdj
                rw [if_pos rfl, ← huj, hui]
              · have hne : dj ≠ d := fun e2 => e (hdis j i oj o d hj h2' (by rw [hdj, e2]) hod)
                rw [if_neg hne]
                rw [getD_setb false (by omega), if_neg e] at hlj
                exact s4 j oj dj uj hj huj hdj hlj
            · have hne : t ≠ d := by
                rintro rfl
                have := ht i o h2' hod
                rw [getD_setb false (by omega), if_pos rfl] at this; cases this
              simp only [AS.put, look_cons]
              rw [if_neg hne]
              refine s5 t fun j oj hj hjd => ?_
              have := ht j oj hj hjd
              rw [getD_setb false (by omega)] at this
              by_cases e : j = i
              · rw [if_pos e] at this; cases this
              · rw [if_neg e] at this; exact this
            · have hds : d ≠ sj := fun e => hsj i o h2' (by rw [hod, e])
              rw [hod]
              have hset : ∀ (x : Nat), (a1.put (some d) v).tmps.getD x undef = if x = d then v else a1.tmps.getD x undef := by
                intro x
                simp only [Act.put, Array.getD_eq_getD_getElem?, Array.getElem?_setIfInBounds]
                by_cases e : d = x
                · subst e; rw [if_pos rfl, if_pos hdz, if_pos rfl]; rfl
                · rw [if_neg e, if_neg (Ne.symm e)]
              rw [hset, hset, if_neg (Ne.symm hds)]
              by_cases e : j = i
              · subst e
                rw [h2'] at hj; cases hj
                rw [hod] at hdj; cases hdj
                rw [if_pos rfl]
                exact hv2 sj hopj hgj
              · have hne : dj ≠ d := fun e2 => e (hdis j i oj o d hj h2' (by rw [hdj, e2]) hod)
                rw [if_neg hne]
                rw [getD_setb false (by omega), if_neg e] at hlj
                exact s6 j oj dj sj hj hdj hopj hgj hsj hlj
          · intro j oj hoj hj dd hdd
            rw [getD_setb false (by omega)]
            by_cases e : dd = i
            · rw [if_pos e]
            · rw [if_neg e]
              by_cases e2 : j = i
              · subst e2
                rw [h2l] at hoj; cases hoj
                obtain ⟨x, hx1, hx2, hx3⟩ := mem_depsOf.1 hdd
                rw [← hx3]; exact h3 x hx1 hx2
              · rw [getD_setb false (by omega), if_neg e2] at hj
                exact hdn j oj hoj hj dd hdd
        rcases hcase with ⟨hw, hop⟩ | ⟨hw, hun⟩
        · rw [hwan] at hw
          rw [if_pos (wanted_of s1 hw)]
          left
          have hrun := hop F X1 a1 (hR0 i o h2l (by omega) hset1 hlf h3)
          have hrun2 : Runs P o a1 X1.w fun x w' => (∀ s, o.op = .move (.tmp s) → o.guard = none → x = a1.tmps.getD s undef) ∧ ∃ X' : GW, X'.w = w' ∧ New X1 X' ∧ (∀ b n, X'.g b = some n → b < X'.w.heap.size) ∧ Rel X' us[i] x ∧ FreshOk F X1.w.heap.size X' us[i] x := by
            by_cases hmv : ∃ s, o.op = .move (.tmp s)
            · obtain ⟨s, hs⟩ := hmv
              have hex : (execOp a1.eval o).run P X1.w = .ok (.value (a1.tmps.getD s undef)) X1.w := by
                obtain ⟨dst, op, ty, pos, af, g⟩ := o
                simp only at hs
                subst hs
                rfl
              unfold Runs at hrun ⊢
              rw [hex] at hrun ⊢
              exact ⟨fun s' h' _ => by rw [hs] at h'; cases h'; rfl, hrun⟩
            · exact hrun.mono fun x w' h => ⟨fun s h' => absurd ⟨s, h'⟩ hmv, h⟩
          refine hrun2.wp fun x w' ⟨k0, X2, k1, k2, k3, k4, k5⟩ => ?_
          subst k1
          exact go x X2 k0 k2 k3 k4 k5
        · rw [hwan] at hw
          rw [if_neg (by rw [wanted_of s1 hw]; simp)]
          refine go undef X1 (fun s _ hg => ?_) (New.refl X1) s1.gb (by rw [hun]; exact .v _) (by rw [hun]; exact FreshOk.plain rfl)
          · exfalso
            unfold wantedA at hw
            rw [hg] at hw
            cases hw
      · by_cases hio : i = body.length
        · subst hio
          rw [hlo] at h2l; cases h2l
          have hsee := hsee0 body.length om hlo (Nat.le_refl _) hsom hlf h3
          have hof : listed.getD body.length false = false := hlf
          rw [if_neg (by rw [hof]; decide)] at s3
          have hrun := hom σ1 s2 se s3 (fun t ht => by
            have := hsee t (by simp only [seesOf]; exact List.mem_append_left _ (mem_tmpsOf ht))
            rw [List.take_of_length_le (Nat.le_refl _), List.take_of_length_le (by omega)] at this
            exact this.symm) (fun σ2 => σ2 = σ1.setc k' cs') rfl F X1 a1 s1
          have hw : Region.wanted om (yielded l.toArray a1.tmps) = true := by unfold Region.wanted; rw [hguard]
          rw [if_pos hw]
          left
          refine hrun.wp fun x w' ⟨X2, σ2, k1, k2, k3, k4⟩ => ?_
          subst k1 k2
          rw [hodst] at k3 ⊢
          refine ih (listed.setIfInBounds body.length true) X2 (a1.put none x) (by simp [hsz]) (fun j hj => by rw [getD_setb false (by omega), if_neg (by omega)]; exact hlast j (by omega)) ?_ (hx1.trans k4) (by rw [put_defers]; exact hd1) ?_ ?_
          · have := count_set hil hsz h1
            omega
          · refine ⟨σ1.setc k' cs', k3, s2, ?_, ?_, fun j oj dj uj hj huj hdj hlj => ?_, fun t ht => ?_, fun j oj dj sj hj hdj hopj hgj hsj hlj => ?_⟩
            · rw [getD_setb false (by omega), if_pos rfl, if_pos rfl, setc_h, setc_h, s3]
            · simp [AS.setc, AS.dropC, se]
            · rw [getD_setb false (by omega), if_neg (by have := (List.getElem?_eq_some_iff.1 hj).1; omega)] at hlj
              exact s4 j oj dj uj hj huj hdj hlj
            · refine s5 t fun j oj hj hjd => ?_
              have := ht j oj hj hjd
              rw [getD_setb false (by omega), if_neg (by have := (List.getElem?_eq_some_iff.1 hj).1; omega)] at this
              exact this
            · rw [getD_setb false (by omega), if_neg (by have := (List.getElem?_eq_some_iff.1 hj).1; omega)] at hlj
              exact s6 j oj dj sj hj hdj hopj hgj hsj hlj
          · intro j oj hoj hj dd hdd
            rw [getD_setb false (by omega)]
            by_cases e : dd = body.length
            · rw [if_pos e]
            · rw [if_neg e]
              by_cases e2 : j = body.length
              · subst e2
                rw [hlo] at hoj; cases hoj
                obtain ⟨x, hx1, hx2, hx3⟩ := mem_depsOf.1 hdd
                rw [← hx3]; exact h3 x hx1 hx2
              · rw [getD_setb false (by omega), if_neg e2] at hj
                exact hdn j oj hoj hj dd hdd
        have hie : i = body.length + 1 := by
          apply Classical.byContradiction
          intro hne
          obtain ⟨e, he1, he2, he3⟩ := mem_depsOf.1 (hch i o (by omega) h2l)
          have h9 := h3 e he1 he2
          rw [he3, hlast (i - 1) (by omega)] at h9; cases h9
        subst hie
        rw [hla] at h2l; cases h2l
        have hall1 : ∀ j, j < body.length + 1 → listed.getD j false = true := by
          intro j hj
          refine coverG_spec (p := fun j => listed.getD j false = true) hcov (fun q hq => ?_) (fun i d hi hli q hq => ?_) j (by simpa using hj)
          · obtain ⟨e, he1, he2, he3⟩ := mem_depsOf.1 hq
            rw [← he3]; exact h3 e he1 he2
          · rw [List.reverse_reverse, List.getElem?_map, Option.map_eq_some_iff] at hi
            obtain ⟨oi, hi1, rfl⟩ := hi
            have hil2 := (List.getElem?_eq_some_iff.1 hi1).1
            refine hdn i oi ?_ hli q hq
            rw [hl, show body ++ om :: oa :: after = (body ++ [om]) ++ oa :: after by simp, List.getElem?_append_left hil2]; exact hi1
        have hallb : ∀ j, j < body.length → listed.getD j false = true := fun j hj => hall1 j (by omega)
        rw [if_pos (hall1 body.length (by omega))] at s3
        have hfin : SimE F X1 (((puts (σ.withH (noBox k' σ.h)) body us).withH σ.h).setc k' cs') a1.tmps := by
          refine s1.sub (by rw [s2]; exact puts_n body us (σ.withH (noBox k' σ.h))) (fun t u hu => ?_) (fun k cs hk => by rw [s3]; exact hk) (fun p hp => by
            have he0 := puts_e body us (σ.withH (noBox k' σ.h)) he
            have he1 : (((puts (σ.withH (noBox k' σ.h)) body us).withH σ.h).setc k' cs').e = [] := by
              have : ((puts (σ.withH (noBox k' σ.h)) body us).withH σ.h).e = [] := he0
              simp only [AS.setc, AS.dropC]
              rw [this]; rfl
            rw [he1] at hp; cases hp)
          have hu : look (puts (σ.withH (noBox k' σ.h)) body us).t t = some u := hu
          rw [puts_look body us (σ.withH (noBox k' σ.h)) t hul hdis] at hu
          cases hf : (body.zip us).find? (fun p => p.1.dst == some t) with
          | some p =>
            rw [hf] at hu
            cases hu
            have hmem := List.mem_of_find?_eq_some hf
            have hpd : p.1.dst = some t := by simpa using List.find?_some hf
            obtain ⟨q, hq⟩ := List.getElem?_of_mem hmem
            rw [List.getElem?_zip_eq_some] at hq
            exact s4 q p.1 t p.2 hq.1 hq.2 hpd (hallb q (List.getElem?_eq_some_iff.1 hq.1).1)
          | none =>
            rw [hf] at hu
            rw [← hu]
            refine s5 t fun i o ho hod => ?_
            have hil := (List.getElem?_eq_some_iff.1 ho).1
            have hui : us[i]? = some us[i] := List.getElem?_eq_getElem (by omega)
            have := List.find?_eq_none.1 hf (o, us[i]) (List.mem_of_getElem? (List.getElem?_zip_eq_some.2 ⟨ho, hui⟩))
            exact absurd (by simpa using hod) this
        have hfin2 : SimE F X1 ((((puts (σ.withH (noBox k' σ.h)) body us).withH σ.h).setc k' cs').als (slotMoves body)) a1.tmps := by
          refine als_sim hfin fun p hp => ?_
          unfold slotMoves at hp
          obtain ⟨o, ho1, ho2⟩ := List.mem_filterMap.1 hp
          obtain ⟨i, hi⟩ := List.getElem?_of_mem ho1
          split at ho2
          · rename_i d s hd' hop' hg'
            split at ho2
            · rename_i hall
              cases ho2
              refine s6 i o d s hi hd' hop' hg' (fun q oq hq hq' => ?_) (hallb i (List.getElem?_eq_some_iff.1 hi).1)
              have := List.all_eq_true.1 hall oq (List.mem_of_getElem? hq)
              rw [hq'] at this
              simp at this
            · cases ho2
          · cases ho2
        have hrun := hK F X1 a1 hfin2 D hd1
        have hn : l.length - (body.length + 1) = after.length + 1 := by
          rw [hl]; simp only [List.length_append, List.length_cons]; omega
        rw [hn, List.range'_succ, wpOps_cons] at hrun
        have hcnt : after.length ≤ fuel := by
          have hsub : (List.range' (body.length + 1) (after.length + 1)).length ≤ ((List.range l.length).filter (fun i => !listed.getD i true)).length := by
            refine List.Sublist.length_le ?_
            have e1 : List.range l.length = List.range' 0 (body.length + 1) ++ List.range' (body.length + 1) (after.length + 1) := by
              have := List.range'_append_1 (s := 0) (m := body.length + 1) (n := after.length + 1)
              rw [Nat.zero_add] at this
              rw [List.range_eq_range', this, show l.length = body.length + 1 + (after.length + 1) by rw [hl]; simp only [List.length_append, List.length_cons]; omega]
            rw [e1, List.filter_append]
            refine List.Sublist.trans ?_ (List.sublist_append_right _ _)
            have : (List.range' (body.length + 1) (after.length + 1)).filter (fun i => !listed.getD i true) = List.range' (body.length + 1) (after.length + 1) := by
              rw [List.filter_eq_self]
              intro q hq
              obtain ⟨hq1, hq2⟩ := List.mem_range'_1.1 hq
              rw [getD_tf (by omega), hlast q hq1]; rfl
            rw [this]
            exact List.Sublist.refl _
          rw [List.length_range'] at hsub
          omega
        have hrun' := wpOp_mono (K' := wpAny P .any l.toArray (PostA F X1 D (Stk P Q ks)) fuel (listed.setIfInBounds (body.length + 1) true)) (fun a' w' h' => chain_any hlex hch after.length (body.length + 1 + 1) fuel (listed.setIfInBounds (body.length + 1) true) a' w' (by omega) (by omega) (by simp [hsz]) (fun j hj => by
          rw [getD_setb false (by omega)]
          by_cases e : j = body.length + 1
          · rw [if_pos e]
          · rw [if_neg e]; exact hall1 j (by omega)) (fun j hj => by rw [getD_setb false (by omega), if_neg (by omega)]; exact hlast j (by omega)) hcnt h') hrun
        unfold wpOp at hrun'
        simp only [h2] at hrun'
        have hmono := wpAny_mono' (P := P) (ops := l.toArray) (R := PostA F X1 D (Stk P Q ks)) (R' := PostA F X D (Stk P Q ks)) (fun e a w hp => hp.ext hx1)
        have := wpOp_mono2 (P := P) (ops := l.toArray) (R := PostA F X1 D (Stk P Q ks)) (R' := PostA F X D (Stk P Q ks)) (fun e a w hp => hp.ext hx1) (i := body.length + 1) (K := wpAny P .any l.toArray (PostA F X1 D (Stk P Q ks)) fuel (listed.setIfInBounds (body.length + 1) true)) (K' := wpAny P .any l.toArray (PostA F X D (Stk P Q ks)) fuel (listed.setIfInBounds (body.length + 1) true)) (fun a w h => hmono fuel _ a w h) (a := a1) (w := X1.w) (by unfold wpOp; simp only [h2]; exact hrun')
        unfold wpOp at this
        simp only [h2] at this
        exact this
  have hXd : New X ⟨X.w.drew, X.g⟩ := ⟨rfl, rfl, rfl, Nat.le_refl _, fun _ _ => ⟨rfl, rfl⟩⟩
  have hsd := hs.new hXd hs.gb
  have hno : ∀ i, (Array.replicate l.toArray.size false).getD i false = false := fun i => by
    simp only [Array.getD_eq_getD_getElem?, Array.getElem?_replicate]
    split <;> simp
  refine key _ _ ⟨X.w.drew, X.g⟩ a (by simp) (fun j _ => hno j) (by refine Nat.le_trans (List.length_filter_le _ _) (by simp)) (hXd.ext hs.gb hs.fb) hdf ⟨σ, hsd, rfl, by rw [hno]; rfl, he, (fun i o d u _ _ _ hf => by rw [hno] at hf; cases hf), (fun t _ => rfl), (fun i o d s _ _ _ _ _ hf => by rw [hno] at hf; cases hf)⟩ (fun j oj hoj hf => by rw [hno] at hf; cases hf)
end
end Go.Proofs.Ytgmlkhfjhogdbaa
