/- Regions that draw and turn something at their end; closures called by value in such. -/
import Derived.Test.YtgmlkhfjhogdbaaGC
namespace Go.Proofs.Ytgmlkhfjhogdbaa
open Go.RowKit P
set_option linter.unusedSimpArgs false
set_option linter.unusedVariables false

/-- Moves of slots that the region does not write. -/
def slotMoves (body : List Oper) : List (Nat × Nat) := body.filterMap fun o => match o.dst, o.op, o.guard with
  | some d, .move (.tmp s), none => if body.all (fun q => !(q.dst == some s)) then some (d, s) else none
  | _, _, _ => none
def AS.als (σ : AS) (m : List (Nat × Nat)) : AS := { n := σ.n, t := σ.t, h := σ.h, e := m.map (fun p => (p.1, Root.s p.2)) ++ σ.e }
/-- Each waits for the one ahead of it. -/
def chainB : List Oper → Nat → Bool
  | [], _ => true
  | o :: r, k => (depsOf o).contains k && chainB r (k + 1)
theorem chainB_get : ∀ {r : List Oper} {k : Nat}, chainB r k = true → ∀ (j : Nat) o, r[j]? = some o → k + j ∈ depsOf o
  | [], _, _, j, o, h => by simp at h
  | q :: r, k, hc, j, o, h => by
    simp only [chainB, Bool.and_eq_true] at hc
    cases j with
    | zero => simp at h; subst h; simpa using hc.1
    | succ j =>
      have := chainB_get hc.2 j o (by simpa using h)
      rwa [show k + (j + 1) = k + 1 + j by omega]
/-- All of them are waited for (what they wait for, the last first). -/
def coverG : List (List Nat) → List Nat → Bool
  | [], _ => true
  | d :: r, S => S.contains r.length && coverG r (d ++ S)
theorem coverG_spec {p : Nat → Prop} : ∀ {r : List (List Nat)} {S : List Nat}, coverG r S = true → (∀ j ∈ S, p j) → (∀ (i : Nat) d, r.reverse[i]? = some d → p i → ∀ j ∈ d, p j) → ∀ j, j < r.length → p j
  | [], _, _, _, _, j, h => by simp at h
  | d :: r, S, hc, hS, hd, j, hj => by
    simp only [coverG, Bool.and_eq_true] at hc
    have h1 : p r.length := hS _ (by simpa using hc.1)
    have h2 : ∀ j ∈ d, p j := hd r.length d (by rw [List.reverse_cons, List.getElem?_append_right (by simp)]; simp) h1
    by_cases e : j = r.length
    · subst e; exact h1
    · refine coverG_spec hc.2 (fun j hj => ?_) (fun i d' hi => hd i d' ?_) j (by simp only [List.length_cons] at hj; omega)
      · rcases List.mem_append.1 hj with hj | hj
        · exact h2 j hj
        · exact hS j hj
      · rw [List.reverse_cons, List.getElem?_append_left (List.getElem?_eq_some_iff.1 hi).1]; exact hi
def drawCB (l body : List Oper) (om : Oper) (after : List Oper) : Bool :=
  lexFrom 0 l && settledAllB l body body 0 && dstsB body [] && chainB after body.length && coverG (body.map depsOf).reverse (depsOf om)
section
variable {P : Program} {Q : Exit → AS → Prop} {ks : List It} {T : Tys P} {σ : AS} {K : AS → Prop} {l body after rest : List Oper} {om o : Oper} {d k : Nat} {u : AV}
/-- What waits for the one ahead of it is run in the text's order. -/
theorem chain_any {R : Exit → Act → World → Prop} {m : Nat} (hlex : ∀ (i : Nat) o, l[i]? = some o → ∀ j ∈ depsOf o, j < i) (hch : ∀ (i : Nat) o, m < i → l[i]? = some o → i - 1 ∈ depsOf o) : ∀ (n k fuel : Nat) (listed : Array Bool) (a : Act) (w : World), k + n = l.length → m < k → listed.size = l.length → (∀ j, j < k → listed.getD j false = true) → (∀ j, k ≤ j → listed.getD j false = false) → n ≤ fuel →
    wpOps P l.toArray R (List.range' k n) a w → wpAny P .any l.toArray R fuel listed a w
  | 0, k, fuel, listed, a, w, hk, hm, hsz, h1, h2, hf, h => by
    have hnil : Region.ready .any l.toArray listed = [] := by
      rw [List.eq_nil_iff_forall_not_mem]
      intro j hj
      obtain ⟨h5, oj, h6, _⟩ := mem_ready.1 hj
      have hjl : j < l.length := by simpa using (Array.getElem?_eq_some_iff.1 h6).1
      rw [getD_tf (by omega), h1 j (by omega)] at h5; cases h5
    cases fuel with
    | zero => exact ⟨hnil, h⟩
    | succ fuel => exact ⟨fun _ => h, fun j hj => by rw [hnil] at hj; cases hj⟩
  | n + 1, k, 0, listed, a, w, hk, hm, hsz, h1, h2, hf, h => by omega
  | n + 1, k, fuel + 1, listed, a, w, hk, hm, hsz, h1, h2, hf, h => by
    have hkl : k < l.length := by omega
    have hrd : k ∈ Region.ready .any l.toArray listed := by
      refine mem_ready.2 ⟨by rw [getD_tf (by omega)]; exact h2 k (Nat.le_refl _), l[k], by simp [hkl], fun e he hb => ?_⟩
      exact h1 e.on (hlex k l[k] (List.getElem?_eq_getElem hkl) e.on (mem_depsOf.2 ⟨e, he, hb, rfl⟩))
    refine ⟨fun hnil => (by rw [hnil] at hrd; cases hrd), fun i hi => ?_⟩
    obtain ⟨g1, o, g2, g3⟩ := mem_ready.1 hi
    have g2l : l[i]? = some o := by simpa using g2
    have hil : i < l.length := (List.getElem?_eq_some_iff.1 g2l).1
    have gf : listed.getD i false = false := by rw [← getD_tf (by omega)]; exact g1
    have hki : k ≤ i := by
      apply Classical.byContradiction
      intro hc
      rw [h1 i (by omega)] at gf; cases gf
    have hik : i = k := by
      apply Classical.byContradiction
      intro hne
      obtain ⟨e, he1, he2, he3⟩ := mem_depsOf.1 (hch i o (by omega) g2l)
      have := g3 e he1 he2
      rw [he3, h2 (i - 1) (by omega)] at this; cases this
    subst hik
    rw [List.range'_succ, wpOps_cons] at h
    refine wpOp_mono (fun a' w' h' => ?_) h
    exact chain_any hlex hch n (i + 1) fuel (listed.setIfInBounds i true) a' w' (by omega) (by omega) (by simp [hsz]) (fun j hj => by
      rw [getD_setb false (by omega)]
      by_cases e : j = i
      · rw [if_pos e]
      · rw [if_neg e]; exact h1 j (by omega)) (fun j hj => by rw [getD_setb false (by omega), if_neg (by omega)]; exact h2 j (by omega)) (by omega) h'
theorem als_sim {F : Nat → Prop} {X : GW} {tm : Array Value} : ∀ {m : List (Nat × Nat)} {σ : AS}, SimE F X σ tm → (∀ p ∈ m, tm.getD p.1 undef = tm.getD p.2 undef) → SimE F X (σ.als m) tm
  | [], σ, h, _ => h
  | p :: m, σ, h, hm => (als_sim h fun q hq => hm q (List.mem_cons_of_mem _ hq)).alias (d := p.1) (r := .s p.2) (by simp only [rootV]; rw [hm p List.mem_cons_self])
theorem wpOp_mono2 {ops : Array Oper} {R R' : Exit → Act → World → Prop} (hR : ∀ e a w, R e a w → R' e a w) {i : Nat} {K K' : Act → World → Prop} (hK : ∀ a w, K a w → K' a w) {a : Act} {w : World} (h : wpOp P ops R i K a w) : wpOp P ops R' i K' a w := by
  unfold wpOp at h ⊢
  cases ho : ops[i]? with
  | none => rw [ho] at h; exact hK _ _ h
  | some o =>
    rw [ho] at h
    simp only at h ⊢
    split
    · rename_i hw
      rw [if_pos hw] at h
      rcases h with h | ⟨h, a0, w0, h0⟩
      · exact .inl (upon_mono (fun a w h => hK a w h) hR h)
      · exact .inr ⟨h, a0, w0, hR _ _ _ h0⟩
    · rename_i hw
      rw [if_neg hw] at h
      exact hK _ _ h
theorem wpAny_mono' {ops : Array Oper} {R R' : Exit → Act → World → Prop} (hR : ∀ e a w, R e a w → R' e a w) : ∀ (fuel : Nat) (listed : Array Bool) (a : Act) (w : World), wpAny P .any ops R fuel listed a w → wpAny P .any ops R' fuel listed a w
  | 0, listed, a, w, h => ⟨h.1, hR _ _ _ h.2⟩
  | fuel + 1, listed, a, w, h => ⟨fun e => hR _ _ _ (h.1 e), fun i hi => wpOp_mono2 hR (fun a w h => wpAny_mono' hR fuel _ a w h) (h.2 i hi)⟩
/-- A region that draws: what turns nothing in whatever order, then the rest as the text goes. -/
theorem ar_drawC {id : Nat} (hm : P.follows .mixedOrders = true) (hl : l = body ++ om :: after) (hB : drawCB l body om after = true) (he : σ.e = [])
    (h : QSem P l (fun σ' => ARun P Q (.o l body.length (om :: after) :: ks) (σ'.als (slotMoves body))) body σ) : ARun P Q (.c (.region id l.toArray true) :: ks) σ := by
  intro F X a hs D hdf
  obtain ⟨us, hul, hK, hstep⟩ := q_table body σ h
  simp only [drawCB, Bool.and_eq_true] at hB
  obtain ⟨⟨⟨⟨hx, hset⟩, hdst⟩, hchn⟩, hcov⟩ := hB
  have hdis := (dstsB_spec body [] hdst).2
  have hlb : ∀ i, i < body.length → l[i]? = body[i]? := fun i hi => by rw [hl, List.getElem?_append_left hi]
  have hlo : l[body.length]? = some om := by rw [hl]; simp
  have hll : body.length < l.length := by rw [hl]; simp
  have hlex : ∀ (i : Nat) o, l[i]? = some o → ∀ j ∈ depsOf o, j < i := by
    intro i o ho j hj
    have := lexFrom_spec l 0 i o hx ho j hj
    omega
  have hch : ∀ (i : Nat) o, body.length < i → l[i]? = some o → i - 1 ∈ depsOf o := by
    intro i o hi ho
    obtain ⟨j, hj⟩ : ∃ j, i = body.length + 1 + j := ⟨i - body.length - 1, by omega⟩
    have hoa : after[j]? = some o := by
      rw [hl, List.getElem?_append_right (by omega)] at ho
      rw [show i - body.length = j + 1 by omega] at ho
      simpa using ho
    have := chainB_get hchn j o hoa
    rwa [show i - 1 = body.length + j by omega]
  refine wp_region_any hm ?_
  let Inv : Array Bool → GW → Act → Prop := fun listed X1 a1 => ∃ σ1 : AS, SimE F X1 σ1 a1.tmps ∧ σ1.n = σ.n ∧ σ1.h = σ.h ∧ σ1.e = [] ∧
    (∀ (i : Nat) o d u, body[i]? = some o → us[i]? = some u → o.dst = some d → listed.getD i false = true → look σ1.t d = some u) ∧
    (∀ t, (∀ (i : Nat) o, body[i]? = some o → o.dst = some t → listed.getD i false = false) → look σ1.t t = look σ.t t) ∧
    (∀ (i : Nat) o d s, body[i]? = some o → o.dst = some d → o.op = .move (.tmp s) → o.guard = none → (∀ (q : Nat) oq, body[q]? = some oq → oq.dst ≠ some s) → listed.getD i false = true → a1.tmps.getD d undef = a1.tmps.getD s undef)
  have ready_of : ∀ (listed : Array Bool), listed.size = l.length → listed.getD body.length false = false → Region.ready .any l.toArray listed ≠ [] := by
    intro listed hsz hlast hnil
    obtain ⟨k, hk, hkf, hkl⟩ := first_false (fun j => listed.getD j false) (body.length + 1) ⟨body.length, by omega, hlast⟩
    have hkl2 : k < l.length := by omega
    have hmem : k ∈ Region.ready .any l.toArray listed := by
      refine mem_ready.2 ⟨by rw [getD_tf (by omega)]; exact hkf, l[k], by simp [hkl2], fun e he hb => ?_⟩
      exact hkl e.on (hlex k l[k] (List.getElem?_eq_getElem hkl2) e.on (mem_depsOf.2 ⟨e, he, hb, rfl⟩))
    rw [hnil] at hmem; cases hmem
  have key : ∀ (fuel : Nat) (listed : Array Bool) (X1 : GW) (a1 : Act), listed.size = l.length → (∀ j, body.length ≤ j → listed.getD j false = false) →
      ((List.range l.length).filter (fun i => !listed.getD i true)).length ≤ fuel → Ext F X X1 → a1.defers = D → Inv listed X1 a1 →
      (∀ j oj, l[j]? = some oj → listed.getD j false = true → ∀ d ∈ depsOf oj, listed.getD d false = true) →
      wpAny P .any l.toArray (PostA F X D (Stk P Q ks)) fuel listed a1 X1.w := by
    intro fuel
    induction fuel with
    | zero =>
      intro listed X1 a1 hsz hlast hf hx1 hd1 hI hdn
      have h0 := List.length_eq_zero_iff.1 (Nat.le_zero.1 hf)
      have := List.filter_eq_nil_iff.1 h0 body.length (List.mem_range.2 (by omega))
      rw [getD_tf (by omega), hlast _ (Nat.le_refl _)] at this; exact absurd rfl this
    | succ fuel ih =>
      intro listed X1 a1 hsz hlast hf hx1 hd1 hI hdn
      refine ⟨fun hnil => absurd hnil (ready_of listed hsz (hlast _ (Nat.le_refl _))), fun i hi => ?_⟩
      obtain ⟨h1, o, h2, h3⟩ := mem_ready.1 hi
      have h2l : l[i]? = some o := by simpa using h2
      have hil : i < l.length := (List.getElem?_eq_some_iff.1 h2l).1
      have hlf : listed.getD i false = false := by rw [← getD_tf (by omega)]; exact h1
      obtain ⟨σ1, s1, s2, s3, se, s4, s5, s6⟩ := hI
      -- what is seen is as in the text's order
      have hsee0 : ∀ (i : Nat) (o : Oper), l[i]? = some o → i ≤ body.length → settledB l i o body 0 = true → listed.getD i false = false → (∀ e ∈ o.after, Region.binds .any e = true → listed.getD e.on false = true) → ∀ t, t ∈ seesOf l o → look (puts σ (body.take i) (us.take i)).t t = look σ1.t t := by
        intro i o h2l hib hset1 hlf h3 t ht
        rw [puts_look _ _ _ _ (by simp; omega) (fun q q' o1 o2 d h1 h2 h3 h4 => by
          rw [List.getElem?_take] at h1 h2
          split at h1
          · split at h2
            · exact hdis q q' o1 o2 d h1 h2 h3 h4
            · cases h2
          · cases h1)]
        cases hf : ((body.take i).zip (us.take i)).find? (fun p => p.1.dst == some t) with
        | some p =>
          have hmem := List.mem_of_find?_eq_some hf
          have hpd : p.1.dst = some t := by simpa using List.find?_some hf
          obtain ⟨q, hq⟩ := List.getElem?_of_mem hmem
          rw [List.getElem?_zip_eq_some, List.getElem?_take, List.getElem?_take] at hq
          have hqi : q < i := by
            apply Classical.byContradiction
            intro hc
            rw [if_neg hc] at hq; cases hq.1
          rw [if_pos hqi, if_pos hqi] at hq
          obtain ⟨d', hd', hs'⟩ := settledB_spec body 0 q p.1 hset1 hq.1
          rw [hpd] at hd'; cases hd'
          have hdep := (hs' ht (by omega)).1 (by omega)
          rw [Nat.zero_add] at hdep
          obtain ⟨e, he1, he2, he3⟩ := mem_depsOf.1 hdep
          have hq3 : listed.getD q false = true := by rw [← he3]; exact h3 e he1 he2
          rw [s4 q p.1 t p.2 hq.1 hq.2 hpd hq3]
        | none =>
          simp only
          symm
          refine s5 t fun j oj hj hjd => ?_
          have hjl := (List.getElem?_eq_some_iff.1 hj).1
          by_cases hji : j < i
          · have hmem : (oj, us[j]'(by omega)) ∈ (body.take i).zip (us.take i) := by
              refine List.mem_of_getElem? (i := j) (List.getElem?_zip_eq_some.2 ⟨?_, ?_⟩)
              · rw [List.getElem?_take, if_pos hji]; exact hj
              · rw [List.getElem?_take, if_pos hji]; exact List.getElem?_eq_getElem (by omega)
            exact absurd (by simpa using hjd) (List.find?_eq_none.1 hf _ hmem)
          · by_cases hje : j = i
            · subst hje; exact hlf
            · obtain ⟨d', hd', hs'⟩ := settledB_spec body 0 j oj hset1 hj
              rw [hjd] at hd'; cases hd'
              have hdep := (hs' ht (by omega)).2 (by omega)
              cases hc : listed.getD j false
              · rfl
              · have := hdn j oj (by rw [hlb j hjl]; exact hj) hc i hdep
                rw [hlf] at this; cases this
      have hR0 : ∀ (i : Nat) (o : Oper), l[i]? = some o → i ≤ body.length → settledB l i o body 0 = true → listed.getD i false = false → (∀ e ∈ o.after, Region.binds .any e = true → listed.getD e.on false = true) → SimR F X1 (puts σ (body.take i) (us.take i)) o.op a1.tmps := by
        intro i o h2l hib hset1 hlf h3
        refine ⟨s1.gb, s1.fb, fun t u ht hu => ?_, fun k cs hk => ?_⟩
        · rw [hsee0 i o h2l hib hset1 hlf h3 t (by simp only [seesOf]; exact List.mem_append_left _ (mem_tmpsOf ht))] at hu
          exact s1.slot t u hu
        · rw [puts_h, ← s3] at hk; exact s1.box k cs hk
      unfold wpOp
      simp only [h2]
      by_cases hib : i < body.length
      · have h2' : body[i]? = some o := by rw [← hlb i hib]; exact h2l
        have hui : us[i]? = some us[i] := List.getElem?_eq_getElem (by omega)
        obtain ⟨d, hod, hdn2, hcase⟩ := hstep i o us[i] h2' hui
        have hset1 : settledB l i o body 0 = true := by have := settledAllB_spec body 0 i o hset h2'; rwa [Nat.zero_add] at this
        have hsee := hsee0 i o h2l (by omega) hset1 hlf h3
        have hwan : wantedA l (puts σ (body.take i) (us.take i)) o = wantedA l σ1 o := by
          refine (wantedA_congr (by rw [puts_n, s2]) fun j want d0 hg hd0 => hsee d0 ?_)
          simp only [seesOf, hg, hd0]; simp
        have hdz : d < a1.tmps.size := by rw [s1.size, s2]; exact lt_of_ble hdn2
        have go : ∀ (v : Value) (X2 : GW), (∀ s, o.op = .move (.tmp s) → o.guard = none → v = a1.tmps.getD s undef) → New X1 X2 → (∀ b n, X2.g b = some n → b < X2.w.heap.size) → Rel X2 us[i] v → FreshOk F X1.w.heap.size X2 us[i] v → wpAny P .any l.toArray (PostA F X D (Stk P Q ks)) fuel (listed.setIfInBounds i true) (a1.put o.dst v) X2.w := by
          intro v X2 hv2 hn2 hg2 hr2 hf2
          refine ih (listed.setIfInBounds i true) X2 (a1.put o.dst v) (by simp [hsz]) (fun j hj => by rw [getD_setb false (by omega), if_neg (by omega)]; exact hlast j hj) ?_ (hx1.trans (hn2.ext s1.gb s1.fb)) (by rw [put_defers]; exact hd1) ?_ ?_
          · have := count_set hil hsz h1
            omega
          · refine ⟨σ1.put d us[i], ?_, s2, s3, by simp [AS.put, se], fun j oj dj uj hj huj hdj hlj => ?_, fun t ht => ?_, fun j oj dj sj hj hdj hopj hgj hsj hlj => ?_⟩
            · rw [hod]
              exact s1.put_new (by rw [s2]; exact lt_of_ble hdn2) hn2 hg2 hr2 hf2
            · simp only [AS.put, look_cons]
              by_cases e : j = i
              · subst e
                rw [h2'] at hj; cases hj
                rw [hod] at hdj; cases hdj
                rw [if_pos rfl, ← huj, hui]
              · have hne : dj ≠ d := fun e2 => e (hdis j i oj o d hj h2' (by rw [hdj, e2]) hod)
                rw [if_neg hne]
                rw [getD_setb false (by omega), if_neg e] at hlj
                exact s4 j oj dj uj hj huj hdj hlj
            · have hne : t ≠ d := by
                rintro rfl
                have := ht i o h2' hod
                rw [getD_setb false (by omega), if_pos rfl] at this; cases this
              simp only [AS.put, look_cons]
              rw [if_neg hne]
              refine s5 t fun j oj hj hjd => ?_
              have := ht j oj hj hjd
              rw [getD_setb false (by omega)] at this
              by_cases e : j = i
              · rw [if_pos e] at this; cases this
              · rw [if_neg e] at this; exact this
            · have hds : d ≠ sj := fun e => hsj i o h2' (by rw [hod, e])
              rw [hod]
              have hset : ∀ (x : Nat), (a1.put (some d) v).tmps.getD x undef = if x = d then v else a1.tmps.getD x undef := by
                intro x
                simp only [Act.put, Array.getD_eq_getD_getElem?, Array.getElem?_setIfInBounds]
                by_cases e : d = x
                · subst e; rw [if_pos rfl, if_pos hdz, if_pos rfl]; rfl
                · rw [if_neg e, if_neg (Ne.symm e)]
              rw [hset, hset, if_neg (Ne.symm hds)]
              by_cases e : j = i
              · subst e
                rw [h2'] at hj; cases hj
                rw [hod] at hdj; cases hdj
                rw [if_pos rfl]
                exact hv2 sj hopj hgj
              · have hne : dj ≠ d := fun e2 => e (hdis j i oj o d hj h2' (by rw [hdj, e2]) hod)
                rw [if_neg hne]
                rw [getD_setb false (by omega), if_neg e] at hlj
                exact s6 j oj dj sj hj hdj hopj hgj hsj hlj
          · intro j oj hoj hj dd hdd
            rw [getD_setb false (by omega)]
            by_cases e : dd = i
            · rw [if_pos e]
            · rw [if_neg e]
              by_cases e2 : j = i
              · subst e2
                rw [h2l] at hoj; cases hoj
                obtain ⟨x, hx1, hx2, hx3⟩ := mem_depsOf.1 hdd
                rw [← hx3]; exact h3 x hx1 hx2
              · rw [getD_setb false (by omega), if_neg e2] at hj
                exact hdn j oj hoj hj dd hdd
        rcases hcase with ⟨hw, hop⟩ | ⟨hw, hun⟩
        · rw [hwan] at hw
          rw [if_pos (wanted_of s1 hw)]
          left
          have hrun := hop F X1 a1 (hR0 i o h2l (by omega) hset1 hlf h3)
          have hrun2 : Runs P o a1 X1.w fun x w' => (∀ s, o.op = .move (.tmp s) → o.guard = none → x = a1.tmps.getD s undef) ∧ ∃ X' : GW, X'.w = w' ∧ New X1 X' ∧ (∀ b n, X'.g b = some n → b < X'.w.heap.size) ∧ Rel X' us[i] x ∧ FreshOk F X1.w.heap.size X' us[i] x := by
            by_cases hmv : ∃ s, o.op = .move (.tmp s)
            · obtain ⟨s, hs⟩ := hmv
              have hex : (execOp a1.eval o).run P X1.w = .ok (.value (a1.tmps.getD s undef)) X1.w := by
                obtain ⟨dst, op, ty, pos, af, g⟩ := o
                simp only at hs
                subst hs
                rfl
              unfold Runs at hrun ⊢
              rw [hex] at hrun ⊢
              exact ⟨fun s' h' _ => by rw [hs] at h'; cases h'; rfl, hrun⟩
            · exact hrun.mono fun x w' h => ⟨fun s h' => absurd ⟨s, h'⟩ hmv, h⟩
          refine hrun2.wp fun x w' ⟨k0, X2, k1, k2, k3, k4, k5⟩ => ?_
          subst k1
          exact go x X2 k0 k2 k3 k4 k5
        · rw [hwan] at hw
          rw [if_neg (by rw [wanted_of s1 hw]; simp)]
          refine go undef X1 (fun s _ hg => ?_) (New.refl X1) s1.gb (by rw [hun]; exact .v _) (by rw [hun]; exact FreshOk.plain rfl)
          · exfalso
            unfold wantedA at hw
            rw [hg] at hw
            cases hw
      · have hie : i = body.length := by
          apply Classical.byContradiction
          intro hne
          obtain ⟨e, he1, he2, he3⟩ := mem_depsOf.1 (hch i o (by omega) h2l)
          have h9 := h3 e he1 he2
          rw [he3, hlast (i - 1) (by omega)] at h9; cases h9
        subst hie
        rw [hlo] at h2l; cases h2l
        have hallb : ∀ j, j < body.length → listed.getD j false = true := by
          intro j hj
          refine coverG_spec (p := fun j => listed.getD j false = true) hcov (fun q hq => ?_) (fun i d hi hl q hq => ?_) j (by simpa using hj)
          · obtain ⟨e, he1, he2, he3⟩ := mem_depsOf.1 hq
            rw [← he3]; exact h3 e he1 he2
          · rw [List.reverse_reverse, List.getElem?_map, Option.map_eq_some_iff] at hi
            obtain ⟨oi, hi1, rfl⟩ := hi
            exact hdn i oi (by rw [hlb i (List.getElem?_eq_some_iff.1 hi1).1]; exact hi1) hl q hq
        have hfin : SimE F X1 (puts σ body us) a1.tmps := by
          refine s1.sub (by rw [puts_n, s2]) (fun t u hu => ?_) (fun k cs hk => by rw [puts_h] at hk; rw [s3]; exact hk) (fun p hp => by rw [puts_e body us σ he] at hp; cases hp)
          rw [puts_look body us σ t hul hdis] at hu
          cases hf : (body.zip us).find? (fun p => p.1.dst == some t) with
          | some p =>
            rw [hf] at hu
            cases hu
            have hmem := List.mem_of_find?_eq_some hf
            have hpd : p.1.dst = some t := by simpa using List.find?_some hf
            obtain ⟨q, hq⟩ := List.getElem?_of_mem hmem
            rw [List.getElem?_zip_eq_some] at hq
            exact s4 q p.1 t p.2 hq.1 hq.2 hpd (hallb q (List.getElem?_eq_some_iff.1 hq.1).1)
          | none =>
            rw [hf] at hu
            rw [← hu]
            refine s5 t fun i o ho hod => ?_
            have hil := (List.getElem?_eq_some_iff.1 ho).1
            have hui : us[i]? = some us[i] := List.getElem?_eq_getElem (by omega)
            have := List.find?_eq_none.1 hf (o, us[i]) (List.mem_of_getElem? (List.getElem?_zip_eq_some.2 ⟨ho, hui⟩))
            exact absurd (by simpa using hod) this
        have hfin2 : SimE F X1 ((puts σ body us).als (slotMoves body)) a1.tmps := by
          refine als_sim hfin fun p hp => ?_
          unfold slotMoves at hp
          obtain ⟨o, ho1, ho2⟩ := List.mem_filterMap.1 hp
          obtain ⟨i, hi⟩ := List.getElem?_of_mem ho1
          split at ho2
          · rename_i d s hd' hop' hg'
            split at ho2
            · rename_i hall
              cases ho2
              refine s6 i o d s hi hd' hop' hg' (fun q oq hq hq' => ?_) (hallb i (List.getElem?_eq_some_iff.1 hi).1)
              have := List.all_eq_true.1 hall oq (List.mem_of_getElem? hq)
              rw [hq'] at this
              simp at this
            · cases ho2
          · cases ho2
        have hrun := hK F X1 a1 hfin2 D hd1
        have hn : l.length - body.length = after.length + 1 := by rw [hl]; simp
        rw [hn, List.range'_succ, wpOps_cons] at hrun
        have hcnt : after.length ≤ fuel := by
          have hsub : (List.range' body.length (after.length + 1)).length ≤ ((List.range l.length).filter (fun i => !listed.getD i true)).length := by
            refine List.Sublist.length_le ?_
            have e1 : List.range l.length = List.range' 0 body.length ++ List.range' body.length (after.length + 1) := by
              have := List.range'_append_1 (s := 0) (m := body.length) (n := after.length + 1)
              rw [Nat.zero_add] at this
              rw [List.range_eq_range', this, show l.length = body.length + (after.length + 1) by rw [hl]; simp]
            rw [e1, List.filter_append]
            refine List.Sublist.trans ?_ (List.sublist_append_right _ _)
            have : (List.range' body.length (after.length + 1)).filter (fun i => !listed.getD i true) = List.range' body.length (after.length + 1) := by
              rw [List.filter_eq_self]
              intro q hq
              obtain ⟨hq1, hq2⟩ := List.mem_range'_1.1 hq
              rw [getD_tf (by omega), hlast q hq1]; rfl
            rw [this]
            exact List.Sublist.refl _
          rw [List.length_range'] at hsub
          omega
        have hrun' := wpOp_mono (K' := wpAny P .any l.toArray (PostA F X1 D (Stk P Q ks)) fuel (listed.setIfInBounds body.length true)) (fun a' w' h' => chain_any hlex hch after.length (body.length + 1) fuel (listed.setIfInBounds body.length true) a' w' (by omega) (by omega) (by simp [hsz]) (fun j hj => by
          rw [getD_setb false (by omega)]
          by_cases e : j = body.length
          · rw [if_pos e]
          · rw [if_neg e]; exact hallb j (by omega)) (fun j hj => by rw [getD_setb false (by omega), if_neg (by omega)]; exact hlast j (by omega)) hcnt h') hrun
        unfold wpOp at hrun'
        simp only [h2] at hrun'
        have hmono := wpAny_mono' (P := P) (ops := l.toArray) (R := PostA F X1 D (Stk P Q ks)) (R' := PostA F X D (Stk P Q ks)) (fun e a w hp => hp.ext hx1)
        have := wpOp_mono2 (P := P) (ops := l.toArray) (R := PostA F X1 D (Stk P Q ks)) (R' := PostA F X D (Stk P Q ks)) (fun e a w hp => hp.ext hx1) (i := body.length) (K := wpAny P .any l.toArray (PostA F X1 D (Stk P Q ks)) fuel (listed.setIfInBounds body.length true)) (K' := wpAny P .any l.toArray (PostA F X D (Stk P Q ks)) fuel (listed.setIfInBounds body.length true)) (fun a w h => hmono fuel _ a w h) (a := a1) (w := X1.w) (by unfold wpOp; simp only [h2]; exact hrun')
        unfold wpOp at this
        simp only [h2] at this
        exact this
  have hXd : New X ⟨X.w.drew, X.g⟩ := ⟨rfl, rfl, rfl, Nat.le_refl _, fun _ _ => ⟨rfl, rfl⟩⟩
  have hsd := hs.new hXd hs.gb
  have hno : ∀ i, (Array.replicate l.toArray.size false).getD i false = false := fun i => by
    simp only [Array.getD_eq_getD_getElem?, Array.getElem?_replicate]
    split <;> simp
  refine key _ _ ⟨X.w.drew, X.g⟩ a (by simp) (fun j _ => hno j) (by refine Nat.le_trans (List.length_filter_le _ _) (by simp)) (hXd.ext hs.gb hs.fb) hdf ⟨σ, hsd, rfl, rfl, he, (fun i o d u _ _ _ hf => by rw [hno] at hf; cases hf), (fun t _ => rfl), (fun i o d s _ _ _ _ _ hf => by rw [hno] at hf; cases hf)⟩ (fun j oj hoj hf => by rw [hno] at hf; cases hf)
/-- A call of a closure that captured nothing, in whatever order: what it is handed it only reads. -/
theorem opv_call_fn {f : FuncId} {s : Nat} {xs : Array Operand} {ats : Array TypeId} {ty : TypeId} {pos : String} {af : Array Edge} {g : Option (Nat × Bool)} {dd : Option Tmp} {us : List AV} (hfn : look σ.t s = some (.fn f [])) (hc : ACalls P f us [] (fun out H => out = .ret u ∧ H = [])) {us0 : List AV} (hx : opVs σ xs.toList = some us0) (hle : LeL us0 us) (hp : us.all (fun u => (own1 (some u)).isNone) = true) :
    OpV P ⟨dd, .call { callee := .value (.tmp s), args := xs, argTypes := ats }, ty, pos, af, g⟩ σ u := by
  intro F X a hs
  have hs' : SimR F X σ (.call { callee := .value (.func f), args := xs, argTypes := ats }) a.tmps := ⟨hs.gb, hs.fb, fun t u ht hu => hs.slot t u (by
    simp only [Op.operands, Call.operands, Array.toList_append, List.mem_append] at ht ⊢
    rcases ht with ht | ht
    · simp at ht
    · exact .inr ht) hu, hs.box⟩
  have h0 := opv_call (ty := ty) (pos := pos) (af := af) (g := g) (dd := dd) (ats := ats) hc hx hle hp F X a hs'
  have hf0 := hs.slot s _ (by simp [Op.operands, Call.operands]) hfn
  have hev : a.eval (.tmp s) = a.tmps.getD s undef := rfl
  generalize a.tmps.getD s undef = fv at hf0 hev
  cases hf0 with
  | fn _ _ ys hl hr =>
    have hys : ys = #[] := by
      have : ys.size = 0 := by rw [← hl]; rfl
      exact Array.eq_empty_of_size_eq_zero this
    subst hys
    have hexec : (execOp a.eval ⟨dd, .call { callee := .value (.tmp s), args := xs, argTypes := ats }, ty, pos, af, g⟩).run P X.w = .ok (.enter f (xs.map a.eval)) X.w := by
      simp [execOp, resolve, Deferred.ofValue, invoke, hev]
      exact run_enter hc.1
    unfold Runs at h0 ⊢
    rw [Conc.execOp_call_func rfl, run_enter hc.1] at h0
    rw [hexec]
    exact h0
/-! ### Slices without spare room -/
theorem append_new_cl {F : Nat → Prop} {X : GW} {t u ty e : TypeId} {i : TypeInfo} {zv : Value} {du : TypeDesc} {sz : Nat} {L m : List (List AV)} {a : Option Addr} {yv : Value} {c' : Nat → Nat → Value} (hgb : ∀ b n, X.g b = some n → b < X.w.heap.size) (hfb : ∀ b, F b → b < X.w.heap.size) (ht : P.underlying t = some (.slice e)) (hu : P.underlying u = some du) (hnz : du = .string ∨ ∃ e', du = .slice e') (hi : P.info? e = some i) (hz : i.zero = some zv) (hzs : zv.cells.size = sz) (his : i.size = sz)
    (hrel : Rel X (.sl false sz L) (.slice a L.length L.length)) (hL : ∀ r ∈ L, r.length = sz) (hadd : AddsA P X sz m yv c') (hfit : (L.length + m.length) * i.bytes ≤ 140737488355328) (hb : 1 ≤ i.bytes) (hm0 : m ≠ []) :
    ∃ X' y, (Builtin.append_ #[t, u] ty #[.slice a L.length L.length, yv]).run P X.w = .ok y X'.w ∧ New X X' ∧ (∀ b n, X'.g b = some n → b < X'.w.heap.size) ∧ Rel X' (.sl true sz (L ++ m)) y ∧ FreshOk F X.w.heap.size X' (.sl true sz (L ++ m)) y := by
  have hA : Adds P X.w i.size m.length yv (rowCells sz m.length c') := ⟨hadd.len, by rw [his]; exact hadd.first, by rw [his]; exact rowCells_length _ _ _⟩
  have hmp : 0 < m.length := List.length_pos_iff.2 hm0
  have hform : ∃ c : Nat → Nat → Value, (∀ (i j : Nat) (r : List AV) (u : AV), L[i]? = some r → r[j]? = some u → Rel X u (c i j)) ∧ ∀ w' : World, w'.heap = X.w.heap → (Builtin.firstCells i.size L.length (.slice a L.length L.length)).run P w' = .ok (rowCells sz L.length c).toArray w' := by
    rcases rel_sl hrel with ⟨_, hl0⟩ | ⟨b, off, cap, n, h, hg', hn, hc, c, c1, c2, c3⟩
    · subst hl0
      refine ⟨fun _ _ => undef, by simp, fun w' hw => ?_⟩
      rw [his]
      cases a with
      | none => simp [Builtin.firstCells, rowCells]
      | some a => exact run_firstCells_some (P := P) w' sz 0 a 0 0 _ (by simp [rowCells]) (fun j v hv => by simp [rowCells] at hv)
    · cases h
      refine ⟨c, c3, fun w' hw => ?_⟩
      have hcell := rows_cell (X := X) c1 c2
      rw [his]
      refine run_firstCells_some (P := P) w' sz L.length ⟨b, off, none⟩ L.length L.length _ (rowCells_length _ _ _) (fun j v hv => ?_)
      rw [add_off]
      simp only [rowCells, List.getElem?_map, Option.map_eq_some_iff] at hv
      obtain ⟨q, hq, rfl⟩ := hv
      obtain ⟨hlt, he⟩ := List.getElem?_eq_some_iff.1 hq
      simp only [List.getElem_range] at he
      subst he
      simp only [List.length_range] at hlt
      rw [show w'.cell? ⟨b, off + j, none⟩ = X.w.cell? ⟨b, off + j, none⟩ by simp only [World.cell?, hw]]
      exact hcell j hlt
  obtain ⟨c, c3, hold⟩ := hform
  have hrun := run_append_out (P := P) (ty := ty) (sLen := L.length) (sCap := L.length) (a := a) (olds := rowCells sz L.length c) ht hu hnz hi hz hA hold (by omega) hfit hb
  have hcge := grownCap_ge X.w (L.length + m.length) L.length e
  obtain ⟨X', h1, h2, h3, h4, h5⟩ := new_row (X := X) (F := F) (w' := X.w.drew.alloc (.cells ((rowCells sz L.length c).toArray ++ (rowCells sz m.length c').toArray ++ Builtin.zeroCells zv.cells (grownCap X.w (L.length + m.length) L.length e - (L.length + m.length))) e)) (cap := grownCap X.w (L.length + m.length) L.length e) (sz := sz) (rows := L ++ m) rfl rfl rfl rfl hgb hfb
    (fun r hr => by
      rcases List.mem_append.1 hr with h | h
      · exact hL r h
      · exact hadd.rows r h)
    (by simp only [Array.size_append, size_zeroCells, List.size_toArray, rowCells_length, hzs]; rw [← Nat.add_mul, ← Nat.add_mul]; congr 1; omega) (by simpa using hcge) (rows_two hL hadd.rows c3 hadd.rel) (fun j _ _ => by simp)
  refine ⟨X', _, ?_, h2, h3, h4, h5⟩
  rw [hrun, h1, List.length_append]
theorem append_core_cl {F : Nat → Prop} {X : GW} {t u ty e : TypeId} {tm : Array Value} {i : TypeInfo} {zv : Value} {du : TypeDesc} {sz : Nat} {L m : List (List AV)} {a : Option Addr} {yv : Value} {c' : Nat → Nat → Value} (hs : SimE F X σ tm) (ht : P.underlying t = some (.slice e)) (hu : P.underlying u = some du) (hnz : du = .string ∨ ∃ e', du = .slice e') (hi : P.info? e = some i) (hz : i.zero = some zv) (hzs : zv.cells.size = sz) (his : i.size = sz)
    (hrel : Rel X (.sl false sz L) (.slice a L.length L.length)) (hL : ∀ r ∈ L, r.length = sz) (hadd : AddsA P X sz m yv c') (hfit : (L.length + m.length) * i.bytes ≤ 140737488355328) (hb : 1 ≤ i.bytes) (hm0 : m ≠ []) :
    ∃ X' y, (Builtin.append_ #[t, u] ty #[.slice a L.length L.length, yv]).run P X.w = .ok y X'.w ∧ Appended F X X' σ tm sz (L ++ m) y :=
  let ⟨X', y, h1, h2, h3, h4, h5⟩ := append_new_cl (F := F) (ty := ty) hs.gb hs.fb ht hu hnz hi hz hzs his hrel hL hadd hfit hb hm0
  ⟨X', y, h1, appended_new hs h2 h3 h4 h5⟩
theorem eff_append_cl {t u ty e : TypeId} {x y : Operand} {pos : String} {af : Array Edge} {g : Option (Nat × Bool)} {sz by_ : Nat} {L m : List (List AV)} {du : TypeDesc} (hx : opV σ x = some (.cl sz L)) (ht : look T.ty t = some (.slice e)) (hu : look T.ty u = some du) (hnz : du = .string ∨ ∃ e', du = .slice e') (hz : look T.sz e = some (sz, by_)) (hb : Nat.ble 1 by_ = true)
    (hadd : ∀ F X (a : Act), SimE F X σ a.tmps → ∃ c, AddsA P X sz m (a.eval y) c) (hfit : (L.length + m.length) * by_ ≤ 140737488355328) (hm0 : m ≠ []) (hd : Nat.ble (d + 1) σ.n = true) {R : AS → Prop} (hR : R (σ.dropC.put d (.sl true sz (L ++ m)))) :
    EffOp P ⟨some d, .call { callee := .builtin .append, args := #[x, y], argTypes := #[t, u] }, ty, pos, af, g⟩ σ R := by
  intro F X a hs
  obtain ⟨i, hi1, hi2, hi3, zv, hi4, hi5⟩ := T.szOk _ _ _ hz
  obtain ⟨c', hadd⟩ := hadd F X a hs
  have hs1 := hs.dropC
  have hrel := opV_rel' hs hx
  generalize hxv : a.eval x = xv at hrel
  cases hrel with
  | cl _ _ ad n hr =>
    have hn : n = L.length := by
      obtain ⟨a1, c1, h1⟩ := rel_sl_form hr
      cases h1; rfl
    subst hn
    obtain ⟨X', yv, hrun, happ⟩ := append_core_cl (P := P) (ty := ty) hs1 (T.tyOk _ _ ht) (T.tyOk _ _ hu) hnz hi1 hi4 hi5 hi2 hr (rel_rows hr) hadd (by rw [hi3]; exact hfit) (by rw [hi3]; exact Nat.le_of_ble_eq_true hb) hm0
    refine runs_value (x := yv) (w' := X'.w) (run_builtin_append hxv rfl hrun) ⟨X', _, rfl, hR, ?_, happ.ext⟩
    exact happ.sim.put' (lt_of_ble hd) happ.rel (fun sz' l' h => by cases h; exact happ.own) (fun r' sz' l' sz2 l2 q n c q' n' c' h1 _ h2 h3 => happ.apart r' sz' l' q n c q' n' c' h1 h2 h3)
theorem opv_build0 {t ty e : TypeId} {pos : String} {af : Array Edge} {g : Option (Nat × Bool)} {dd : Option Tmp} {sz by_ : Nat} (ht : look T.ty t = some (.slice e)) (hz : look T.sz e = some (sz, by_)) : OpV P ⟨dd, .buildSlice t 0 #[], ty, pos, af, g⟩ σ (.cl sz []) := by
  intro F X a hs
  obtain ⟨i, hi1, hi2, hi3, zv, hi4, hi5⟩ := T.szOk _ _ _ hz
  have hw : (execOp a.eval ⟨dd, .buildSlice t 0 #[], ty, pos, af, g⟩).run P X.w = .ok (.value (.slice (some ⟨X.w.heap.size, 0, none⟩) 0 0)) { X.w with heap := X.w.heap.push (.cells #[] e) } := by
    simp only [execOp]
    refine run_val ?_
    simp [Instr.buildSlice, run_underlying (T.tyOk _ _ ht), sizeOf, typeInfo, hi1, zeroValue, hi4, newRow, newObj, Sem.run, Instr.fill, show Array.range 0 = #[] from rfl]
  have hn : New X ⟨{ X.w with heap := X.w.heap.push (.cells #[] e) }, X.g⟩ := ⟨rfl, rfl, rfl, by show X.w.heap.size ≤ (X.w.heap.push _).size; simp, fun b hb => ⟨by show (X.w.heap.push _)[b]? = _; rw [Array.getElem?_push, if_neg (by omega)], rfl⟩⟩
  refine runs_value hw ⟨⟨_, X.g⟩, rfl, hn, fun b n hb => ?_, .cl _ _ _ _ (.nl _ _ _ _), FreshOk.plain rfl⟩
  have := hs.gb b n hb
  show b < (X.w.heap.push _).size
  simp; omega
/-- A state that tells one operand. -/
theorem simE_tiny {F : Nat → Prop} {X : GW} {op : Op} {a : Act} {y : Operand} {v : AV} (hs : SimR F X σ op a.tmps) (hm : y ∈ op.operands.toList) (hy : opV σ y = some v) : ∃ σ', SimE F X σ' a.tmps ∧ opV σ' y = some v.rd := by
  have hx := opV_rel hs hm hy
  have key : ∀ (t : Nat) (u : AV), own1 (some u.rd) = none := fun t u => by cases u <;> rfl
  have mk : ∀ (l : List (Nat × AV)), (∀ t u, look l t = some u → Rel X u (a.tmps.getD t undef) ∧ own1 (some u) = none) → SimE F X ⟨a.tmps.size, l, [], []⟩ a.tmps := fun l hl => by
    have hno : ∀ r sz L, AS.own ⟨a.tmps.size, l, [], []⟩ r ≠ some (sz, L) := fun r sz L ho => by
      cases r with
      | s t =>
        simp only [AS.own] at ho
        cases hlk : look l t with
        | none => rw [hlk] at ho; cases ho
        | some u => rw [hlk, (hl t u hlk).2] at ho; cases ho
      | c k o => simp only [AS.own, look_nil] at ho; cases ho
    exact ⟨⟨rfl, hs.gb, hs.fb, fun t u hu => (hl t u hu).1, (fun k cs hk => by simp [look_nil] at hk), (fun x r hx => by simp [look_nil] at hx), (fun r sz l ho => absurd ho (hno r sz l)), (fun r r' sz l sz' l' a n c a' n' c' _ ho => absurd ho (hno r sz l))⟩, (fun p hp => by cases hp)⟩
  cases y with
  | tmp t =>
    refine ⟨⟨a.tmps.size, [(t, v.rd)], [], []⟩, mk _ fun t' u hu => ?_, by simp [opV, look_cons]⟩
    simp only [look_cons, look_nil] at hu
    split at hu
    · rename_i e; subst e; cases hu
      exact ⟨hx.rd, key 0 v⟩
    · cases hu
  | const c =>
    refine ⟨⟨a.tmps.size, [], [], []⟩, mk _ (fun t' u hu => by simp [look_nil] at hu), ?_⟩
    simp only [opV] at hy ⊢
    cases hy
    cases c <;> rfl
  | func f => exact ⟨⟨a.tmps.size, [], [], []⟩, mk _ (fun t' u hu => by simp [look_nil] at hu), by simp only [opV] at hy ⊢; cases hy; rfl⟩
  | global f => exact ⟨⟨a.tmps.size, [], [], []⟩, mk _ (fun t' u hu => by simp [look_nil] at hu), by simp only [opV] at hy ⊢; cases hy; rfl⟩
theorem addE_rd (sz : Nat) (v : AV) : addE sz v.rd = addE sz v := by cases v <;> rfl
/-- append to a slice without spare room, in whatever order. -/
theorem opv_append_cl {t u ty e : TypeId} {x y : Operand} {pos : String} {af : Array Edge} {g : Option (Nat × Bool)} {sz by_ : Nat} {L m : List (List AV)} {du : TypeDesc} {v : AV} {S : Prop} (hx : opV σ x = some (.cl sz L)) (ht : look T.ty t = some (.slice e)) (hu : look T.ty u = some du) (hnz : du = .string ∨ ∃ e', du = .slice e') (hz : look T.sz e = some (sz, by_)) (hb : Nat.ble 1 by_ = true)
    (hy : opV σ y = some v) (hm : addE sz v = some (m, S)) (hS : S) (hfit : (L.length + m.length) * by_ ≤ 140737488355328) (hm0 : m ≠ []) :
    OpV P ⟨some d, .call { callee := .builtin .append, args := #[x, y], argTypes := #[t, u] }, ty, pos, af, g⟩ σ (.sl true sz (L ++ m)) := by
  intro F X a hs
  obtain ⟨i, hi1, hi2, hi3, zv, hi4, hi5⟩ := T.szOk _ _ _ hz
  obtain ⟨σ', hs', hy'⟩ := simE_tiny hs (y := y) (by simp [Op.operands, Call.operands]) hy
  obtain ⟨c', hadd⟩ := addE_ok (P := P) hy' (by rw [addE_rd]; exact hm) hS F X a hs'
  have hrel := opV_rel hs (by simp [Op.operands, Call.operands]) hx
  generalize hxv : a.eval x = xv at hrel
  cases hrel with
  | cl _ _ ad n hr =>
    have hn : n = L.length := by
      obtain ⟨a1, c1, h1⟩ := rel_sl_form hr
      cases h1; rfl
    subst hn
    obtain ⟨X', yv, hrun, hnew, hgb, hrl, hfo⟩ := append_new_cl (P := P) (ty := ty) (F := F) hs.gb hs.fb (T.tyOk _ _ ht) (T.tyOk _ _ hu) hnz hi1 hi4 hi5 hi2 hr (rel_rows hr) hadd (by rw [hi3]; exact hfit) (by rw [hi3]; exact Nat.le_of_ble_eq_true hb) hm0
    exact runs_value (x := yv) (w' := X'.w) (run_builtin_append hxv rfl hrun) ⟨X', rfl, hnew, hgb, hrl, hfo⟩
/-- append of nothing to a slice without spare room. -/
theorem opv_append_cl0 {t u ty e : TypeId} {x y : Operand} {pos : String} {af : Array Edge} {g : Option (Nat × Bool)} {sz by_ : Nat} {L : List (List AV)} {du : TypeDesc} {v : AV} {S : Prop} (hx : opV σ x = some (.cl sz L)) (ht : look T.ty t = some (.slice e)) (hu : look T.ty u = some du) (hnz : du = .string ∨ ∃ e', du = .slice e') (hz : look T.sz e = some (sz, by_))
    (hy : opV σ y = some v) (hm : addE sz v = some ([], S)) (hS : S) :
    OpV P ⟨some d, .call { callee := .builtin .append, args := #[x, y], argTypes := #[t, u] }, ty, pos, af, g⟩ σ (.cl sz L) := by
  intro F X a hs
  obtain ⟨i, hi1, hi2, hi3, zv, hi4, hi5⟩ := T.szOk _ _ _ hz
  obtain ⟨σ', hs', hy'⟩ := simE_tiny hs (y := y) (by simp [Op.operands, Call.operands]) hy
  obtain ⟨c', hadd⟩ := addE_ok (P := P) hy' (by rw [addE_rd]; exact hm) hS F X a hs'
  have hrel := opV_rel hs (by simp [Op.operands, Call.operands]) hx
  have hrun : (Builtin.append_ #[t, u] ty #[a.eval x, a.eval y]).run P X.w = .ok (a.eval x) X.w := by
    generalize a.eval x = xv at hrel
    cases hrel with
    | cl _ _ ad n hr =>
      have hl := hadd.len
      have hf := hadd.first X.w rfl
      have hrc : rowCells sz ([] : List (List AV)).length c' = [] := by simp [rowCells]
      rw [hrc] at hf
      simp only [List.length_nil] at hl hf
      have hu' := T.tyOk _ _ hu
      have ht' := T.tyOk _ _ ht
      rcases hnz with rfl | ⟨e', rfl⟩ <;> simp [Builtin.append_, run_underlying ht', run_underlying hu', sizeOf, typeInfo, hi1, hi2, hl, hf]
      all_goals cases ad <;> simp [hf, storeCells]
  exact runs_value (run_builtin_append rfl rfl hrun) ⟨X, rfl, New.refl X, hs.gb, hrel, FreshOk.plain rfl⟩
end
end Go.Proofs.Ytgmlkhfjhogdbaa
