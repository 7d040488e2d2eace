/- Regions that draw, over an invariant: what turns nothing in whatever order, among a chain of what turns something. -/
import Derived.Test.YtgmlkhfjhogdbaaGX
namespace Go.Proofs.Ytgmlkhfjhogdbaa
open Go.RowKit P
set_option linter.unusedSimpArgs false
set_option linter.unusedVariables false
section
variable {P : Program} {Q : Exit → AS → Prop} {ks : List It} {σ : AS} {l : List Oper} {mN : Nat → Bool}
/-- The act filled with what is to come of what turns nothing. -/
structure Full (l : List Oper) (mN : Nat → Bool) (V : Nat → Value) (tm tf : Array Value) : Prop where
  size : tf.size = tm.size
  same : ∀ t, (∀ (q : Nat) o, l[q]? = some o → mN q = true → o.dst ≠ some t) → tf.getD t undef = tm.getD t undef
  val : ∀ (q : Nat) o t, l[q]? = some o → mN q = true → o.dst = some t → tf.getD t undef = V q
theorem full_ex {V : Nat → Value} {cs : List Nat} {tm : Array Value} (hB : MixOk l mN cs) (hst : ∀ (q : Nat) o d, l[q]? = some o → mN q = true → o.dst = some d → d < tm.size) : ∃ tf, Full l mN V tm tf := by
  classical
  refine ⟨Array.ofFn (n := tm.size) fun t => if hx : ∃ q o, l[q]? = some o ∧ mN q = true ∧ o.dst = some t.1 then V (Classical.choose hx) else tm.getD t.1 undef, by simp, fun t ht => ?_, fun q o t ho hmq hod => ?_⟩
  · simp only [Array.getD_eq_getD_getElem?, Array.getElem?_ofFn]
    by_cases hl : t < tm.size
    · rw [dif_pos hl, dif_neg (by rintro ⟨q, o, k1, k2, k3⟩; exact ht q o k1 k2 k3)]; rfl
    · rw [dif_neg hl, Array.getElem?_eq_none (Nat.le_of_not_lt hl)]
  · simp only [Array.getD_eq_getD_getElem?, Array.getElem?_ofFn]
    have hl := hst q o t ho hmq hod
    have hx : ∃ q o, l[q]? = some o ∧ mN q = true ∧ o.dst = some t := ⟨q, o, ho, hmq, hod⟩
    rw [dif_pos hl, dif_pos hx]
    obtain ⟨o', k1, k2, k3⟩ := Classical.choose_spec hx
    have := hB.ndst _ q o' o t k1 ho k2 k3 hod
    simp only [Option.getD_some, this]
/-- What is asked of an invariant. -/
structure DrawG (P : Program) (Q : Exit → AS → Prop) (ks : List It) (l : List Oper) (mN : Nat → Bool) (cs : List Nat) (lim : Nat → Nat) (F : Nat → Prop) (X : GW) (tm tf0 : Array Value) (D : List Deferred) (V : Nat → Value) (J : Nat → GW → Array Value → Prop) : Prop where
  start : J 0 X tf0
  n : ∀ (i : Nat) o j X1 (a1 : Act) tf, l[i]? = some o → mN i = true → j ≤ lim i → J j X1 tf → (∀ t, t ∈ seesOf l o → a1.tmps.getD t undef = tf0.getD t undef) → Runs P o a1 X1.w fun x w' => x = V i ∧ ∃ X2 : GW, X2.w = w' ∧ J j X2 tf ∧ Ext F X1 X2
  c : ∀ (j c : Nat) o X1 tf, cs[j]? = some c → l[c]? = some o → J j X1 tf → runsX P (fun x w' => ∃ X' : GW, X'.w = w' ∧ J (j + 1) X' (({ tmps := tf, defers := D } : Act).put o.dst x).tmps ∧ Ext F X1 X') (fun v w' => ∃ (X' : GW) (H2 : List (Nat × List AV)) (tm2 : Array Value), X'.w = w' ∧ Stk P Q ks (.panic [{ v := v, recovered := false }]) ⟨tm.size, [], H2, []⟩ ∧ SimE F X' ⟨tm.size, [], H2, []⟩ tm2 ∧ Ext F X1 X') ((execOp ({ tmps := tf, defers := D } : Act).eval o).run P X1.w)
  fin : ∀ X1 tf, J cs.length X1 tf → ∃ σ' : AS, SimE F X1 σ' tf ∧ ARun P Q ks σ'
theorem SimE.slotless {F : Nat → Prop} {X : GW} {n : Nat} {H : List (Nat × List AV)} {tm tm' : Array Value} (h : SimE F X ⟨n, [], H, []⟩ tm) (hs : tm'.size = n) : SimE F X ⟨n, [], H, []⟩ tm' := by
  have hr : ∀ r sz l, AS.own ⟨n, [], H, []⟩ r = some (sz, l) → rootV tm' X.w r = rootV tm X.w r := fun r sz l ho => by
    cases r with
    | s t => simp only [AS.own, look_nil] at ho; cases ho
    | c k o => rfl
  refine ⟨⟨hs, h.gb, h.fb, fun t u hu => (by cases hu), h.box, fun x r hx => (by cases hx), fun r sz l ho => ?_, fun r r' sz l sz' l' a n c a' n' c' hne ho ho' hr1 hr2 => ?_⟩, fun p hp => by cases hp⟩
  · rw [hr r sz l ho]; exact h.own r sz l ho
  · rw [hr r sz l ho] at hr1
    rw [hr r' sz' l' ho'] at hr2
    exact h.disj r r' sz l sz' l' a n c a' n' c' hne ho ho' hr1 hr2
theorem ar_drawG {id : Nat} {cs : List Nat} {lim : Nat → Nat} (hm : P.follows .mixedOrders = true) (hB : MixOk l mN cs) (hlim : ∀ (i j c : Nat) o, mN i = true → lim i = j → cs[j]? = some c → l[c]? = some o → ∀ p : Nat → Prop, (∀ (q : Nat) oq, l[q]? = some oq → p q → ∀ d ∈ depsOf oq, p d) → p c → p i)
    (hd : ∀ (i : Nat) o, l[i]? = some o → mN i = true → ∃ d, o.dst = some d ∧ o.guard = none ∧ d < σ.n)
    (h : ∀ F X tm D, SimE F X σ tm → ∃ V J, ∀ tf0, Full l mN V tm tf0 → DrawG P Q ks l mN cs lim F X tm tf0 D V J) : ARun P Q (.c (.region id l.toArray true) :: ks) σ := by
  intro F X a hs D hdf
  have hXd : New X ⟨X.w.drew, X.g⟩ := ⟨rfl, rfl, rfl, Nat.le_refl _, fun _ _ => ⟨rfl, rfl⟩⟩
  have hdst : ∀ (i : Nat) o, l[i]? = some o → mN i = true → ∃ d, o.dst = some d ∧ o.guard = none ∧ d < a.tmps.size := fun i o ho hmi => by
    obtain ⟨d, k1, k2, k3⟩ := hd i o ho hmi
    exact ⟨d, k1, k2, by rw [hs.size]; exact k3⟩
  obtain ⟨V, J, hG⟩ := h F ⟨X.w.drew, X.g⟩ a.tmps D (hs.new hXd hs.gb)
  obtain ⟨tf0, hfull⟩ := full_ex (V := V) (tm := a.tmps) hB fun q o d ho hmq hod => by
    obtain ⟨d', k1, _, k3⟩ := hdst q o ho hmq
    rw [hod] at k1; cases k1; exact k3
  obtain ⟨hf1, hf2, hf3⟩ := hfull
  obtain ⟨hJ, hN, hC, hfin⟩ := hG tf0 ⟨hf1, hf2, hf3⟩
  refine wp_region_any hm ?_
  let Inv : Array Bool → GW → Act → Prop := fun listed X1 a1 => ∃ (tf : Array Value) (done rem : List Nat), cs = done ++ rem ∧ (∀ i ∈ done, listed.getD i false = true) ∧ (∀ i ∈ rem, listed.getD i false = false) ∧ Filled l mN V listed a1.tmps tf ∧
    J done.length X1 tf ∧ Ext F X X1 ∧ a1.tmps.size = a.tmps.size ∧ (∀ t, (∀ (q : Nat) oq, l[q]? = some oq → oq.dst = some t → mN q = false ∧ listed.getD q false = false) → a1.tmps.getD t undef = a.tmps.getD t undef)
  have key : ∀ (fuel : Nat) (listed : Array Bool) (X1 : GW) (a1 : Act), listed.size = l.length →
      ((List.range l.length).filter (fun i => !listed.getD i true)).length ≤ fuel → a1.defers = D → Inv listed X1 a1 → (∀ j oj, l[j]? = some oj → listed.getD j false = true → ∀ d ∈ depsOf oj, listed.getD d false = true) →
      wpAny P .any l.toArray (PostA F X D (Stk P Q ks)) fuel listed a1 X1.w := by
    have fin : ∀ (listed : Array Bool) (X1 : GW) (a1 : Act), listed.size = l.length → Region.ready .any l.toArray listed = [] → a1.defers = D → Inv listed X1 a1 → PostA F X D (Stk P Q ks) .normal a1 X1.w := by
      rintro listed X1 a1 hsz hnil hd1 ⟨tf, done, rem, c1, c2, c3, c4, c5, c7, c8, c9⟩
      have hall : ∀ i, i < l.length → listed.getD i false = true := by
        intro i hil
        apply Classical.byContradiction
        intro hc
        have hc : listed.getD i false = false := by simpa using hc
        obtain ⟨k, hk, hkf, hkl⟩ := first_false (fun j => listed.getD j false) l.length ⟨i, hil, hc⟩
        have hmem : k ∈ Region.ready .any l.toArray listed := by
          refine mem_ready.2 ⟨by rw [getD_tf (by omega)]; exact hkf, l[k], by simp [hk], fun e he hb => ?_⟩
          exact hkl e.on (hB.lex k l[k] (List.getElem?_eq_getElem hk) e.on (mem_depsOf.2 ⟨e, he, hb, rfl⟩))
        rw [hnil] at hmem; cases hmem
      have hrem : rem = [] := by
        cases rem with
        | nil => rfl
        | cons c r =>
          have h1 := c3 c List.mem_cons_self
          rw [hall c (hB.clt c (by rw [c1]; simp))] at h1; cases h1
      subst hrem
      have htf : tf = a1.tmps := by
        apply Array.ext c4.size
        intro i h1 h2
        have := c4.same i fun q o k1 _ _ => hall q (List.getElem?_eq_some_iff.1 k1).1
        simpa [h1, h2] using this
      rw [htf] at c5
      rw [List.append_nil] at c1
      rw [← c1] at c5
      obtain ⟨σ', g1, g2⟩ := hfin X1 a1.tmps c5
      exact ⟨hd1, X1, σ', rfl, g2, g1, c7⟩
    intro fuel
    induction fuel with
    | zero =>
      intro listed X1 a1 hsz hf hd1 hI hdn
      have hnil : Region.ready .any l.toArray listed = [] := by
        rw [List.eq_nil_iff_forall_not_mem]
        intro i hi
        obtain ⟨h1, o, h2, _⟩ := mem_ready.1 hi
        have hil : i < l.length := by simpa using (Array.getElem?_eq_some_iff.1 h2).1
        have h0 := List.length_eq_zero_iff.1 (Nat.le_zero.1 hf)
        have := List.filter_eq_nil_iff.1 h0 i (List.mem_range.2 hil)
        rw [h1] at this; exact this rfl
      exact ⟨hnil, fin listed X1 a1 hsz hnil hd1 hI⟩
    | succ fuel ih =>
      intro listed X1 a1 hsz hf hd1 hI hdn
      refine ⟨fun hnil => fin listed X1 a1 hsz hnil hd1 hI, fun i hi => ?_⟩
      obtain ⟨h1, o, h2, h3⟩ := mem_ready.1 hi
      have h2' : l[i]? = some o := by simpa using h2
      have hil : i < l.length := (List.getElem?_eq_some_iff.1 h2').1
      have hlf : listed.getD i false = false := by rw [← getD_tf (by omega)]; exact h1
      have hdep : ∀ q ∈ depsOf o, listed.getD q false = true := fun q hq => by
        obtain ⟨e, k1, k2, k3⟩ := mem_depsOf.1 hq
        rw [← k3]; exact h3 e k1 k2
      have hcnt : ((List.range l.length).filter (fun j => !(listed.setIfInBounds i true).getD j true)).length ≤ fuel := by
        have := count_set hil hsz h1
        omega
      obtain ⟨tf, done, rem, c1, c2, c3, c4, c5, c7, c8, c9⟩ := hI
      have hset : ∀ j, (listed.setIfInBounds i true).getD j false = if j = i then true else listed.getD j false := fun j => getD_setb false (by omega)
      have hseen : ∀ t, t ∈ seesOf l o → tf.getD t undef = a1.tmps.getD t undef := fun t ht => c4.same t fun q oq k1 k2 k3 => hdep q (hB.settled i o q oq t h2' k1 k2 k3 ht).2
      have hdn' : ∀ j oj, l[j]? = some oj → (listed.setIfInBounds i true).getD j false = true → ∀ d ∈ depsOf oj, (listed.setIfInBounds i true).getD d false = true := fun j oj hoj hj d hd => by
        rw [hset] at hj ⊢
        split
        · rfl
        · by_cases e : j = i
          · subst e
            rw [h2'] at hoj; cases hoj
            exact hdep d hd
          · rw [if_neg e] at hj
            exact hdn j oj hoj hj d hd
      unfold wpOp
      simp only [h2]
      cases hmi : mN i with
      | true =>
        obtain ⟨d, k1, k2, hdl⟩ := hdst i o h2' hmi
        have hfree : ∀ t, t ∈ seesOf l o → (∀ (q : Nat) o', l[q]? = some o' → mN q = true → o'.dst ≠ some t) → ∀ (q : Nat) oq, l[q]? = some oq → oq.dst = some t → mN q = false ∧ listed.getD q false = false := fun t hts hn q oq hq hod => by
          cases hmq : mN q with
          | true => exact absurd hod (hn q oq hq hmq)
          | false =>
            refine ⟨rfl, ?_⟩
            cases hl : listed.getD q false with
            | false => rfl
            | true =>
              have := hdn q oq hq hl i (hB.nsees i o q oq t h2' hmi hq hmq hod hts)
              rw [hlf] at this; cases this
        have hsee0 : ∀ t, t ∈ seesOf l o → a1.tmps.getD t undef = tf0.getD t undef := fun t ht => by
          by_cases hx : ∃ (q : Nat) (oq : Oper), l[q]? = some oq ∧ mN q = true ∧ oq.dst = some t
          · obtain ⟨q, oq, j1, j2, j3⟩ := hx
            rw [hf3 q oq t j1 j2 j3, ← hseen t ht, c4.val q oq t j1 j2 j3]
          · have hn : ∀ (q : Nat) o', l[q]? = some o' → mN q = true → o'.dst ≠ some t := fun q o' a b c => hx ⟨q, o', a, b, c⟩
            rw [hf2 t hn]
            exact c9 t (hfree t ht hn)
        have hjl : done.length ≤ lim i := by
          apply Classical.byContradiction
          intro hc
          have hlt : lim i < done.length := by omega
          have hcj : cs[lim i]? = some done[lim i] := by rw [c1, List.getElem?_append_left hlt]; exact List.getElem?_eq_getElem hlt
          have hdl2 := c2 _ (List.getElem_mem hlt)
          have hcl := hB.clt _ (List.mem_of_getElem? hcj)
          have := hlim i _ _ _ hmi rfl hcj (List.getElem?_eq_getElem hcl) (fun q => listed.getD q false = true) hdn hdl2
          rw [hlf] at this; cases this
        have hw : Region.wanted o (yielded l.toArray a1.tmps) = true := by unfold Region.wanted; rw [k2]
        rw [if_pos hw]
        left
        refine (hN i o done.length X1 a1 tf h2' hmi hjl c5 hsee0).wp fun x w' ⟨hx, X2, q1, q2, q3⟩ => ?_
        subst q1 hx
        refine ih (listed.setIfInBounds i true) X2 (a1.put o.dst (V i)) (by simp [hsz]) hcnt (by rw [put_defers]; exact hd1) ⟨tf, done, rem, c1, fun j hj => ?_, fun j hj => ?_, ⟨by rw [put_sz]; exact c4.size, fun t ht => ?_, c4.val⟩, q2, c7.trans q3, by rw [put_sz]; exact c8, fun t ht => ?_⟩ hdn'
        · rw [hset]; split
          · rfl
          · exact c2 j hj
        · rw [hset, if_neg (fun e => by
            subst e
            have := (hB.call j hil).2 (by rw [c1]; exact List.mem_append_right _ hj)
            rw [hmi] at this; cases this)]
          exact c3 j hj
        · rw [put_getD, k1]
          by_cases e : t = d
          · subst e
            rw [if_pos ⟨rfl, by rw [c8]; exact hdl⟩]
            exact c4.val i o t h2' hmi k1
          · rw [if_neg (by rintro ⟨h, _⟩; exact e (Option.some.inj h).symm)]
            refine c4.same t fun q oq j1 j2 j3 => ?_
            have := ht q oq j1 j2 j3
            rw [hset] at this
            by_cases e2 : q = i
            · subst e2
              rw [h2'] at j1; cases j1
              rw [k1] at j3; cases j3; exact absurd rfl e
            · rw [if_neg e2] at this; exact this
        · rw [put_getD, if_neg (by
            rintro ⟨h, _⟩
            have := (ht i o h2' h).1
            rw [hmi] at this; cases this)]
          refine c9 t fun q oq j1 j2 => ?_
          obtain ⟨m1, m2⟩ := ht q oq j1 j2
          refine ⟨m1, ?_⟩
          rw [hset] at m2
          by_cases e2 : q = i
          · rw [if_pos e2] at m2; cases m2
          · rw [if_neg e2] at m2; exact m2
      | false =>
        obtain ⟨hg, hsel⟩ := hB.cguard i o h2' hmi
        have hics : i ∈ cs := (hB.call i hil).1 hmi
        have hirem : i ∈ rem := by
          rw [c1] at hics
          rcases List.mem_append.1 hics with h | h
          · rw [c2 i h] at hlf; cases hlf
          · exact h
        obtain ⟨r, hr⟩ : ∃ r, rem = i :: r := by
          cases hrem : rem with
          | nil => rw [hrem] at hirem; cases hirem
          | cons c r =>
            rw [hrem] at hirem
            rcases List.mem_cons.1 hirem with rfl | hir
            · exact ⟨r, rfl⟩
            · exfalso
              obtain ⟨j, hj⟩ := List.getElem?_of_mem hir
              have hjl : j < (c :: r).length := by
                have := (List.getElem?_eq_some_iff.1 hj).1
                simp; omega
              have hpre : cs[done.length + j]? = some (c :: r)[j] := by
                rw [c1, hrem, List.getElem?_append_right (by omega), show done.length + j - done.length = j by omega]
                exact List.getElem?_eq_getElem hjl
              have hpost : cs[done.length + j + 1]? = some i := by
                rw [c1, hrem, List.getElem?_append_right (by omega), show done.length + j + 1 - done.length = j + 1 by omega]
                simpa using hj
              have h5 := hdep _ (hB.cchain _ _ _ o hpre hpost h2')
              rw [c3 _ (by rw [hrem]; exact List.getElem_mem hjl)] at h5; cases h5
        subst hr
        have hw : Region.wanted o (yielded l.toArray a1.tmps) = true := by unfold Region.wanted; rw [hg]
        rw [if_pos hw]
        left
        have hcd : cs[done.length]? = some i := by rw [c1, List.getElem?_append_right (Nat.le_refl _)]; simp
        have hrun := hC done.length i o X1 tf hcd h2' c5
        have hev : execOp ({ tmps := tf, defers := D } : Act).eval o = execOp a1.eval o := by
          refine execOp_congr o hsel fun x hx => ?_
          cases x with
          | tmp t => exact hseen t (by simp only [seesOf]; exact List.mem_append_left _ (mem_tmpsOf (by simpa using hx)))
          | const v => rfl
          | func f => rfl
          | global g => rfl
        rw [hev] at hrun
        have hnd : ∀ (q : Nat) oq t, l[q]? = some oq → mN q = true → oq.dst = some t → o.dst ≠ some t := fun q oq t j1 j2 j3 e => by
          have := hB.ndst q i oq o t j1 h2' j2 j3 e
          subst this
          rw [hmi] at j2; cases j2
        have fin2 : ∀ (x : Value) (w' : World), (∃ X' : GW, X'.w = w' ∧ J (done.length + 1) X' (({ tmps := tf, defers := D } : Act).put o.dst x).tmps ∧ Ext F X1 X') → wpAny P .any l.toArray (PostA F X D (Stk P Q ks)) fuel (listed.setIfInBounds i true) (a1.put o.dst x) w' := by
          rintro x w' ⟨X2, rfl, q3, q4⟩
          have hnodup := hB.cnodup
          rw [c1] at hnodup
          refine ih (listed.setIfInBounds i true) X2 (a1.put o.dst x) (by simp [hsz]) hcnt (by rw [put_defers]; exact hd1) ⟨(({ tmps := tf, defers := D } : Act).put o.dst x).tmps, done ++ [i], r, by rw [c1]; simp, fun j hj => ?_, fun j hj => ?_, ⟨by rw [put_sz, put_sz]; exact c4.size, fun t ht => ?_, fun q oq t j1 j2 j3 => ?_⟩, by rw [List.length_append]; exact q3, c7.trans q4, by rw [put_sz]; exact c8, fun t ht => ?_⟩ hdn'
          · rw [hset]; split
            · rfl
            · rcases List.mem_append.1 hj with hj | hj
              · exact c2 j hj
              · rename_i hne
                simp at hj; exact absurd hj hne
          · have hji : j ≠ i := by
              rintro rfl
              have h6 := (List.nodup_append.1 hnodup).2.1
              rw [List.nodup_cons] at h6
              exact h6.1 hj
            rw [hset, if_neg hji]
            exact c3 j (List.mem_cons_of_mem _ hj)
          · rw [put_getD, put_getD]
            have hsz2 : ({ tmps := tf, defers := D } : Act).tmps.size = a1.tmps.size := c4.size
            rw [hsz2]
            by_cases e : o.dst = some t ∧ t < a1.tmps.size
            · rw [if_pos e, if_pos e]
            · rw [if_neg e, if_neg e]
              refine c4.same t fun q oq j1 j2 j3 => ?_
              have := ht q oq j1 j2 j3
              rw [hset] at this
              by_cases e2 : q = i
              · subst e2; rw [hmi] at j2; cases j2
              · rw [if_neg e2] at this; exact this
          · rw [put_getD, if_neg (by rintro ⟨h, _⟩; exact hnd q oq t j1 j2 j3 h)]
            exact c4.val q oq t j1 j2 j3
          · rw [put_getD, if_neg (by
              rintro ⟨h, _⟩
              have := (ht i o h2' h).2
              rw [hset, if_pos rfl] at this; cases this)]
            refine c9 t fun q oq j1 j2 => ?_
            obtain ⟨m1, m2⟩ := ht q oq j1 j2
            refine ⟨m1, ?_⟩
            rw [hset] at m2
            by_cases e2 : q = i
            · rw [if_pos e2] at m2; cases m2
            · rw [if_neg e2] at m2; exact m2
        have pan : ∀ (v : Value) (w' : World), (∃ (X' : GW) (H2 : List (Nat × List AV)) (tm2 : Array Value), X'.w = w' ∧ Stk P Q ks (.panic [{ v := v, recovered := false }]) ⟨a.tmps.size, [], H2, []⟩ ∧ SimE F X' ⟨a.tmps.size, [], H2, []⟩ tm2 ∧ Ext F X1 X') → PostA F X D (Stk P Q ks) (.panic [{ v := v, recovered := false }]) a1 w' := by
          rintro v w' ⟨X', H2, tm2, rfl, h3, h4, h5⟩
          exact ⟨hd1, X', _, rfl, h3, h4.slotless c8, c7.trans h5⟩
        unfold Oper.wp
        generalize (execOp a1.eval o).run P X1.w = r at hrun ⊢
        cases r with
        | halt z w =>
          cases z <;> simp only [runsX] at hrun
          exact pan _ _ hrun
        | ok nx w =>
          cases nx <;> simp only [runsX] at hrun <;> simp only [Oper.upon]
          case value x => exact fin2 _ _ hrun
          case skip => exact fin2 _ _ hrun
          case enter f args =>
            refine hrun.mono fun e w' he => ?_
            cases e with
            | returned v => exact fin2 _ _ he
            | panicked ch => obtain ⟨v, rfl, he⟩ := he; exact pan _ _ he
            | outgrown => exact he.elim
  have hno : ∀ i, (Array.replicate l.toArray.size false).getD i false = false := fun i => by
    simp only [Array.getD_eq_getD_getElem?, Array.getElem?_replicate]
    split <;> simp
  refine key _ _ ⟨X.w.drew, X.g⟩ a (by simp) (by refine Nat.le_trans (List.length_filter_le _ _) (by simp)) hdf ⟨tf0, [], cs, rfl, (fun i hi => by cases hi), (fun i _ => hno i), ⟨hf1, (fun t ht => hf2 t fun q o k1 k2 k3 => by have := ht q o k1 k2 k3; rw [hno] at this; cases this), hf3⟩, hJ, hXd.ext hs.gb hs.fb, rfl, fun t _ => rfl⟩ (fun j oj _ hf => by rw [hno] at hf; cases hf)
end
end Go.Proofs.Ytgmlkhfjhogdbaa
