/- The layer of abstract values: handing an owner on, forgetting, weakening; code over abstract states. -/
import Derived.Test.YtophpbihcfdkcaaG2
namespace Go.Proofs.Ytophpbihcfdkcaa
open Go.RowKit P
set_option linter.unusedSimpArgs false
set_option linter.unusedVariables false

theorem own_hand_self {σ : AS} {x sz : Nat} {l : List (List AV)} {T : List (Nat × AV)} {H : List (Nat × List AV)} {e : List (Nat × Root)} : AS.own { n := σ.n, t := (x, .sl true sz l) :: T, h := H, e := e } (.s x) = some (sz, l) := by simp [AS.own, look_cons, own1]

theorem SimE.hand {F : Nat → Prop} {X : GW} {σ : AS} {tm : Array Value} (h : SimE F X σ tm) {x : Nat} {r : Root} (hr : rootV tm X.w r = some (tm.getD x undef)) : SimE F X (σ.hand x r) tm := by
  unfold AS.hand
  cases ho : σ.own r with
  | none => exact h
  | some q =>
    obtain ⟨sz, l⟩ := q
    simp only
    have hl := h.lay r
    have hrel : Rel X (.sl true sz l) (tm.getD x undef) := by
      cases r with
      | s t =>
        simp only [AS.own] at ho
        cases hlk : look σ.t t with
        | none => rw [hlk] at ho; cases ho
        | some u =>
          rw [hlk] at ho
          have h1 := h.slot t u hlk
          simp only [rootV, Option.some.injEq] at hr
          rw [hr] at h1
          cases u with
          | sl o sz' l' => cases o <;> simp [own1] at ho; obtain ⟨rfl, rfl⟩ := ho; exact h1
          | _ => simp [own1] at ho
      | c k o =>
        simp only [AS.own] at ho
        cases hlk : look σ.h k with
        | none => rw [hlk] at ho; cases ho
        | some cs =>
          rw [hlk] at ho
          simp only at ho
          obtain ⟨b1, b2, arr, e, fr, b3, b4, b5, b6⟩ := (h.box k cs hlk).own ho
          cases hc : cs[o]? with
          | none => rw [hc] at ho; cases ho
          | some u =>
            rw [hc] at ho
            simp only [rootV, World.cell?, b3] at hr
            have h1 := b6 o u (tm.getD x undef) hc (by simpa using hr)
            cases u with
            | sl o sz' l' => cases o <;> simp [own1] at ho; obtain ⟨rfl, rfl⟩ := ho; exact h1
            | _ => simp [own1] at ho
    refine ⟨h.toSim.reown rfl (fun t u hu => ?_) (fun k cs hk => hl.box k cs hk) ?_ (fun r' => if r' = .s x then r else r') (fun r' sz' l' ho' => .inr ?_) (fun r1 r2 hne h1 h2 => ?_), ?_⟩
    · simp only [look_cons] at hu
      split at hu
      · rename_i e; subst e; cases hu; exact hrel
      · exact hl.slot t u hu
    · refine EqsOk.look ?_
      intro p hp
      obtain ⟨q', hq, hq2⟩ := List.mem_filterMap.1 hp
      split at hq2
      · cases hq2
      · split at hq2
        · rename_i e2; rw [← Option.some.inj hq2]; have := h.eqm q' hq; rw [e2, hr] at this; exact this
        · split at hq2
          · cases hq2
          · rw [← Option.some.inj hq2]; exact h.eqm q' hq
    · by_cases e : r' = .s x
      · subst e
        rw [if_pos rfl]
        rw [own_hand_self] at ho'
        cases ho'
        exact ⟨ho, by rw [hr]; rfl⟩
      · rw [if_neg e]
        refine ⟨?_, rfl⟩
        have h1 : (σ.lay r).own r' = some (sz', l') := by
          cases r' with
          | s t =>
            have hne : t ≠ x := fun e2 => e (by rw [e2])
            simp only [AS.own, look_cons] at ho' ⊢
            rw [if_neg hne] at ho'; exact ho'
          | c k o => exact ho'
        by_cases e2 : r' = r
        · subst e2; rw [lay_own_self] at h1; cases h1
        · rw [lay_own_ne e2] at h1; exact h1
    · have noR : ∀ q, q ≠ .s x → AS.own { n := σ.n, t := (x, .sl true sz l) :: (σ.lay r).t, h := (σ.lay r).h, e := σ.e.filterMap fun p => if p.1 == x then none else if p.2 = r then some (p.1, .s x) else if p.2.in x then none else some p } q ≠ none → q ≠ r := by
        intro q hq hown e
        subst e
        apply hown
        have : AS.own { n := σ.n, t := (x, .sl true sz l) :: (σ.lay q).t, h := (σ.lay q).h, e := σ.e.filterMap fun p => if p.1 == x then none else if p.2 = q then some (p.1, .s x) else if p.2.in x then none else some p } q = (σ.lay q).own q := by
          cases q with
          | s t =>
            have hne : t ≠ x := fun e2 => hq (by rw [e2])
            simp only [AS.own, look_cons]; rw [if_neg hne]
          | c k o => rfl
        rw [this]; exact lay_own_self q
      by_cases e1 : r1 = .s x
      · rw [if_pos e1]
        by_cases e2 : r2 = .s x
        · exact absurd (e1.trans e2.symm) hne
        · rw [if_neg e2]; exact fun e => noR r2 e2 h2 e.symm
      · rw [if_neg e1]
        by_cases e2 : r2 = .s x
        · rw [if_pos e2]; exact noR r1 e1 h1
        · rw [if_neg e2]; exact hne
    · intro p hp
      obtain ⟨q', hq, hq2⟩ := List.mem_filterMap.1 hp
      split at hq2
      · cases hq2
      · split at hq2
        · rename_i e2; rw [← Option.some.inj hq2]; have := h.eqm q' hq; rw [e2, hr] at this; exact this
        · split at hq2
          · cases hq2
          · rw [← Option.some.inj hq2]; exact h.eqm q' hq

/-- A state that knows less. -/
theorem SimE.sub {F : Nat → Prop} {X : GW} {σ σ' : AS} {tm : Array Value} (h : SimE F X σ tm) (hn : σ'.n = σ.n) (ht : ∀ t u, look σ'.t t = some u → look σ.t t = some u) (hh : ∀ k cs, look σ'.h k = some cs → look σ.h k = some cs) (he : ∀ p ∈ σ'.e, p ∈ σ.e) : SimE F X σ' tm := by
  have heq : EqsOk σ'.e tm X.w := fun p hp => h.eqm p (he p hp)
  refine ⟨h.toSim.reown hn (fun t u hu => h.slot t u (ht t u hu)) (fun k cs hk => h.box k cs (hh k cs hk)) heq.look id (fun r sz l ho => .inr ⟨?_, rfl⟩) (fun _ _ hne _ _ => hne), heq⟩
  cases r with
  | s t =>
    simp only [AS.own] at ho
    cases hlk : look σ'.t t with
    | none => rw [hlk] at ho; cases ho
    | some u => rw [hlk] at ho; simp only [id, AS.own]; rw [ht t u hlk]; exact ho
  | c k o =>
    simp only [AS.own] at ho
    cases hlk : look σ'.h k with
    | none => rw [hlk] at ho; cases ho
    | some u => rw [hlk] at ho; simp only [id, AS.own]; rw [hh k u hlk]; exact ho

/-- An owner that stands in a slot that is given up is handed on to a slot that stays. -/
def AS.save (K : List Nat) : List (Nat × Root) → AS → AS
  | [], σ => σ
  | (x, r) :: es, σ => AS.save K es (if K.contains x then (match r with | .s t => if K.contains t then σ else σ.hand x r | .c _ _ => σ) else σ)
theorem SimE.save {F : Nat → Prop} {X : GW} {tm : Array Value} (K : List Nat) : ∀ (es : List (Nat × Root)) (σ : AS), SimE F X σ tm → EqsOk es tm X.w → SimE F X (σ.save K es) tm
  | [], σ, h, _ => h
  | (x, r) :: es, σ, h, he => by
    refine SimE.save K es _ ?_ (fun p hp => he p (List.mem_cons_of_mem _ hp))
    have h1 := he (x, r) List.mem_cons_self
    split
    · cases r with
      | s t =>
        simp only
        split
        · exact h
        · exact h.hand h1
      | c k o => exact h
    · exact h
def keepT (T : List (Nat × AV)) : List Nat → List (Nat × AV)
  | [] => []
  | k :: ks => match look T k with | some u => (k, u) :: keepT T ks | none => keepT T ks
theorem look_keepT {T : List (Nat × AV)} : ∀ {K : List Nat} {t : Nat} {u : AV}, look (keepT T K) t = some u → look T t = some u
  | [], _, _, h => by cases h
  | k :: ks, t, u, h => by
    simp only [keepT] at h
    cases hl : look T k with
    | none => rw [hl] at h; exact look_keepT h
    | some u0 =>
      rw [hl] at h
      simp only [look_cons] at h
      split at h
      · rename_i e; subst e; rw [hl]; exact h
      · exact look_keepT h
def Root.keepB (K : List Nat) : Root → Bool
  | .s t => K.contains t
  | .c _ _ => true
/-- Only the slots of K stay. -/
def AS.keep (K : List Nat) (σ : AS) : AS :=
  { n := σ.n, t := keepT (σ.save K σ.e).t K, h := (σ.save K σ.e).h, e := (σ.save K σ.e).e.filter fun p => K.contains p.1 && p.2.keepB K }
theorem hand_n (σ : AS) (x : Nat) (r : Root) : (σ.hand x r).n = σ.n := by unfold AS.hand; split <;> rfl
theorem save_n (K : List Nat) : ∀ (es : List (Nat × Root)) (σ : AS), (σ.save K es).n = σ.n
  | [], _ => rfl
  | (x, r) :: es, σ => by
    simp only [AS.save]
    rw [save_n K es]
    split
    · cases r with
      | s t => simp only; split <;> simp [hand_n]
      | c k o => rfl
    · rfl
theorem SimE.keep {F : Nat → Prop} {X : GW} {σ : AS} {tm : Array Value} (h : SimE F X σ tm) (K : List Nat) : SimE F X (σ.keep K) tm :=
  (SimE.save K σ.e σ h h.eqm).sub (save_n K σ.e σ).symm (fun _ _ hu => look_keepT hu) (fun _ _ hk => hk) (fun _ hp => (List.mem_filter.1 hp).1)

/-- What is known of a value is known of it. -/
inductive Le1 : AV → AV → Prop
  | refl (u : AV) : Le1 u u
  | rd (o : Bool) (sz : Nat) (l : List (List AV)) : Le1 (.sl o sz l) (.sl false sz l)
  | nil (o : Bool) (sz : Nat) : Le1 (.v (.slice none 0 0)) (.sl o sz [])
theorem Le1.of_eq {u u' : AV} (h : u = u') : Le1 u u' := by subst h; exact .refl _
theorem Le1.rel {X : GW} {u u' : AV} {x : Value} (h : Le1 u u') (hr : Rel X u x) : Rel X u' x := by
  cases h with
  | refl => exact hr
  | rd => exact hr.own
  | nil => cases hr; exact .nil _ _
def LeT (T : List (Nat × AV)) : List (Nat × AV) → Prop
  | [] => True
  | (k, u') :: r => (∃ u, look T k = some u ∧ Le1 u u') ∧ LeT T r
theorem LeT.look {T : List (Nat × AV)} : ∀ {T' : List (Nat × AV)}, LeT T T' → ∀ t u', look T' t = some u' → ∃ u, look T t = some u ∧ Le1 u u'
  | [], _, _, _, h => by cases h
  | (k, u0) :: r, h, t, u', hl => by
    simp only [look_cons] at hl
    split at hl
    · rename_i e; subst e; cases hl; exact h.1
    · exact LeT.look h.2 t u' hl
inductive LeL : List AV → List AV → Prop
  | nil : LeL [] []
  | cons {u u' : AV} {r r' : List AV} : Le1 u u' → LeL r r' → LeL (u :: r) (u' :: r')
theorem LeL.refl : ∀ l, LeL l l
  | [] => .nil
  | u :: r => .cons (.refl u) (LeL.refl r)
theorem LeL.of_eq {l l' : List AV} (h : l = l') : LeL l l' := by subst h; exact .refl _
theorem LeL.length {l l' : List AV} (h : LeL l l') : l.length = l'.length := by induction h <;> simp_all
theorem LeL.get {l l' : List AV} (h : LeL l l') : ∀ (i : Nat) u', l'[i]? = some u' → ∃ u, l[i]? = some u ∧ Le1 u u' := by
  induction h with
  | nil => intro i u' h; simp at h
  | cons hu _ ih =>
    intro i u' h
    cases i with
    | zero => simp at h; subst h; exact ⟨_, by simp, hu⟩
    | succ i => simpa using ih i u' (by simpa using h)
def LeH (H : List (Nat × List AV)) : List (Nat × List AV) → Prop
  | [] => True
  | (k, cs') :: r => (∃ cs, look H k = some cs ∧ LeL cs cs') ∧ LeH H r
theorem LeH.look {H : List (Nat × List AV)} : ∀ {H' : List (Nat × List AV)}, LeH H H' → ∀ t u', look H' t = some u' → ∃ u, look H t = some u ∧ LeL u u'
  | [], _, _, _, h => by cases h
  | (k, u0) :: r, h, t, u', hl => by
    simp only [look_cons] at hl
    split at hl
    · rename_i e; subst e; cases hl; exact h.1
    · exact LeH.look h.2 t u' hl
structure Le (σ σ' : AS) : Prop where
  n : σ'.n = σ.n
  t : LeT σ.t σ'.t
  h : LeH σ.h σ'.h
  e : σ'.e = []

theorem Le1.own {u u' : AV} (h : Le1 u u') {sz l} (ho : own1 (some u') = some (sz, l)) : own1 (some u) = some (sz, l) ∨ (u = .v (.slice none 0 0) ∧ l = []) := by
  cases h with
  | refl => exact .inl ho
  | rd => cases ho
  | nil o => cases o <;> simp [own1] at ho; exact .inr ⟨rfl, ho.2⟩
theorem SimE.le {F : Nat → Prop} {X : GW} {σ σ' : AS} {tm : Array Value} (h : SimE F X σ tm) (hle : Le σ σ') : SimE F X σ' tm := by
  have heq : EqsOk σ'.e tm X.w := by rw [hle.e]; intro p hp; cases hp
  refine ⟨h.toSim.reown hle.n (fun t u hu => ?_) (fun k cs hk => ?_) heq.look id (fun r sz l ho => ?_) (fun _ _ hne _ _ => hne), heq⟩
  · obtain ⟨u0, h1, h2⟩ := hle.t.look t u hu
    exact h2.rel (h.slot t u0 h1)
  · obtain ⟨cs0, h1, h2⟩ := hle.h.look k cs hk
    rcases h.box k cs0 h1 with ⟨_, b1, b2, arr, e, fr, b3, b4, b5, b6⟩ | ⟨l, rfl, hmk⟩
    case inr =>
      cases h2 with
      | cons hu hr =>
        cases hr
        cases hu
        exact .inr ⟨l, rfl, hmk⟩
    refine CellsOk.box ⟨b1, b2, arr, e, fr, b3, by rw [b4]; exact h2.length, b5, fun o u x hu hx => ?_⟩
    obtain ⟨u0, k1, k2⟩ := h2.get o u hu
    exact k2.rel (b6 o u0 x k1 hx)
  · cases r with
    | s t =>
      simp only [AS.own] at ho
      cases hlk : look σ'.t t with
      | none => rw [hlk] at ho; cases ho
      | some u =>
        rw [hlk] at ho
        obtain ⟨u0, h1, h2⟩ := hle.t.look t u hlk
        rcases h2.own ho with h3 | ⟨h3, h4⟩
        · right; simp only [id, AS.own]; rw [h1]; exact ⟨h3, trivial⟩
        · left
          subst h3
          have := h.slot t _ h1
          refine ⟨?_, h4⟩
          simp only [rootV]
          generalize tm.getD t undef = y at this
          cases this; rfl
    | c k o =>
      simp only [AS.own] at ho
      cases hlk : look σ'.h k with
      | none => rw [hlk] at ho; cases ho
      | some cs =>
        rw [hlk] at ho
        simp only at ho
        obtain ⟨cs0, h1, h2⟩ := hle.h.look k cs hlk
        cases hc : cs[o]? with
        | none => rw [hc] at ho; cases ho
        | some u =>
          rw [hc] at ho
          obtain ⟨u0, k1, k2⟩ := h2.get o u hc
          rcases k2.own ho with h3 | ⟨h3, h4⟩
          · right; simp only [id, AS.own]; rw [h1]; simp only; rw [k1]; exact ⟨h3, trivial⟩
          · left
            subst h3
            obtain ⟨b1, b2, arr, e, fr, b3, b4, b5, b6⟩ := (h.box k cs0 h1).at k1 rfl
            have hlt := (List.getElem?_eq_some_iff.1 k1).1
            have hx : arr[o]? = some arr[o] := Array.getElem?_eq_getElem (by omega)
            have := b6 o _ _ k1 hx
            refine ⟨?_, h4⟩
            simp only [rootV, World.cell?, b3]
            rw [hx]
            generalize arr[o] = y at this
            cases this; rfl

end Go.Proofs.Ytophpbihcfdkcaa
