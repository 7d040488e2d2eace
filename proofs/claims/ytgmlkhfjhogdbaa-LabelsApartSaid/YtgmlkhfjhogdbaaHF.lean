-- slim: written by gen/slim.py from XHF.lean.tpl
/- Typed abstract values: operations that turn something; the operations of a region. -/
import Derived.Test.YtgmlkhfjhogdbaaHE
import Derived.Lib.SliceRun
namespace Go.Proofs.Ytgmlkhfjhogdbaa
open Go.RowKit P
set_option linter.unusedSimpArgs false
set_option linter.unusedVariables false

/-- What may come, by choices and by what there is. -/
inductive Tree (L : Type) : Type 1 where
  | leaf (x : L)
  | cond (b : Bool) (t f : Tree L)
  | bnd {α : Type} (o : Option α) (k : α → Tree L)
  | sm {α : Type} (x : PR α) (k : α → Tree L) (p : Value → Tree L)
  | nl {α : Type} (l : List α) (t f : Tree L)
  | fail
def Tree.holds {L : Type} (K : L → Prop) : Tree L → Prop
  | .leaf x => K x
  | .cond b t f => (b = true → t.holds K) ∧ (b = false → f.holds K)
  | .bnd o k => ∃ z, o = some z ∧ (k z).holds K
  | .sm x k p => (∀ z, x = .ok z → (k z).holds K) ∧ ∀ v, x = .pan v → (p v).holds K
  | .nl l t f => (l = [] → t.holds K) ∧ f.holds K
  | .fail => False
def Tree.bind {L M : Type} (f : L → Tree M) : Tree L → Tree M
  | .leaf x => f x
  | .cond b s t => .cond b (s.bind f) (t.bind f)
  | .bnd o k => .bnd o fun z => (k z).bind f
  | .sm x k p => .sm x (fun z => (k z).bind f) fun v => (p v).bind f
  | .nl l s t => .nl l (s.bind f) (t.bind f)
  | .fail => .fail
theorem holds_bind {L M : Type} {f : L → Tree M} {K : M → Prop} : ∀ {t : Tree L}, (t.bind f).holds K → t.holds fun x => (f x).holds K
  | .leaf x, h => h
  | .cond b s t, h => ⟨fun e => holds_bind (h.1 e), fun e => holds_bind (h.2 e)⟩
  | .bnd o k, ⟨z, h1, h2⟩ => ⟨z, h1, holds_bind h2⟩
  | .sm x k p, h => ⟨fun z e => holds_bind (h.1 z e), fun v e => holds_bind (h.2 v e)⟩
  | .nl l s t, h => ⟨fun e => holds_bind (h.1 e), holds_bind h.2⟩
  | .fail, h => h
theorem Tree.holds.mono {L : Type} {K K' : L → Prop} (hk : ∀ x, K x → K' x) : ∀ {t : Tree L}, t.holds K → t.holds K'
  | .leaf x, h => hk x h
  | .cond b s t, h => ⟨fun e => (h.1 e).mono hk, fun e => (h.2 e).mono hk⟩
  | .bnd o k, ⟨z, h1, h2⟩ => ⟨z, h1, h2.mono hk⟩
  | .sm x k p, h => ⟨fun z e => (h.1 z e).mono hk, fun v e => (h.2 v e).mono hk⟩
  | .nl l s t, h => ⟨fun e => (h.1 e).mono hk, h.2.mono hk⟩
  | .fail, h => h

/-- What is told of a value is told of it. -/
def LeV (u u' : AV) : Prop := Le1 u u' ∨ ((∀ X v, Rel X u v → Rel X u' v) ∧ own1 (some u') = none)
theorem LeV.rel {u u' : AV} (h : LeV u u') {X : GW} {v : Value} (hr : Rel X u v) : Rel X u' v := by
  rcases h with h | h
  · exact h.rel hr
  · exact h.1 X v hr
theorem SimE.le3 {F : Nat → Prop} {X : GW} {σ σ' : AS} {tm : Array Value} (h : SimE F X σ tm) (hn : σ'.n = σ.n) (ht : ∀ t u', look σ'.t t = some u' → ∃ u, look σ.t t = some u ∧ LeV u u') (hh : ∀ k cs', look σ'.h k = some cs' → ∃ cs, look σ.h k = some cs ∧ LeL cs cs') (he : ∀ p ∈ σ'.e, p ∈ σ.e) : SimE F X σ' tm := by
  have heq : EqsOk σ'.e tm X.w := fun p hp => h.eqm p (he p hp)
  refine ⟨h.toSim.reown hn (fun t u hu => ?_) (fun k cs hk => ?_) heq.look id (fun r sz l ho => ?_) (fun _ _ hne _ _ => hne), heq⟩
  · obtain ⟨u0, h1, h2⟩ := ht t u hu
    exact h2.rel (h.slot t u0 h1)
  · obtain ⟨cs0, h1, h2⟩ := hh k cs hk
    rcases h.box k cs0 h1 with ⟨_, b1, b2, arr, e, fr, b3, b4, b5, b6⟩ | ⟨l, rfl, hmk⟩
    case inr =>
      cases h2 with
      | cons hu hr =>
        cases hr
        cases hu
        exact .inr ⟨l, rfl, hmk⟩
    refine CellsOk.box ⟨b1, b2, arr, e, fr, b3, by rw [b4]; exact h2.length, b5, fun o u x hu hx => ?_⟩
    obtain ⟨u0, k1, k2⟩ := h2.get o u hu
    exact k2.rel (b6 o u0 x k1 hx)
  · cases r with
    | s t =>
      simp only [AS.own] at ho
      cases hlk : look σ'.t t with
      | none => rw [hlk] at ho; cases ho
      | some u =>
        rw [hlk] at ho
        obtain ⟨u0, h1, h2⟩ := ht t u hlk
        rcases h2 with h2 | h2
        · rcases h2.own ho with h3 | ⟨h3, h4⟩
          · right; simp only [id, AS.own]; rw [h1]; exact ⟨h3, trivial⟩
          · left
            subst h3
            have := h.slot t _ h1
            refine ⟨?_, h4⟩
            simp only [rootV]
            generalize tm.getD t undef = y at this
            cases this; rfl
        · rw [h2.2] at ho; cases ho
    | c k o =>
      simp only [AS.own] at ho
      cases hlk : look σ'.h k with
      | none => rw [hlk] at ho; cases ho
      | some cs =>
        rw [hlk] at ho
        simp only at ho
        obtain ⟨cs0, h1, h2⟩ := hh k cs hlk
        cases hc : cs[o]? with
        | none => rw [hc] at ho; cases ho
        | some u =>
          rw [hc] at ho
          obtain ⟨u0, k1, k2⟩ := h2.get o u hc
          rcases k2.own ho with h3 | ⟨h3, h4⟩
          · right; simp only [id, AS.own]; rw [h1]; simp only; rw [k1]; exact ⟨h3, trivial⟩
          · left
            subst h3
            obtain ⟨b1, b2, arr, e, fr, b3, b4, b5, b6⟩ := (h.box k cs0 h1).at k1 rfl
            have hlt := (List.getElem?_eq_some_iff.1 k1).1
            have hx : arr[o]? = some arr[o] := Array.getElem?_eq_getElem (by omega)
            have := b6 o _ _ k1 hx
            refine ⟨?_, h4⟩
            simp only [rootV, World.cell?, b3]
            rw [hx]
            generalize arr[o] = y at this
            cases this; rfl
theorem SimE.le2 {F : Nat → Prop} {X : GW} {σ σ' : AS} {tm : Array Value} (h : SimE F X σ tm) (hn : σ'.n = σ.n) (ht : ∀ t u', look σ'.t t = some u' → ∃ u, look σ.t t = some u ∧ Le1 u u') (hh : ∀ k cs', look σ'.h k = some cs' → ∃ cs, look σ.h k = some cs ∧ LeL cs cs') (he : ∀ p ∈ σ'.e, p ∈ σ.e) : SimE F X σ' tm :=
  h.le3 hn (fun t u' hu => let ⟨u, h1, h2⟩ := ht t u' hu; ⟨u, h1, .inl h2⟩) hh he
/-- A contract, handed what tells more. -/
theorem ACalls.args {P : Program} {f : FuncId} {us us' : List AV} {H : List (Nat × List AV)} {post : AOut → List (Nat × List AV) → Prop} (hl : us.length = us'.length) (hr : ∀ (i : Nat) u u', us[i]? = some u → us'[i]? = some u' → LeV u u') (h : ACalls P f us' H post) : ACalls P f us H post := by
  refine ⟨h.1, fun F X vs hs => h.2 F X vs ?_⟩
  refine hs.le3 hl.symm (fun t u' hu => ?_) (fun k cs' hk => ⟨cs', hk, LeL.refl _⟩) (fun p hp => hp)
  obtain ⟨_, h2⟩ := look_slotsOf us' 0 t u' hu
  have hlt := (List.getElem?_eq_some_iff.1 h2).1
  have hlt' : t < us.length := by omega
  have e : us[t]? = some us[t] := List.getElem?_eq_getElem hlt'
  refine ⟨us[t], ?_, hr t _ _ e h2⟩
  have key : ∀ (us : List AV) (k t : Nat) (u : AV), us[t]? = some u → look (slotsOf k us) (k + t) = some u := by
    intro us
    induction us with
    | nil => intro k t u h; simp at h
    | cons a us ih =>
      intro k t u h
      simp only [slotsOf, look_cons]
      cases t with
      | zero => simp at h; subst h; simp
      | succ t =>
        rw [if_neg (by omega), show k + (t + 1) = (k + 1) + t by omega]
        exact ih (k + 1) t u (by simpa using h)
  simpa using key us 0 t _ e

section
variable {E : Env} {ρ : Nat → Nat}
def TS.rootT {T : Nat → Type} (σ : TS T) (s : Nat) : Option Root := match look σ.t s with
  | some (.a (.own _ _)) => some (.s s)
  | some (.a (.d (.sl _) _)) => look σ.e s
  | _ => none
theorem rootT_to {σ : TS E.T} {s : Nat} {r : Root} (h : σ.rootT s = some r) : rootOf (σ.to E.toEnc ρ) s = some (r.to ρ) := by
  unfold TS.rootT at h
  unfold rootOf
  split at h
  · rename_i t l hl; cases h; simp only [TS.to, look_tTo, hl]; rfl
  · rename_i t l hl; simp only [TS.to, look_tTo, hl, look_eTo, h]; rfl
  · cases h
theorem rootT_none {σ : TS E.T} {s : Nat} (h : σ.rootT s = none) {u : TV E.T} (hu : look σ.t s = some u) : rootOf (σ.to E.toEnc ρ) s = none ∨ ∃ v, u = .a (.raw v) := by
  unfold TS.rootT at h
  unfold rootOf
  rw [hu] at h
  simp only [TS.to, look_tTo, hu, look_eTo]
  cases u with
  | a x =>
    cases x with
    | d t x =>
      cases t with
      | sl t => left; show Option.map (Root.to ρ) (look σ.e s) = none; rw [show look σ.e s = none from h]; rfl
      | ptr t => left; cases x <;> rfl
      | _ => left; rfl
    | own t l => cases h
    | raw v => right; exact ⟨v, rfl⟩
    | _ => left; rfl
  | _ => left; rfl
def TS.mvT {T : Nat → Type} (σ : TS T) (d s : Nat) (u : TV T) : TS T := match σ.rootT s with
  | some r => match r.in d with
    | true => σ.put d u.rd
    | false => (σ.put d u.rd).alias d r
  | none => σ.put d u.rd
theorem mvT_to {σ : TS E.T} {d s : Nat} {u : TV E.T} (hu : look σ.t s = some u) (hr : ∀ v, u ≠ .a (.raw v)) : (σ.to E.toEnc ρ).mv d s (u.to E.toEnc ρ) = (σ.mvT d s u).to E.toEnc ρ := by
  unfold AS.mv TS.mvT
  cases h : σ.rootT s with
  | none =>
    rcases rootT_none (ρ := ρ) h hu with h1 | ⟨v, h1⟩
    · rw [h1]; simp only [put_to, TV.rd_to]
    · exact absurd h1 (hr v)
  | some r =>
    rw [rootT_to h]
    simp only [root_in]
    cases r.in d
    · simp only [alias_to, put_to, TV.rd_to]
    · simp only [put_to, TV.rd_to]
theorem mvT_h {T : Nat → Type} (σ : TS T) (d s : Nat) (u : TV T) : (σ.mvT d s u).h = σ.h := by
  unfold TS.mvT
  split
  · split <;> rfl
  · rfl
def firstAlT (d : Nat) : List (Nat × Root) → Option Nat
  | [] => none
  | (x, .s t) :: r => match Nat.beq t d, Nat.beq x d with | true, false => some x | _, _ => firstAlT d r
  | (_, .c _ _) :: r => firstAlT d r
theorem firstAl_eTo (d : Nat) : ∀ (e : List (Nat × Root)), firstAl d (eTo ρ e) = firstAlT d e
  | [] => rfl
  | (x, .s t) :: r => by
    have := firstAl_eTo d r
    show (match Nat.beq t d, Nat.beq x d with | true, false => some x | _, _ => firstAl d (eTo ρ r)) = (match Nat.beq t d, Nat.beq x d with | true, false => some x | _, _ => firstAlT d r)
    rw [this]
  | (x, .c k o) :: r => firstAl_eTo d r
def TS.freeT {T : Nat → Type} (σ : TS T) (d : Nat) : TS T := match firstAlT d σ.e with
  | some x => σ.hand x d
  | none => σ
theorem own_none_hand {σ : AS} {x : Nat} {r : Root} (h : σ.own r = none) : σ.hand x r = σ := by unfold AS.hand; rw [h]
theorem hand_to' (σ : TS E.T) (x t : Nat) (hr : ∀ v, look σ.t t ≠ some (.a (.raw v))) : (σ.hand x t).to E.toEnc ρ = (σ.to E.toEnc ρ).hand x (.s t) := by
  by_cases h : ∃ ty l, look σ.t t = some (.a (.own ty l))
  · obtain ⟨ty, l, hl⟩ := h
    exact hand_to σ hl
  · have h1 : σ.hand x t = σ := by
      unfold TS.hand
      split
      · rename_i ty l hl; exact absurd ⟨ty, l, hl⟩ h
      · rfl
    rw [h1, own_none_hand]
    simp only [AS.own, TS.to, look_tTo]
    cases hl : look σ.t t with
    | none => rfl
    | some u =>
      cases u with
      | a x =>
        cases x with
        | d t x => exact one_plain _ _ _
        | own t l => exact absurd ⟨t, l, hl⟩ h
        | raw v => exact absurd hl (hr v)
        | _ => rfl
      | _ => rfl
theorem freeT_h {T : Nat → Type} (σ : TS T) (d : Nat) : (σ.freeT d).h = σ.h := by
  unfold TS.freeT
  split
  · unfold TS.hand; split <;> rfl
  · rfl
theorem hand_raw {σ : AS} {x t : Nat} {v : Value} (h : look σ.t t = some (.v v)) : σ.hand x (.s t) = σ := own_none_hand (by simp only [AS.own, h]; rfl)
theorem freeT_to (σ : TS E.T) (d : Nat) : (σ.freeT d).to E.toEnc ρ = (σ.to E.toEnc ρ).free d := by
  unfold TS.freeT AS.free
  have : firstAl d (σ.to E.toEnc ρ).e = firstAlT d σ.e := firstAl_eTo d σ.e
  rw [this]
  cases hx : firstAlT d σ.e with
  | some x =>
    simp only
    by_cases hr : ∃ v, look σ.t d = some (.a (.raw v))
    · obtain ⟨v, hv⟩ := hr
      have h1 : σ.hand x d = σ := by unfold TS.hand; rw [hv]
      rw [h1]
      exact (hand_raw (v := v) (by simp only [TS.to, look_tTo, hv]; rfl)).symm
    · exact hand_to' σ x d fun v hv => hr ⟨v, hv⟩
  | none => rfl
def dropCT (e : List (Nat × Root)) : List (Nat × Root) := e.filter fun p => match p.2 with | .s _ => true | .c _ _ => false
theorem dropC_eTo (e : List (Nat × Root)) : (eTo ρ e).filter (fun p => match p.2 with | .s _ => true | .c _ _ => false) = eTo ρ (dropCT e) := by
  unfold eTo dropCT
  rw [List.filter_map]
  congr 1
  apply List.filter_congr
  intro p _
  obtain ⟨a, b⟩ := p
  cases b <;> rfl
def TS.dropC {T : Nat → Type} (σ : TS T) : TS T := { n := σ.n, t := σ.t, h := σ.h, e := dropCT σ.e }
theorem dropC_to (σ : TS E.T) : σ.dropC.to E.toEnc ρ = (σ.to E.toEnc ρ).dropC := congrArg (AS.mk _ _ _) (dropC_eTo σ.e).symm
def TS.setc {T : Nat → Type} (σ : TS T) (k : Nat) (cs : List (TA T)) : TS T := { n := σ.n, t := σ.t, h := (k, .cs cs) :: σ.h, e := dropCT σ.e }
theorem setc_to (σ : TS E.T) (k : Nat) (cs : List (TA E.T)) : (σ.setc k cs).to E.toEnc ρ = (σ.to E.toEnc ρ).setc (ρ k) (cs.map (TA.to E.toEnc ρ)) := congrArg (AS.mk _ _ _) (dropC_eTo σ.e).symm
theorem inj_cons {T : Nat → Type} {h : List (Nat × TB T)} {k : Nat} {b b' : TB T} (hi : Inj ρ h) (hb : look h k = some b) : Inj ρ ((k, b') :: h) := hi.sub fun p hp => by
  rcases List.mem_cons.1 hp with rfl | hp
  · exact ⟨_, look_mem hb, rfl⟩
  · exact ⟨p, hp, rfl⟩

/-! ### New boxes -/
def TA.noId {T : Nat → Type} (d : Nat) : TA T → Bool
  | .box i _ => !Nat.beq i d
  | .mpr i => !Nat.beq i d
  | .fnb _ l => l.all fun i => !Nat.beq i d
  | .bsl i _ _ _ => !Nat.beq i d
  | _ => true
def TC.noId {T : Nat → Type} (d : Nat) : TC T → Bool
  | .a x => x.noId d
  | .ag l => l.all (TA.noId d)
def TV.noId {T : Nat → Type} (d : Nat) : TV T → Bool
  | .a x => x.noId d
  | .ag l => l.all (TA.noId d)
  | .el l => l.all (TA.noId d)
  | .tu l => l.all (TC.noId d)
  | .fn _ l => l.all (TA.noId d)
  | .ifc _ x => x.noId d
def TB.noId {T : Nat → Type} (d : Nat) : TB T → Bool
  | .cs l => l.all (TA.noId d)
  | .smap _ _ => true
  | .row _ _ => true
def Root.noId (d : Nat) : Root → Bool
  | .s _ => true
  | .c k _ => !Nat.beq k d
def TS.noId {T : Nat → Type} (d : Nat) (σ : TS T) : Bool := σ.t.all (fun p => p.2.noId d) && σ.h.all (fun p => !Nat.beq p.1 d && p.2.noId d) && σ.e.all fun p => p.2.noId d
def upd (ρ : Nat → Nat) (d k : Nat) : Nat → Nat := fun i => if i = d then k else ρ i
theorem upd_ne {d k i : Nat} (h : (!Nat.beq i d) = true) : upd ρ d k i = ρ i := by
  unfold upd
  rw [if_neg]
  rintro rfl
  rw [Nat.beq_refl] at h; cases h
theorem TA.upd_to {d k : Nat} {x : TA E.T} (h : x.noId d = true) : x.to E.toEnc (upd ρ d k) = x.to E.toEnc ρ := by
  cases x with
  | box i o => simp only [TA.to, upd_ne (ρ := ρ) (k := k) h]
  | mpr i => simp only [TA.to, upd_ne (ρ := ρ) (k := k) h]
  | bsl i off n c => simp only [TA.to, upd_ne (ρ := ρ) (k := k) h]
  | fnb f l => simp only [TA.to]; rw [List.map_congr_left fun i hi => by rw [upd_ne (ρ := ρ) (k := k) (List.all_eq_true.1 h i hi)]]
  | _ => rfl
theorem mapTA_upd {d k : Nat} {l : List (TA E.T)} (h : l.all (TA.noId d) = true) : l.map (TA.to E.toEnc (upd ρ d k)) = l.map (TA.to E.toEnc ρ) :=
  List.map_congr_left fun x hx => TA.upd_to (List.all_eq_true.1 h x hx)
theorem TC.upd_to {d k : Nat} {x : TC E.T} (h : x.noId d = true) : x.to E.toEnc (upd ρ d k) = x.to E.toEnc ρ := by
  cases x with
  | a x => exact TA.upd_to h
  | ag l => simp only [TC.to]; rw [mapTA_upd h]
theorem TV.upd_to {d k : Nat} {x : TV E.T} (h : x.noId d = true) : x.to E.toEnc (upd ρ d k) = x.to E.toEnc ρ := by
  cases x with
  | a x => exact TA.upd_to h
  | ag l => simp only [TV.to]; rw [mapTA_upd h]
  | el l => simp only [TV.to]; rw [mapTA_upd h]
  | tu l => simp only [TV.to]; rw [List.map_congr_left fun x hx => TC.upd_to (List.all_eq_true.1 h x hx)]
  | fn f l => simp only [TV.to]; rw [mapTA_upd h]
  | ifc t x => simp only [TV.to]; rw [TC.upd_to h]
theorem TB.upd_to {d k : Nat} {x : TB E.T} (h : x.noId d = true) : x.to E.toEnc (upd ρ d k) = x.to E.toEnc ρ := by
  cases x with
  | cs l => exact mapTA_upd h
  | smap t l => rfl
  | row t l => rfl
theorem TS.upd_to {d k : Nat} {σ : TS E.T} (h : σ.noId d = true) : σ.to E.toEnc (upd ρ d k) = σ.to E.toEnc ρ := by
  unfold TS.noId at h
  simp only [Bool.and_eq_true] at h
  obtain ⟨⟨h1, h2⟩, h3⟩ := h
  unfold TS.to
  congr 1
  · exact List.map_congr_left fun p hp => by rw [TV.upd_to (List.all_eq_true.1 h1 p hp)]
  · exact List.map_congr_left fun p hp => by
      have := List.all_eq_true.1 h2 p hp
      simp only [Bool.and_eq_true] at this
      rw [TB.upd_to this.2, upd_ne (ρ := ρ) this.1]
  · exact List.map_congr_left fun p hp => by
      have := List.all_eq_true.1 h3 p hp
      obtain ⟨a, b⟩ := p
      cases b with
      | s t => rfl
      | c k o => simp only [Root.to, upd_ne (ρ := ρ) this]
def TS.boxT {T : Nat → Type} (σ : TS T) (d : Nat) (cs : List (TA T)) : TS T := { n := σ.n, t := σ.t, h := (d, .cs cs) :: σ.h, e := σ.e }
def TS.boxM {T : Nat → Type} (σ : TS T) (d : Nat) (t : Ty) (l : List (List UInt8 × Den T t)) : TS T := { n := σ.n, t := σ.t, h := (d, .smap t l) :: σ.h, e := σ.e }
def TS.boxR {T : Nat → Type} (σ : TS T) (d : Nat) (t : Ty) (l : List (Den T t)) : TS T := { n := σ.n, t := σ.t, h := (d, .row t l) :: σ.h, e := σ.e }
def TS.setr {T : Nat → Type} (σ : TS T) (k : Nat) (t : Ty) (l : List (Den T t)) : TS T := { n := σ.n, t := σ.t, h := (k, .row t l) :: σ.h, e := dropCT σ.e }
def TS.setm {T : Nat → Type} (σ : TS T) (k : Nat) (t : Ty) (l : List (List UInt8 × Den T t)) : TS T := { n := σ.n, t := σ.t, h := (k, .smap t l) :: σ.h, e := dropCT σ.e }
theorem setm_to (σ : TS E.T) (k : Nat) (t : Ty) (l : List (List UInt8 × Den E.T t)) : (σ.setm k t l).to E.toEnc ρ = (σ.to E.toEnc ρ).setc (ρ k) [smap (l.map fun p => (p.1, one E.toEnc t p.2))] := congrArg (AS.mk _ _ _) (dropC_eTo σ.e).symm
theorem setr_to (σ : TS E.T) (k : Nat) (t : Ty) (l : List (Den E.T t)) : (σ.setr k t l).to E.toEnc ρ = (σ.to E.toEnc ρ).setc (ρ k) ((TB.row t l : TB E.T).to E.toEnc ρ) := congrArg (AS.mk _ _ _) (dropC_eTo σ.e).symm
theorem boxT_inj {σ : TS E.T} {d k : Nat} {cs : List (TA E.T)} (hi : Inj ρ σ.h) (hn : σ.noId d = true) (hk : FreshK k (σ.to E.toEnc ρ).h) : Inj (upd ρ d k) (σ.boxT d cs).h := by
  unfold TS.noId at hn
  simp only [Bool.and_eq_true] at hn
  have h2 := List.all_eq_true.1 hn.1.2
  have hne : ∀ p ∈ σ.h, upd ρ d k p.1 = ρ p.1 := fun p hp => by
    have := h2 p hp
    simp only [Bool.and_eq_true] at this
    exact upd_ne this.1
  have hd : upd ρ d k d = k := by unfold upd; rw [if_pos rfl]
  have hfr : ∀ p ∈ σ.h, ρ p.1 ≠ k := fun p hp => hk (ρ p.1, p.2.to E.toEnc ρ) (List.mem_map.2 ⟨p, hp, rfl⟩)
  intro p hp q hq e
  rcases List.mem_cons.1 hp with rfl | hp
  · rcases List.mem_cons.1 hq with rfl | hq
    · rfl
    · simp only [hd] at e; rw [hne q hq] at e; exact absurd e.symm (hfr q hq)
  · rcases List.mem_cons.1 hq with rfl | hq
    · simp only [hd] at e; rw [hne p hp] at e; exact absurd e (hfr p hp)
    · rw [hne p hp, hne q hq] at e; exact hi p hp q hq e
/-- The zero cells of a type, nil told as what it is. -/
def zeroC {T : Nat → Type} : List Ty → List Value → List (TA T)
  | .sl t :: ts, .slice none 0 0 :: vs => .own t [] :: zeroC ts vs
  | _ :: ts, v :: vs => atomT v :: zeroC ts vs
  | [], vs => vs.map atomT
  | _ :: _, [] => []
theorem zeroC_to : ∀ (ts : List Ty) (vs : List Value), LeL (vs.map AV.v) ((zeroC ts vs).map (TA.to E.toEnc ρ))
  | [], vs => by
    simp only [zeroC, List.map_map]
    induction vs with
    | nil => exact .nil
    | cons v vs ih => exact .cons (by show Le1 (AV.v v) ((atomT v).to E.toEnc ρ); rw [atomT_to]; exact .refl _) ih
  | t :: ts, [] => by cases t <;> exact .nil
  | t :: ts, v :: vs => by
    unfold zeroC
    split
    · rename_i h1 h2; cases h1; cases h2; exact .cons (.nil _ _) (zeroC_to _ _)
    · rename_i h1 h2; cases h1; cases h2; exact .cons (by rw [atomT_to]; exact .refl _) (zeroC_to _ _)
    · rename_i h2; cases h2
    · rename_i h2; cases h2
end
/-- nil, told as an empty list of its own. -/
def nilC {T : Nat → Type} : List Ty → List (TA T) → List (TA T)
  | .sl t :: ts, .raw (.slice none 0 0) :: vs => .own t [] :: nilC ts vs
  | _ :: ts, v :: vs => v :: nilC ts vs
  | [], vs => vs
  | _ :: _, [] => []
theorem nilC_to {E : Env} {ρ : Nat → Nat} : ∀ (ts : List Ty) (vs : List (TA E.T)), LeL (vs.map (TA.to E.toEnc ρ)) ((nilC ts vs).map (TA.to E.toEnc ρ))
  | [], vs => by unfold nilC; exact LeL.refl _
  | t :: ts, [] => by cases t <;> exact .nil
  | t :: ts, v :: vs => by
    unfold nilC
    split
    · rename_i h1 h2; cases h1; cases h2; exact .cons (.nil _ _) (nilC_to _ _)
    · rename_i h1 h2; cases h1; cases h2; exact .cons (.refl _) (nilC_to _ _)
    · rename_i h2; cases h2
    · rename_i h2; cases h2
/-! ### Which boxes are named -/
def TA.ids {T : Nat → Type} (p : Nat → Bool) : TA T → Bool
  | .box i _ => p i
  | .mpr i => p i
  | .fnb _ l => l.all p
  | .bsl i _ _ _ => p i
  | _ => true
def TC.ids {T : Nat → Type} (p : Nat → Bool) : TC T → Bool
  | .a x => x.ids p
  | .ag l => l.all (TA.ids p)
def TV.ids {T : Nat → Type} (p : Nat → Bool) : TV T → Bool
  | .a x => x.ids p
  | .ag l => l.all (TA.ids p)
  | .el l => l.all (TA.ids p)
  | .tu l => l.all (TC.ids p)
  | .fn _ l => l.all (TA.ids p)
  | .ifc _ x => x.ids p
def TB.ids {T : Nat → Type} (p : Nat → Bool) : TB T → Bool
  | .cs l => l.all (TA.ids p)
  | .smap _ _ => true
  | .row _ _ => true
def hIds {T : Nat → Type} (p : Nat → Bool) (h : List (Nat × TB T)) : Bool := h.all fun q => p q.1 && q.2.ids p
section
variable {E : Env} {ρ ρ' : Nat → Nat} {p : Nat → Bool}
theorem TA.ids_to (hp : ∀ i, p i = true → ρ' i = ρ i) {x : TA E.T} (h : x.ids p = true) : x.to E.toEnc ρ' = x.to E.toEnc ρ := by
  cases x with
  | box i o => simp only [TA.to, hp i h]
  | mpr i => simp only [TA.to, hp i h]
  | bsl i off n c => simp only [TA.to, hp i h]
  | fnb f l => simp only [TA.to]; rw [List.map_congr_left fun i hi => by rw [hp i (List.all_eq_true.1 h i hi)]]
  | _ => rfl
theorem mapTA_ids (hp : ∀ i, p i = true → ρ' i = ρ i) {l : List (TA E.T)} (h : l.all (TA.ids p) = true) : l.map (TA.to E.toEnc ρ') = l.map (TA.to E.toEnc ρ) :=
  List.map_congr_left fun x hx => TA.ids_to hp (List.all_eq_true.1 h x hx)
theorem TC.ids_to (hp : ∀ i, p i = true → ρ' i = ρ i) {x : TC E.T} (h : x.ids p = true) : x.to E.toEnc ρ' = x.to E.toEnc ρ := by
  cases x with
  | a x => exact TA.ids_to hp h
  | ag l => simp only [TC.to]; rw [mapTA_ids hp h]
theorem TV.ids_to (hp : ∀ i, p i = true → ρ' i = ρ i) {x : TV E.T} (h : x.ids p = true) : x.to E.toEnc ρ' = x.to E.toEnc ρ := by
  cases x with
  | a x => exact TA.ids_to hp h
  | ag l => simp only [TV.to]; rw [mapTA_ids hp h]
  | el l => simp only [TV.to]; rw [mapTA_ids hp h]
  | tu l => simp only [TV.to]; rw [List.map_congr_left fun x hx => TC.ids_to hp (List.all_eq_true.1 h x hx)]
  | fn f l => simp only [TV.to]; rw [mapTA_ids hp h]
  | ifc t x => simp only [TV.to]; rw [TC.ids_to hp h]
theorem TB.ids_to (hp : ∀ i, p i = true → ρ' i = ρ i) {x : TB E.T} (h : x.ids p = true) : x.to E.toEnc ρ' = x.to E.toEnc ρ := by
  cases x with
  | cs l => exact mapTA_ids hp h
  | smap t l => rfl
  | row t l => rfl
theorem hIds_to (hp : ∀ i, p i = true → ρ' i = ρ i) {h : List (Nat × TB E.T)} (hh : hIds p h = true) : hTo E.toEnc ρ' h = hTo E.toEnc ρ h :=
  List.map_congr_left fun q hq => by
    have := List.all_eq_true.1 hh q hq
    simp only [Bool.and_eq_true] at this
    rw [TB.ids_to hp this.2, hp _ this.1]
end
/-- Boxes that were handed in have great names; these stay as they are. -/
def big (i : Nat) : Bool := Nat.ble 100000 i
def Agr (ρ ρ' : Nat → Nat) : Prop := ∀ i, big i = true → ρ' i = ρ i
theorem Agr.refl (ρ : Nat → Nat) : Agr ρ ρ := fun _ _ => rfl
theorem Agr.trans {ρ ρ' ρ'' : Nat → Nat} (h : Agr ρ ρ') (h' : Agr ρ' ρ'') : Agr ρ ρ'' := fun i hi => (h' i hi).trans (h i hi)
theorem Agr.upd {ρ : Nat → Nat} {d k : Nat} (h : Nat.ble d 99999 = true) : Agr ρ (upd ρ d k) := fun i hi => by
  have h1 := Nat.le_of_ble_eq_true h
  have h2 := Nat.le_of_ble_eq_true (show Nat.ble 100000 i = true from hi)
  unfold Go.Proofs.Ytgmlkhfjhogdbaa.upd
  rw [if_neg (by omega)]
/-! ### Boxes, by their names -/
theorem look_hTo_inv {E : Env} {ρ : Nat → Nat} : ∀ {L : List (Nat × TB E.T)} {k : Nat} {cs : List AV}, look (hTo E.toEnc ρ L) k = some cs → ∃ i b, ρ i = k ∧ look L i = some b ∧ b.to E.toEnc ρ = cs
  | [], _, _, h => by cases h
  | (j, b) :: r, k, cs, h => by
    simp only [hTo, List.map_cons, look_cons] at h
    split at h
    · rename_i e
      cases h
      exact ⟨j, b, e.symm, by rw [look_cons, if_pos rfl], rfl⟩
    · rename_i e
      obtain ⟨i, b', h1, h2, h3⟩ := look_hTo_inv (L := r) h
      exact ⟨i, b', h1, by rw [look_cons, if_neg (fun e2 => e (by rw [← h1, e2]))]; exact h2, h3⟩
def memN : List Nat → Nat → Bool
  | [], _ => false
  | k :: r, i => match Nat.beq i k with | true => true | false => memN r i
theorem memN_mem : ∀ {l : List Nat} {i : Nat}, memN l i = true ↔ i ∈ l
  | [], i => ⟨fun h => (by cases h), fun h => (by cases h)⟩
  | k :: r, i => by
    simp only [memN, List.mem_cons]
    split
    · rename_i e; exact ⟨fun _ => .inl (Nat.eq_of_beq_eq_true e), fun _ => rfl⟩
    · rename_i e
      rw [memN_mem (l := r)]
      exact ⟨.inr, fun h => h.resolve_left fun e2 => by subst e2; rw [Nat.beq_refl] at e; cases e⟩
def dropHH {T : Nat → Type} (ids : List Nat) : List (Nat × TB T) → List (Nat × TB T)
  | [] => []
  | (k, b) :: r => match memN ids k with
    | true => dropHH ids r
    | false => (k, b) :: dropHH ids r
theorem look_keepIn {T : Nat → Type} {h : List (Nat × TB T)} : ∀ {ids : List Nat} {i : Nat} {b : TB T}, look (keepHH h ids) i = some b → look h i = some b ∧ i ∈ ids
  | [], _, _, e => by cases e
  | k :: ks, i, b, e => by
    simp only [keepHH] at e
    split at e
    · rename_i b' hb
      rw [look_cons] at e
      split at e
      · rename_i e2; subst e2; cases e; exact ⟨hb, List.mem_cons_self⟩
      · exact ⟨(look_keepIn e).1, List.mem_cons_of_mem _ (look_keepIn e).2⟩
    · exact ⟨(look_keepIn e).1, List.mem_cons_of_mem _ (look_keepIn e).2⟩
theorem look_dropHH {T : Nat → Type} {ids : List Nat} : ∀ {h : List (Nat × TB T)} {i : Nat} {b : TB T}, look (dropHH ids h) i = some b → look h i = some b ∧ i ∉ ids
  | [], _, _, e => by cases e
  | (k, b') :: r, i, b, e => by
    simp only [dropHH] at e
    split at e
    · rename_i hk
      obtain ⟨h1, h2⟩ := look_dropHH (h := r) e
      refine ⟨?_, h2⟩
      rw [look_cons, if_neg]
      · exact h1
      · rintro rfl; exact h2 (memN_mem.1 hk)
    · rename_i hk
      rw [look_cons] at e ⊢
      split at e
      · rename_i e2
        subst e2
        exact ⟨by rw [if_pos rfl]; exact e, fun hm => by rw [memN_mem.2 hm] at hk; cases hk⟩
      · rename_i e2
        rw [if_neg e2]
        exact look_dropHH e
theorem dropHH_ids {T : Nat → Type} {ids : List Nat} : ∀ {h : List (Nat × TB T)}, ∀ p ∈ dropHH ids h, p ∈ h
  | [], p, hp => by cases hp
  | (k, b) :: r, p, hp => by
    simp only [dropHH] at hp
    split at hp
    · exact List.mem_cons_of_mem _ (dropHH_ids p hp)
    · rcases List.mem_cons.1 hp with rfl | hp
      · exact List.mem_cons_self
      · exact List.mem_cons_of_mem _ (dropHH_ids p hp)
end Go.Proofs.Ytgmlkhfjhogdbaa
