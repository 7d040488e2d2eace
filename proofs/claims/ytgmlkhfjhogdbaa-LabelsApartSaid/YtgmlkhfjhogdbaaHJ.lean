/- Typed abstract values: callees that are handed boxes, or that may panic. -/
import Derived.Test.YtgmlkhfjhogdbaaHI
namespace Go.Proofs.Ytgmlkhfjhogdbaa
open Go.RowKit P
set_option linter.unusedSimpArgs false
set_option linter.unusedVariables false

/-- Names of boxes, as the callee calls them. -/
def nthB : List Nat → Nat → Nat → Nat
  | [], _, _ => 0
  | i :: r, k, j => match Nat.beq j k with
    | true => i
    | false => nthB r (k + 1) j
theorem nthB_get : ∀ {ids : List Nat} {k j : Nat}, k ≤ j → (h : j - k < ids.length) → nthB ids k j = ids[j - k]
  | [], _, _, _, h => by simp at h
  | i :: r, k, j, hk, h => by
    simp only [nthB]
    split
    · rename_i e
      have := Nat.eq_of_beq_eq_true e
      subst this
      simp
    · rename_i e
      have hne : j ≠ k := fun e2 => by subst e2; rw [Nat.beq_refl] at e; cases e
      have h1 : k + 1 ≤ j := by omega
      simp only [List.length_cons] at h
      rw [nthB_get h1 (by omega)]
      have e2 : j - k = (j - (k + 1)) + 1 := by omega
      simp only [e2, List.getElem_cons_succ]
/-- (no subtraction here: a kernel that meets it at a name that it does not know counts to 100000) -/
def rhoS (ρ : Nat → Nat) (ids : List Nat) : Nat → Nat := fun j => ρ (nthB ids 100000 j)
/-- The arguments are read as is told. -/
def AL {E : Env} (us : List (TV E.T)) (ρ ρ' : Nat → Nat) : Nat → List (TV E.T) → Prop
  | k, [] => us.length = k
  | k, u' :: r => (∀ u, us[k]? = some u → LeV (u.to E.toEnc ρ) (u'.to E.toEnc ρ')) ∧ AL us ρ ρ' (k + 1) r
theorem AL.get {E : Env} {us : List (TV E.T)} {ρ ρ' : Nat → Nat} : ∀ {us' : List (TV E.T)} {k : Nat}, AL us ρ ρ' k us' → us.length = k + us'.length ∧ ∀ (i : Nat) u u', us[k + i]? = some u → us'[i]? = some u' → LeV (u.to E.toEnc ρ) (u'.to E.toEnc ρ')
  | [], k, h => ⟨h, fun i u u' _ h' => by simp at h'⟩
  | v :: r, k, h => by
    obtain ⟨h1, h2⟩ := AL.get (us' := r) h.2
    refine ⟨by simp only [List.length_cons]; omega, fun i u u' hu hu' => ?_⟩
    cases i with
    | zero => simp at hu'; subst hu'; exact h.1 u hu
    | succ i => exact h2 i u u' (by rw [show k + 1 + i = k + (i + 1) by omega]; exact hu) (by simpa using hu')
/-- The boxes are read as is told. -/
def BL {E : Env} (hs : List (Nat × TB E.T)) (ρ ρ' : Nat → Nat) : List Nat → List (Nat × TB E.T) → Prop
  | [], [] => True
  | i :: is, q :: r => ρ' q.1 = ρ i ∧ (∃ b, look hs i = some b ∧ LeL (b.to E.toEnc ρ) (q.2.to E.toEnc ρ')) ∧ BL hs ρ ρ' is r
  | _, _ => False
theorem BL.look {E : Env} {hs : List (Nat × TB E.T)} {ρ ρ' : Nat → Nat} : ∀ {ids : List Nat} {h0 : List (Nat × TB E.T)}, BL hs ρ ρ' ids h0 → ∀ k cs', look (hTo E.toEnc ρ' h0) k = some cs' → ∃ cs, Go.Proofs.Ytgmlkhfjhogdbaa.look (hTo E.toEnc ρ (keepHH hs ids)) k = some cs ∧ LeL cs cs'
  | [], [], _, k, cs', h => by cases h
  | i :: is, q :: r, h, k, cs', hk => by
    obtain ⟨h1, ⟨b, h2, h3⟩, h4⟩ := h
    simp only [hTo, List.map_cons, look_cons] at hk
    simp only [keepHH, h2, hTo, List.map_cons, look_cons]
    rw [h1] at hk
    split at hk
    · rename_i e
      rw [if_pos e]
      cases hk
      exact ⟨_, rfl, h3⟩
    · rename_i e
      rw [if_neg e]
      exact BL.look h4 k cs' hk
  | [], _ :: _, h, _, _, _ => h.elim
  | _ :: _, [], h, _, _, _ => h.elim
theorem xcall {P : Program} {E : Env} {f : FuncId} {us us' : List (TV E.T)} {hs h0 : List (Nat × TB E.T)} {ids : List Nat} {ρ ρ' : Nat → Nat} {post post' : AOut → List (Nat × List AV) → Prop} (ha : AL us ρ ρ' 0 us') (hb : BL hs ρ ρ' ids h0) (hc : ACalls P f (us'.map (TV.to E.toEnc ρ')) (hTo E.toEnc ρ' h0) post) (hp : ∀ out H, post out H → post' out H) : ACalls P f (us.map (TV.to E.toEnc ρ)) (hTo E.toEnc ρ (keepHH hs ids)) post' := by
  have h1 : ACalls P f (us.map (TV.to E.toEnc ρ)) (hTo E.toEnc ρ (keepHH hs ids)) post := by
    obtain ⟨hl, hr⟩ := ha.get
    refine ⟨hc.1, fun F X vs hs' => hc.2 F X vs ?_⟩
    refine hs'.le3 (by simp [hl]) (fun t u' hu => ?_) (fun k cs' hk => hb.look k cs' hk) (fun p hp => hp)
    obtain ⟨_, h2⟩ := look_slotsOf (us'.map (TV.to E.toEnc ρ')) 0 t u' hu
    simp only [Nat.sub_zero, List.getElem?_map, Option.map_eq_some_iff] at h2
    obtain ⟨v', hv', rfl⟩ := h2
    have hlt : t < us.length := by rw [hl]; have := (List.getElem?_eq_some_iff.1 hv').1; omega
    have e : us[0 + t]? = some us[t] := by simp [hlt]
    refine ⟨us[t].to E.toEnc ρ, ?_, hr t _ _ e hv'⟩
    have key : ∀ (us : List AV) (k t : Nat) (u : AV), us[t]? = some u → look (slotsOf k us) (k + t) = some u := by
      intro us
      induction us with
      | nil => intro k t u h; simp at h
      | cons a us ih =>
        intro k t u h
        simp only [slotsOf, look_cons]
        cases t with
        | zero => simp at h; subst h; simp
        | succ t =>
          rw [if_neg (by omega), show k + (t + 1) = (k + 1) + t by omega]
          exact ih (k + 1) t u (by simpa using h)
    simpa using key (us.map (TV.to E.toEnc ρ)) 0 t (us[t].to E.toEnc ρ) (by simp [hlt])
  exact h1.mono hp
theorem nodup_good {T : Nat → Type} {hs : List (Nat × TB T)} : ∀ {ids : List Nat}, goodIds hs ids = true → ids.Nodup
  | [], _ => List.nodup_nil
  | i :: r, h => by
    simp only [goodIds] at h
    split at h
    · rename_i hm
      exact List.nodup_cons.2 ⟨fun hi => (by rw [memN_mem.2 hi] at hm; cases hm), nodup_good h⟩
    · cases h
theorem rhoS_inj {T : Nat → Type} {ρ : Nat → Nat} {hs : List (Nat × TB T)} {ids : List Nat} (hi : Inj ρ hs) (hg : goodIds hs ids = true) (h0 : List (Nat × TB T)) (hk : h0.all (fun q => Nat.ble 100000 q.1 && Nat.blt (q.1 - 100000) ids.length) = true) : Inj (rhoS ρ ids) h0 := by
  intro p hp q hq e
  have b1 := List.all_eq_true.1 hk p hp
  have b2 := List.all_eq_true.1 hk q hq
  simp only [Bool.and_eq_true] at b1 b2
  have l1 := Nat.le_of_ble_eq_true b1.1
  have l2 := Nat.le_of_ble_eq_true b2.1
  have m1 : p.1 - 100000 < ids.length := Nat.le_of_ble_eq_true b1.2
  have m2 : q.1 - 100000 < ids.length := Nat.le_of_ble_eq_true b2.2
  simp only [rhoS, nthB_get l1 m1, nthB_get l2 m2] at e
  obtain ⟨c1, hc1⟩ := goodIds_get hg _ (List.getElem_mem m1)
  obtain ⟨c2, hc2⟩ := goodIds_get hg _ (List.getElem_mem m2)
  have e2 := hi _ (look_mem hc1) _ (look_mem hc2) e
  simp only at e2
  have hnd := List.pairwise_iff_getElem.1 (nodup_good hg)
  rcases Nat.lt_trichotomy (p.1 - 100000) (q.1 - 100000) with hlt | heq | hgt
  · exact absurd e2 (hnd _ _ m1 m2 hlt)
  · omega
  · exact absurd e2.symm (hnd _ _ m2 m1 hgt)
/-- Steps of what is told of a callee. -/
def bnX {T : Nat → Type} {α : Type} (o : Option α) (k : α → XR T) : XR T := match o with
  | some x => k x
  | none => .bad
theorem bnX_ok {P : Program} {E : Env} {f : FuncId} {us : List (TV E.T)} {hs : List (Nat × TB E.T)} {α : Type} {o : Option α} {k : α → XR E.T} (h : ∀ x, o = some x → (k x).ok P f us hs) : (bnX o k).ok P f us hs := by
  cases o with
  | none => trivial
  | some x => exact h x rfl
def gdX {T : Nat → Type} (b : Bool) (x : XR T) : XR T := match b with
  | true => x
  | false => .bad
theorem gdX_ok {P : Program} {E : Env} {f : FuncId} {us : List (TV E.T)} {hs : List (Nat × TB E.T)} {b : Bool} {x : XR E.T} (h : b = true → x.ok P f us hs) : (gdX b x).ok P f us hs := by
  cases b with
  | false => trivial
  | true => exact h rfl
section
variable {E : Env} {us : List (TV E.T)} {hs : List (Nat × TB E.T)} {l : List (TA E.T)} {k i j : Nat} {t : Ty} {ρ ρ' : Nat → Nat}
def lenX {α : Type} (us : List α) (n : Nat) : Bool := Nat.beq us.length n
theorem lenX_ok {α : Type} {us : List α} {n : Nat} (h : lenX us n = true) : us.length = n := Nat.eq_of_beq_eq_true h
def aD {T : Nat → Type} (t : Ty) (us : List (TV T)) (k : Nat) : Option (Den T t) := match us[k]? with
  | some u => argD t u
  | none => none
def aS (E : Env) (i : Nat) (us : List (TV E.T)) (k : Nat) : Option (E.T i) := match us[k]? with
  | some u => argS E i u
  | none => none
def aB {T : Nat → Type} (us : List (TV T)) (k : Nat) : Option Nat := match us[k]? with
  | some (.a (.box i 0)) => some i
  | _ => none
def aF {T : Nat → Type} (f : FuncId) (us : List (TV T)) (k : Nat) : Option (List (TA T)) := match us[k]? with
  | some (.fn g l) => match Nat.beq g f with
    | true => some l
    | false => none
  | some (.a (.raw (.func (.func g) ⟨[]⟩ ⟨[]⟩))) => match Nat.beq g f with
    | true => some []
    | false => none
  | _ => none
theorem rho_d (x : Den E.T t) : (TA.d t x : TA E.T).to E.toEnc ρ = (TA.d t x : TA E.T).to E.toEnc ρ' := rfl
theorem aD_le {x : Den E.T t} (h : aD t us k = some x) : ∀ u, us[k]? = some u → LeV (u.to E.toEnc ρ) ((TV.a (.d t x) : TV E.T).to E.toEnc ρ') := fun u hu => by
  unfold aD at h
  rw [hu] at h
  exact argD_le h ρ
theorem aS_le {n : Nat} {x : E.T n} (h : aS E n us k = some x) : ∀ u, us[k]? = some u → LeV (u.to E.toEnc ρ) ((TV.ag (E.unp n x) : TV E.T).to E.toEnc ρ') := fun u hu => by
  unfold aS at h
  rw [hu] at h
  have := argS_le h ρ
  have e : (TV.ag (E.unp n x) : TV E.T).to E.toEnc ρ' = (TV.ag (E.unp n x) : TV E.T).to E.toEnc ρ := by
    show AV.ag ((E.unp n x).map _) = AV.ag ((E.unp n x).map _)
    rw [E.unp_to, E.unp_to]
  rw [e]
  exact this
theorem aB_le (h : aB us k = some i) (e : ρ' j = ρ i) : ∀ u, us[k]? = some u → LeV (u.to E.toEnc ρ) ((TV.a (.box j 0) : TV E.T).to E.toEnc ρ') := fun u hu => by
  unfold aB at h
  rw [hu] at h
  split at h
  · rename_i i' hu'
    cases hu'; cases h
    left
    show Le1 (.v (.pointer (some ⟨ρ i, 0, none⟩))) (.v (.pointer (some ⟨ρ' j, 0, none⟩)))
    rw [e]; exact .refl _
  · cases h
theorem aF_le {f : FuncId} {is js : List Nat} (h : aF f us k = some l) (hc : cbs l = some is) (e : is.map ρ = js.map ρ') : ∀ u, us[k]? = some u → LeV (u.to E.toEnc ρ) ((TV.fn f (js.map fun i => .box i 0) : TV E.T).to E.toEnc ρ') := fun u hu => by
  unfold aF at h
  rw [hu] at h
  split at h
  · rename_i g l' hu'
    split at h
    · rename_i hg
      cases hu'; cases h
      have := Nat.eq_of_beq_eq_true hg
      subst this
      left
      rw [cbs_to hc]
      simp only [TV.to, List.map_map]
      have e2 : is.map ((TA.to E.toEnc ρ) ∘ fun i => (TA.box i 0 : TA E.T)) = js.map ((TA.to E.toEnc ρ') ∘ fun i => (TA.box i 0 : TA E.T)) := by
        have : ∀ (is : List Nat) (ρ : Nat → Nat), is.map ((TA.to E.toEnc ρ) ∘ fun i => (TA.box i 0 : TA E.T)) = (is.map ρ).map fun k => AV.v (.pointer (some ⟨k, 0, none⟩)) := fun is ρ => by
          rw [List.map_map]; rfl
        rw [this, this, e]
      rw [e2]
      exact .refl _
    · cases h
  · rename_i g hu'
    split at h
    · rename_i hg
      cases hu'; cases h
      have := Nat.eq_of_beq_eq_true hg
      subst this
      cases hc
      have hj : js = [] := by
        cases js with
        | nil => rfl
        | cons a b => cases e
      subst hj
      right
      refine ⟨fun X v hr => ?_, rfl⟩
      have := rel_v hr
      subst this
      exact .fn g [] #[] rfl (fun i u x hu hx => by simp at hu)
    · cases h
  · cases h
/-- A box with a struct. -/
def bS (E : Env) (n : Nat) (hs : List (Nat × TB E.T)) (i : Nat) : Option (E.T n) := match look hs i with
  | some (.cs l) => match E.pk n l with
    | some (z, []) => some z
    | _ => none
  | _ => none
theorem bS_le {n : Nat} {z : E.T n} (h : bS E n hs i = some z) : ∃ b, look hs i = some b ∧ LeL (b.to E.toEnc ρ) ((TB.cs (E.unp n z) : TB E.T).to E.toEnc ρ') := by
  unfold bS at h
  split at h
  · rename_i l hl
    split at h
    · rename_i z' hz
      cases h
      refine ⟨_, hl, ?_⟩
      have hp := E.pk_to n _ z [] ρ hz
      simp only [List.map_nil, List.append_nil] at hp
      show LeL (l.map _) ((E.unp n z).map _)
      rw [E.unp_to]
      exact (map_rd_le (ρ := ρ) l).trans hp
    · cases h
  · cases h
/-- A box with cells. -/
def bC {T : Nat → Type} (hs : List (Nat × TB T)) (i : Nat) : Option (List (TA T)) := match look hs i with
  | some (.cs l) => some l
  | _ => none
def cD {T : Nat → Type} (t : Ty) (l : List (TA T)) (k : Nat) : Option (Den T t) := match l[k]? with
  | some a => asD t a.rd
  | none => none
def cO {T : Nat → Type} (t : Ty) (l : List (TA T)) (k : Nat) : Option (List (Den T t)) := match l[k]? with
  | some (.own t' m) => castD (.sl t') (.sl t) m
  | _ => none
def cB {T : Nat → Type} (l : List (TA T)) (k : Nat) : Option Nat := match l[k]? with
  | some (.box i 0) => some i
  | _ => none
/-- The cells are read as is told. -/
def CL {E : Env} (l : List (TA E.T)) (ρ ρ' : Nat → Nat) : Nat → List (TA E.T) → Prop
  | k, [] => l.length = k
  | k, u' :: r => (∀ u, l[k]? = some u → Le1 (u.to E.toEnc ρ) (u'.to E.toEnc ρ')) ∧ CL l ρ ρ' (k + 1) r
theorem CL.le : ∀ {l' : List (TA E.T)} {l : List (TA E.T)} {k : Nat}, CL l ρ ρ' k l' → LeL ((l.drop k).map (TA.to E.toEnc ρ)) (l'.map (TA.to E.toEnc ρ'))
  | [], l, k, h => by
    have h' : l.length = k := h
    rw [List.drop_eq_nil_of_le (by omega)]; exact .nil
  | u' :: r, l, k, h => by
    have hlen : ∀ (r : List (TA E.T)) (k : Nat), CL l ρ ρ' k r → l.length = k + r.length := by
      intro r
      induction r with
      | nil => intro k h; exact h
      | cons a r ih => intro k h; have := ih _ h.2; simp only [List.length_cons]; omega
    have hk : k < l.length := by have := hlen _ _ h; simp only [List.length_cons] at this; omega
    rw [List.drop_eq_getElem_cons hk]
    exact .cons (h.1 _ (List.getElem?_eq_getElem hk)) (CL.le h.2)
theorem bC_le {l' : List (TA E.T)} (h : bC hs i = some l) (hc : CL l ρ ρ' 0 l') : ∃ b, look hs i = some b ∧ LeL (b.to E.toEnc ρ) ((TB.cs l' : TB E.T).to E.toEnc ρ') := by
  unfold bC at h
  split at h
  · rename_i l0 hl
    cases h
    refine ⟨_, hl, ?_⟩
    show LeL (l.map _) (l'.map _)
    simpa using hc.le
  · cases h
theorem cD_le {x : Den E.T t} (h : cD t l k = some x) : ∀ u, l[k]? = some u → Le1 (u.to E.toEnc ρ) ((TA.d t x : TA E.T).to E.toEnc ρ') := fun u hu => by
  unfold cD at h
  rw [hu] at h
  have := asD_to E.toEnc ρ h
  rw [TA.rd_to, TA.rd_to] at this
  have e : ((u.to E.toEnc ρ).rd).rd = (u.to E.toEnc ρ).rd := by rw [← TA.rd_to, ← TA.rd_to]; cases u <;> rfl
  rw [e] at this
  exact (le1_rd _).trans this
theorem cO_le {x : List (Den E.T t)} (h : cO t l k = some x) : ∀ u, l[k]? = some u → Le1 (u.to E.toEnc ρ) ((TA.own t x : TA E.T).to E.toEnc ρ') := fun u hu => by
  unfold cO at h
  rw [hu] at h
  cases u with
  | own t' m =>
    obtain ⟨e, rfl⟩ := castD_some (show castD (.sl t') (.sl t) m = some x from h)
    cases e
    exact .refl _
  | _ => cases h
theorem cB_le (h : cB l k = some i) (e : ρ' j = ρ i) : ∀ u, l[k]? = some u → Le1 (u.to E.toEnc ρ) ((TA.box j 0 : TA E.T).to E.toEnc ρ') := fun u hu => by
  unfold cB at h
  rw [hu] at h
  split at h
  · rename_i i' hu'
    cases hu'; cases h
    show Le1 (.v (.pointer (some ⟨ρ i, 0, none⟩))) (.v (.pointer (some ⟨ρ' j, 0, none⟩)))
    rw [e]; exact .refl _
  · cases h
/-- A closure that lies in a cell. -/
def cF {T : Nat → Type} (f : FuncId) (l : List (TA T)) (k : Nat) : Option (List Nat) := match l[k]? with
  | some (.fnb g is) => match Nat.beq g f with
    | true => some is
    | false => none
  | _ => none
theorem cF_le {f : FuncId} {is js : List Nat} (h : cF f l k = some is) (e : is.map ρ = js.map ρ') : ∀ u, l[k]? = some u → Le1 (u.to E.toEnc ρ) ((TA.fnb f js : TA E.T).to E.toEnc ρ') := fun u hu => by
  unfold cF at h
  rw [hu] at h
  split at h
  · rename_i g is' hu'
    split at h
    · rename_i hg
      cases hu'; cases h
      have := Nat.eq_of_beq_eq_true hg
      subst this
      have q : ∀ (is : List Nat) (ρ : Nat → Nat), (is.map fun i => AV.v (.pointer (some ⟨ρ i, 0, none⟩))) = (is.map ρ).map fun k => AV.v (.pointer (some ⟨k, 0, none⟩)) := fun is ρ => by
        rw [List.map_map]; rfl
      simp only [TA.to]
      rw [q is ρ, e, ← q js ρ']
      exact .refl _
    · cases h
  · cases h
theorem KPost.pan {v : Value} {out : AOut} {H : List (Nat × List AV)} (h : KPost E ρ (fun r => r = .pan v) out H) : out = .pan v := by
  obtain ⟨r, ρ', rfl, ha, h1, h2⟩ := h
  exact h1
/-- A box of elements that are written in place, and slices over such. -/
def bR {T : Nat → Type} (t : Ty) (hs : List (Nat × TB T)) (i : Nat) : Option (List (Den T t)) := match look hs i with
  | some (.row t' l) => castD (.sl t') (.sl t) l
  | _ => none
theorem bR_le {x : List (Den E.T t)} (h : bR t hs i = some x) : ∃ b, look hs i = some b ∧ LeL (b.to E.toEnc ρ) ((TB.row t x : TB E.T).to E.toEnc ρ') := by
  unfold bR at h
  cases hl : look hs i with
  | none => rw [hl] at h; cases h
  | some b =>
    rw [hl] at h
    cases b with
    | row t' l =>
      obtain ⟨e, rfl⟩ := castD_some (show castD (.sl t') (.sl t) l = some x from h)
      cases e
      exact ⟨_, rfl, LeL.refl _⟩
    | _ => cases h
def isW {T : Nat → Type} (off n c : Nat) : TA T → Option Nat
  | .bsl i o m q => match Nat.beq o off && Nat.beq m n && Nat.beq q c with
    | true => some i
    | false => none
  | _ => none
theorem isW_some {T : Nat → Type} {off n c i : Nat} {a : TA T} (h : isW off n c a = some i) : a = .bsl i off n c := by
  unfold isW at h
  split at h
  · split at h
    · rename_i hb
      simp only [Bool.and_eq_true] at hb
      cases h
      rw [Nat.eq_of_beq_eq_true hb.1.1, Nat.eq_of_beq_eq_true hb.1.2, Nat.eq_of_beq_eq_true hb.2]
    · cases h
  · cases h
def cW {T : Nat → Type} (off n c : Nat) (l : List (TA T)) (k : Nat) : Option Nat := match l[k]? with
  | some a => isW off n c a
  | none => none
theorem cW_le {off n c : Nat} (h : cW off n c l k = some i) (e : ρ' j = ρ i) : ∀ u, l[k]? = some u → Le1 (u.to E.toEnc ρ) ((TA.bsl j off n c : TA E.T).to E.toEnc ρ') := fun u hu => by
  unfold cW at h
  rw [hu] at h
  rw [isW_some h]
  show Le1 (.v (.slice (some ⟨ρ i, off, none⟩) n c)) (.v (.slice (some ⟨ρ' j, off, none⟩) n c))
  rw [e]; exact .refl _
def aW {T : Nat → Type} (off n c : Nat) (us : List (TV T)) (k : Nat) : Option Nat := match us[k]? with
  | some (.a a) => isW off n c a
  | _ => none
theorem aW_le {off n c : Nat} (h : aW off n c us k = some i) (e : ρ' j = ρ i) : ∀ u, us[k]? = some u → LeV (u.to E.toEnc ρ) ((TV.a (.bsl j off n c) : TV E.T).to E.toEnc ρ') := fun u hu => by
  unfold aW at h
  rw [hu] at h
  split at h
  · rename_i a hu'
    cases hu'
    rw [isW_some h]
    left
    show Le1 (.v (.slice (some ⟨ρ i, off, none⟩) n c)) (.v (.slice (some ⟨ρ' j, off, none⟩) n c))
    rw [e]; exact .refl _
  · cases h
/-- A callee without boxes, called by its value. -/
def xOf {T : Nat → Type} (h : List (TV T) → PV T) : List (TV T) → List (Nat × TB T) → XR T := fun us hs => match h us with
  | .one u => .ret (some ()) [] (fun _ => u) fun _ => []
  | .opt o u => .ret o [] u fun _ => []
  | .bad => .bad
end
theorem xOf_ok {P : Program} {E : Env} {f : FuncId} {h : List (TV E.T) → PV E.T} (hf : ∀ us, (h us).ok fun u => ∀ ρ, ACalls P f (us.map (TV.to E.toEnc ρ)) [] (fun out H => out = .ret (u.to E.toEnc ρ) ∧ H = [])) : XOk P E f (xOf h) := fun us hs => by
  have hu := hf us
  unfold xOf
  cases hh : h us with
  | one u => rw [hh] at hu; exact fun z hz => ⟨rfl, fun ρ hi => hu ρ⟩
  | opt o u => rw [hh] at hu; exact fun z hz => ⟨rfl, fun ρ hi => hu z hz ρ⟩
  | bad => trivial
theorem lis0 {l : List Nat} (h : l.length = 0) : l = [] := List.length_eq_zero_iff.1 h
theorem lis1 {l : List Nat} {a : Nat} (h : l.length = 1) (ha : l[0]? = some a) : l = [a] := by
  match l, h with
  | [x], _ => simp at ha; subst ha; rfl
theorem lis2 {l : List Nat} {a b : Nat} (h : l.length = 2) (ha : l[0]? = some a) (hb : l[1]? = some b) : l = [a, b] := by
  match l, h with
  | [x, y], _ => simp at ha hb; subst ha hb; rfl
theorem lis3 {l : List Nat} {a b c : Nat} (h : l.length = 3) (ha : l[0]? = some a) (hb : l[1]? = some b) (hc : l[2]? = some c) : l = [a, b, c] := by
  match l, h with
  | [x, y, z], _ => simp at ha hb hc; subst ha hb hc; rfl
theorem lis4 {l : List Nat} {a b c d : Nat} (h : l.length = 4) (ha : l[0]? = some a) (hb : l[1]? = some b) (hc : l[2]? = some c) (hd : l[3]? = some d) : l = [a, b, c, d] := by
  match l, h with
  | [x, y, z, w], _ => simp at ha hb hc hd; subst ha hb hc hd; rfl
end Go.Proofs.Ytgmlkhfjhogdbaa
