/- Typed abstract values, and states of them: what they mean as abstract values. -/
import Derived.Test.YtgmlkhfjhogdbaaRU
import Derived.Test.YtgmlkhfjhogdbaaGD
namespace Go.Proofs.Ytgmlkhfjhogdbaa
open Go.RowKit P
set_option linter.unusedSimpArgs false
set_option linter.unusedVariables false

/-- Types of data. -/
inductive Ty where
  | int (k : IntKind)
  | byte
  | bool
  | str
  | sl (t : Ty)
  | nam (i : Nat)
  | ptr (t : Ty)
  deriving DecidableEq
def Den (T : Nat → Type) : Ty → Type
  | .int _ => Int
  | .byte => UInt8
  | .bool => Bool
  | .str => List UInt8
  | .sl t => List (Den T t)
  | .nam i => T i
  | .ptr t => Option (Den T t)
/-- The named structs, and the cells that they are. -/
structure Enc where
  T : Nat → Type
  enc : ∀ i, T i → List AV
  sz : Nat → Nat
  len : ∀ i z, (enc i z).length = sz i
  one : ∀ i z, ∀ u ∈ enc i z, u.one = true ∧ u.rd = u
def csz (E : Enc) : Ty → Nat
  | .nam i => E.sz i
  | _ => 1
def cells (E : Enc) : (t : Ty) → Den E.T t → List AV
  | .int k, x => [.v (.int k x)]
  | .byte, b => [.v (.int .u8 (UInt8.toNat b))]
  | .bool, b => [.v (.bool b)]
  | .str, s => [.v (.string (mkB s))]
  | .sl t, l => [.sl false (csz E t) (List.map (cells E t) l)]
  | .nam i, z => E.enc i z
  | .ptr _, none => [.v (.pointer none)]
  | .ptr t, some y => [.el (cells E t y)]
def one (E : Enc) (t : Ty) (x : Den E.T t) : AV :=
  match t, x with
  | .nam i, z => .ag (E.enc i z)
  | t, x => (cells E t x).headD (.v undef)
theorem cells_len (E : Enc) (t : Ty) (x : Den E.T t) : (cells E t x).length = csz E t := by
  cases t with
  | nam i => exact E.len i x
  | ptr t => cases x <;> rfl
  | _ => rfl
theorem cellsT_one (E : Enc) (t : Ty) (x : Den E.T t) : ∀ u ∈ cells E t x, u.one = true ∧ u.rd = u := by
  cases t with
  | nam i => exact E.one i x
  | ptr t => cases x <;> (intro u hu; simp only [cells, List.mem_singleton] at hu; subst hu; exact ⟨rfl, rfl⟩)
  | _ => intro u hu; simp only [cells, List.mem_singleton] at hu; subst hu; exact ⟨rfl, rfl⟩
/-- Data of one cell. -/
def Ty.lone : Ty → Bool
  | .nam _ => false
  | _ => true
theorem cells_lone (E : Enc) {t : Ty} (h : t.lone = true) (x : Den E.T t) : cells E t x = [one E t x] := by
  cases t with
  | nam i => cases h
  | ptr t => cases x <;> rfl
  | _ => rfl
theorem one_rd (E : Enc) (t : Ty) (x : Den E.T t) : (one E t x).rd = one E t x := by
  cases t with
  | ptr t => cases x <;> rfl
  | _ => rfl

/-- What stands in a cell. -/
inductive TA (T : Nat → Type) where
  | d (t : Ty) (x : Den T t)
  | own (t : Ty) (l : List (Den T t))
  | box (i off : Nat)
  | mpr (i : Nat)
  | fnb (f : FuncId) (l : List Nat)
  | raw (v : Value)
  | tt
  | ff
  | clip (t : Ty) (l : List (Den T t))
  | bsl (i off n c : Nat)
/-- What stands in a tuple. -/
inductive TC (T : Nat → Type) where
  | a (x : TA T)
  | ag (l : List (TA T))
/-- What stands in a slot. -/
inductive TV (T : Nat → Type) where
  | a (x : TA T)
  | ag (l : List (TA T))
  | el (l : List (TA T))
  | tu (l : List (TC T))
  | fn (f : FuncId) (l : List (TA T))
  | ifc (t : TypeId) (x : TC T)
/-- A box. -/
inductive TB (T : Nat → Type) where
  | cs (l : List (TA T))
  | smap (t : Ty) (l : List (List UInt8 × Den T t))
  | row (t : Ty) (l : List (Den T t))

/-- Maps by texts. -/
def mget {α : Type} : List (List UInt8 × α) → List UInt8 → Option α
  | [], _ => none
  | (k', u) :: r, k => if k = k' then some u else mget r k
def mset {α : Type} : List (List UInt8 × α) → List UInt8 → α → List (List UInt8 × α)
  | [], k, u => [(k, u)]
  | (k', u') :: r, k, u => if k = k' then (k, u) :: r else (k', u') :: mset r k u
theorem lget_map {α : Type} (f : α → AV) : ∀ (l : List (List UInt8 × α)) (k : List UInt8), lget (l.map fun p => (p.1, f p.2)) k = (mget l k).map f
  | [], k => rfl
  | (k', u) :: r, k => by
    simp only [List.map_cons, lget, mget]
    split
    · rfl
    · exact lget_map f r k
theorem lset_map {α : Type} (f : α → AV) : ∀ (l : List (List UInt8 × α)) (k : List UInt8) (u : α), lset (l.map fun p => (p.1, f p.2)) k (f u) = (mset l k u).map fun p => (p.1, f p.2)
  | [], k, u => rfl
  | (k', u') :: r, k, u => by
    simp only [List.map_cons, lset, mset]
    split
    · rfl
    · rw [lset_map f r k u]; rfl

def TA.to (E : Enc) (ρ : Nat → Nat) : TA E.T → AV
  | .d t x => Go.Proofs.Ytgmlkhfjhogdbaa.one E t x
  | .own t l => .sl true (csz E t) (l.map (cells E t))
  | .box i off => .v (.pointer (some ⟨ρ i, off, none⟩))
  | .mpr i => .v (.map (some (ρ i)))
  | .fnb f l => .fn f (l.map fun i => .v (.pointer (some ⟨ρ i, 0, none⟩)))
  | .raw v => .v v
  | .tt => .v (.bool true)
  | .ff => .v (.bool false)
  | .clip t l => .cl (csz E t) (l.map (cells E t))
  | .bsl i off n c => .v (.slice (some ⟨ρ i, off, none⟩) n c)
def TC.to (E : Enc) (ρ : Nat → Nat) : TC E.T → AV
  | .a x => x.to E ρ
  | .ag l => .ag (l.map (TA.to E ρ))
def TV.to (E : Enc) (ρ : Nat → Nat) : TV E.T → AV
  | .a x => x.to E ρ
  | .ag l => .ag (l.map (TA.to E ρ))
  | .el l => .el (l.map (TA.to E ρ))
  | .tu l => .tu (l.map (TC.to E ρ))
  | .fn f l => .fn f (l.map (TA.to E ρ))
  | .ifc t x => .ifc t (x.to E ρ)
def TB.to (E : Enc) (ρ : Nat → Nat) : TB E.T → List AV
  | .cs l => l.map (TA.to E ρ)
  | .smap t l => [Go.Proofs.Ytgmlkhfjhogdbaa.smap (l.map fun p => (p.1, Go.Proofs.Ytgmlkhfjhogdbaa.one E t p.2))]
  | .row t l => (l.map (cells E t)).flatten
def TA.rd {T : Nat → Type} : TA T → TA T
  | .own t l => .d (.sl t) l
  | x => x
def TC.rd {T : Nat → Type} : TC T → TC T
  | .a x => .a x.rd
  | .ag l => .ag l
def TV.rd {T : Nat → Type} : TV T → TV T
  | .a x => .a x.rd
  | u => u
theorem TA.rd_to (E : Enc) (ρ : Nat → Nat) (x : TA E.T) : x.rd.to E ρ = (x.to E ρ).rd := by
  cases x with
  | d t x => exact (one_rd E t x).symm
  | _ => rfl
theorem TC.rd_to (E : Enc) (ρ : Nat → Nat) (x : TC E.T) : x.rd.to E ρ = (x.to E ρ).rd := by
  cases x with
  | a x => exact TA.rd_to E ρ x
  | ag l => rfl
theorem TV.rd_to (E : Enc) (ρ : Nat → Nat) (x : TV E.T) : x.rd.to E ρ = (x.to E ρ).rd := by
  cases x with
  | a x => exact TA.rd_to E ρ x
  | _ => rfl
theorem TA.to_notMp (E : Enc) (ρ : Nat → Nat) (x : TA E.T) : (x.to E ρ).isMp = false := by
  cases x with
  | d t x =>
    cases t with
    | ptr t => cases x <;> rfl
    | _ => rfl
  | _ => rfl
/-- Does a cell's value own nothing? -/
def TA.plain {T : Nat → Type} : TA T → Bool
  | .own _ _ => false
  | _ => true
theorem one_plain (E : Enc) (t : Ty) (x : Den E.T t) : own1 (some (one E t x)) = none := by
  cases t with
  | ptr t => cases x <;> rfl
  | _ => rfl
theorem TA.plain_to (E : Enc) (ρ : Nat → Nat) {x : TA E.T} (h : x.plain = true) : own1 (some (x.to E ρ)) = none := by
  cases x with
  | d t x => exact one_plain E t x
  | own t l => cases h
  | _ => rfl

/-- The state. -/
structure TS (T : Nat → Type) where
  n : Nat
  t : List (Nat × TV T)
  h : List (Nat × TB T)
  e : List (Nat × Root)
def Root.to (ρ : Nat → Nat) : Root → Root
  | .s t => .s t
  | .c k o => .c (ρ k) o
def hTo (E : Enc) (ρ : Nat → Nat) (h : List (Nat × TB E.T)) : List (Nat × List AV) := h.map fun p => (ρ p.1, p.2.to E ρ)
def tTo (E : Enc) (ρ : Nat → Nat) (t : List (Nat × TV E.T)) : List (Nat × AV) := t.map fun p => (p.1, p.2.to E ρ)
def eTo (ρ : Nat → Nat) (e : List (Nat × Root)) : List (Nat × Root) := e.map fun p => (p.1, p.2.to ρ)
def TS.to (E : Enc) (ρ : Nat → Nat) (σ : TS E.T) : AS := { n := σ.n, t := tTo E ρ σ.t, h := hTo E ρ σ.h, e := eTo ρ σ.e }
/-- The names of boxes are told apart. -/
def Inj {T : Nat → Type} (ρ : Nat → Nat) (h : List (Nat × TB T)) : Prop := ∀ p ∈ h, ∀ q ∈ h, ρ p.1 = ρ q.1 → p.1 = q.1

theorem look_map {α β : Type} (f : α → β) : ∀ (l : List (Nat × α)) (i : Nat), look (l.map fun p => (p.1, f p.2)) i = (look l i).map f
  | [], i => rfl
  | (k, a) :: r, i => by
    simp only [List.map_cons, look_cons]
    split
    · rfl
    · exact look_map f r i
theorem look_tTo (E : Enc) (ρ : Nat → Nat) (t : List (Nat × TV E.T)) (i : Nat) : look (tTo E ρ t) i = (look t i).map (TV.to E ρ) := look_map _ t i
theorem look_hTo (E : Enc) {ρ : Nat → Nat} : ∀ {h : List (Nat × TB E.T)} {k : Nat} {b : TB E.T}, Inj ρ h → look h k = some b → look (hTo E ρ h) (ρ k) = some (b.to E ρ)
  | (j, c) :: r, k, b, hi, hl => by
    simp only [hTo, List.map_cons, look_cons] at hl ⊢
    by_cases hjk : k = j
    · subst hjk; rw [if_pos rfl] at hl ⊢; cases hl; rfl
    · rw [if_neg hjk] at hl
      have hm := look_mem hl
      rw [if_neg (fun e => hjk (hi _ (List.mem_cons_of_mem _ hm) _ List.mem_cons_self e))]
      exact look_hTo E (h := r) (fun p hp q hq => hi p (List.mem_cons_of_mem _ hp) q (List.mem_cons_of_mem _ hq)) hl
theorem look_eTo (ρ : Nat → Nat) (e : List (Nat × Root)) (i : Nat) : look (eTo ρ e) i = (look e i).map (Root.to ρ) := look_map _ e i
theorem Inj.sub {T : Nat → Type} {ρ : Nat → Nat} {h h' : List (Nat × TB T)} (hi : Inj ρ h) (hs : ∀ p ∈ h', ∃ q ∈ h, q.1 = p.1) : Inj ρ h' := fun p hp q hq e => by
  obtain ⟨p', h1, h2⟩ := hs p hp
  obtain ⟨q', h3, h4⟩ := hs q hq
  rw [← h2, ← h4] at e ⊢
  exact hi p' h1 q' h3 e

/-! ### What may be done to a state -/
section
variable {E : Enc} {ρ : Nat → Nat}
def TS.put {T : Nat → Type} (σ : TS T) (d : Nat) (u : TV T) : TS T := { n := σ.n, t := (d, u) :: σ.t, h := σ.h, e := σ.e.filter fun p => !(p.1 == d) && !p.2.in d }
theorem root_in (ρ : Nat → Nat) (r : Root) (d : Nat) : (r.to ρ).in d = r.in d := by cases r <;> rfl
theorem eTo_filter (ρ : Nat → Nat) (e : List (Nat × Root)) (d : Nat) : (eTo ρ e).filter (fun p => !(p.1 == d) && !p.2.in d) = eTo ρ (e.filter fun p => !(p.1 == d) && !p.2.in d) := by
  unfold eTo
  rw [List.filter_map]
  congr 1
  apply List.filter_congr
  intro p _
  simp only [Function.comp]
  rw [root_in]
theorem put_to (σ : TS E.T) (d : Nat) (u : TV E.T) : (σ.put d u).to E ρ = (σ.to E ρ).put d (u.to E ρ) := by
  simp only [TS.to, TS.put, AS.put, eTo_filter, tTo, List.map_cons]
def TS.alias {T : Nat → Type} (σ : TS T) (d : Nat) (r : Root) : TS T := { n := σ.n, t := σ.t, h := σ.h, e := (d, r) :: σ.e }
theorem alias_to (σ : TS E.T) (d : Nat) (r : Root) : (σ.alias d r).to E ρ = (σ.to E ρ).alias d (r.to ρ) := rfl
/-- The owner's row. -/
structure OwnV (T : Nat → Type) where
  t : Ty
  l : List (Den T t)
def ownA {T : Nat → Type} : Option (TA T) → Option (OwnV T)
  | some (.own t l) => some ⟨t, l⟩
  | _ => none
def TS.ownAt {T : Nat → Type} (σ : TS T) : Root → Option (OwnV T)
  | .s t => match look σ.t t with
    | some (.a x) => ownA (some x)
    | _ => none
  | .c k o => match look σ.h k with
    | some (.cs cs) => ownA cs[o]?
    | _ => none
theorem ownA_some {T : Nat → Type} {x : Option (TA T)} {w : OwnV T} (h : ownA x = some w) : x = some (.own w.t w.l) := by
  unfold ownA at h
  split at h
  · cases h; rfl
  · cases h
theorem ownAt_to (σ : TS E.T) (hi : Inj ρ σ.h) {r : Root} {w : OwnV E.T} (h : σ.ownAt r = some w) : (σ.to E ρ).own (r.to ρ) = some (csz E w.t, w.l.map (cells E w.t)) := by
  cases r with
  | s t =>
    simp only [TS.ownAt] at h
    split at h
    · rename_i x hx
      have := ownA_some h
      cases this
      simp only [Root.to, AS.own, TS.to, look_tTo, hx]; rfl
    · cases h
  | c k o =>
    simp only [TS.ownAt] at h
    split at h
    · rename_i cs hx
      have := ownA_some h
      simp only [Root.to, AS.own, TS.to, look_hTo E hi hx, TB.to, List.getElem?_map, this]; rfl
    · cases h
def layH {T : Nat → Type} (h : List (Nat × TB T)) (k o : Nat) : List (Nat × TB T) :=
  match look h k with
  | some (.cs cs) => match cs[o]? with
    | some u => (k, .cs (cs.set o u.rd)) :: h
    | none => h
  | _ => h
def TS.lay {T : Nat → Type} (σ : TS T) : Root → TS T
  | .s t => { n := σ.n, t := (match look σ.t t with | some u => (t, u.rd) :: σ.t | none => σ.t), h := σ.h, e := σ.e }
  | .c k o => { n := σ.n, t := σ.t, h := layH σ.h k o, e := σ.e }
theorem lay_to (σ : TS E.T) (hi : Inj ρ σ.h) {r : Root} {w : OwnV E.T} (h : σ.ownAt r = some w) : (σ.lay r).to E ρ = (σ.to E ρ).lay (r.to ρ) := by
  cases r with
  | s t =>
    simp only [TS.to, TS.lay, AS.lay, Root.to, look_tTo]
    cases hl : look σ.t t with
    | none => rfl
    | some u => simp only [Option.map_some, tTo, List.map_cons, TV.rd_to]
  | c k o =>
    simp only [TS.ownAt] at h
    split at h
    · rename_i cs hx
      have hc := ownA_some h
      have hlk := look_hTo E hi hx
      have e1 : (σ.lay (.c k o)).to E ρ = { n := σ.n, t := tTo E ρ σ.t, h := (ρ k, (cs.set o (TA.rd (.own w.t w.l))).map (TA.to E ρ)) :: hTo E ρ σ.h, e := eTo ρ σ.e } := by
        simp only [TS.lay, layH, hx, hc]; rfl
      have e2 : (σ.to E ρ).lay (Root.to ρ (.c k o)) = { n := σ.n, t := tTo E ρ σ.t, h := (ρ k, (cs.map (TA.to E ρ)).set o (AV.rd (TA.to E ρ (.own w.t w.l)))) :: hTo E ρ σ.h, e := eTo ρ σ.e } := by
        simp only [TS.to, AS.lay, Root.to, hlk]
        simp only [TB.to, List.getElem?_map, hc, Option.map_some]
      rw [e1, e2, List.map_set, TA.rd_to]
    · cases h
theorem lay_ids {T : Nat → Type} (σ : TS T) (r : Root) : ∀ p ∈ (σ.lay r).h, ∃ q ∈ σ.h, q.1 = p.1 := by
  cases r with
  | s t => exact fun p hp => ⟨p, hp, rfl⟩
  | c k o =>
    intro p hp
    simp only [TS.lay, layH] at hp
    split at hp
    · rename_i cs hx
      split at hp
      · rename_i u hu
        rcases List.mem_cons.1 hp with rfl | hp
        · exact ⟨_, look_mem hx, rfl⟩
        · exact ⟨p, hp, rfl⟩
      · exact ⟨p, hp, rfl⟩
    · exact ⟨p, hp, rfl⟩
/-- What slot t owns is owned by slot x from now on. -/
def TS.hand {T : Nat → Type} (σ : TS T) (x t : Nat) : TS T :=
  match look σ.t t with
  | some (.a (.own ty l)) => { n := σ.n, t := (x, .a (.own ty l)) :: (t, .a (.d (.sl ty) l)) :: σ.t, h := σ.h, e := σ.e.filterMap fun p => if p.1 == x then none else if p.2 = .s t then some (p.1, .s x) else if p.2.in x then none else some p }
  | _ => σ
theorem root_eq_s (ρ : Nat → Nat) (r : Root) (t : Nat) : (r.to ρ = .s t) ↔ (r = .s t) := by cases r <;> simp [Root.to]
theorem hand_to (σ : TS E.T) {x t : Nat} {ty : Ty} {l : List (Den E.T ty)} (h : look σ.t t = some (.a (.own ty l))) : (σ.hand x t).to E ρ = (σ.to E ρ).hand x (.s t) := by
  have ho : (σ.to E ρ).own (.s t) = some (csz E ty, l.map (cells E ty)) := by simp only [AS.own, TS.to, look_tTo, h]; rfl
  unfold AS.hand TS.hand
  rw [ho, h]
  have hl : look (tTo E ρ σ.t) t = some (.sl true (csz E ty) (l.map (cells E ty))) := by rw [look_tTo, h]; rfl
  have e1 : AS.lay (σ.to E ρ) (.s t) = { n := σ.n, t := (t, .sl false (csz E ty) (l.map (cells E ty))) :: tTo E ρ σ.t, h := hTo E ρ σ.h, e := eTo ρ σ.e } := by
    simp only [TS.to, AS.lay, hl, AV.rd]
  rw [e1]
  simp only [TS.to]
  refine congrArg (AS.mk _ _ _) ?_
  unfold eTo
  rw [List.map_filterMap, List.filterMap_map]
  congr 1
  funext p
  simp only [Function.comp]
  by_cases h1 : (p.1 == x) = true
  · rw [if_pos h1, if_pos h1]; rfl
  · rw [if_neg h1, if_neg h1]
    by_cases h2 : p.2 = .s t
    · rw [if_pos h2, if_pos ((root_eq_s ρ _ _).2 h2)]; rfl
    · rw [if_neg h2, if_neg (fun e => h2 ((root_eq_s ρ _ _).1 e)), root_in]
      split <;> rfl
/-- Whatever reads as σ reads as σ'. -/
def SubT (E : Enc) (σ σ' : TS E.T) : Prop := ∀ ρ, Inj ρ σ.h → Inj ρ σ'.h ∧ SubS (σ.to E ρ) (σ'.to E ρ)
theorem SubT.refl (σ : TS E.T) : SubT E σ σ := fun ρ h => ⟨h, fun _ _ _ hs => hs⟩
theorem SubT.trans {σ σ1 σ2 : TS E.T} (h : SubT E σ σ1) (k : SubT E σ1 σ2) : SubT E σ σ2 := fun ρ hi => by
  obtain ⟨h1, h2⟩ := h ρ hi
  obtain ⟨k1, k2⟩ := k ρ h1
  exact ⟨k1, h2.trans k2⟩
/-- Facts on aliases, held apart. -/
theorem hand_sub (σ : TS E.T) {x t : Nat} : ∀ (ρ : Nat → Nat), Inj ρ σ.h → Inj ρ (σ.hand x t).h ∧ ∀ F X tm, SimE F X (σ.to E ρ) tm → rootV tm X.w (.s t) = some (tm.getD x undef) → SimE F X ((σ.hand x t).to E ρ) tm := by
  intro ρ hi
  by_cases h : ∃ ty l, look σ.t t = some (.a (.own ty l))
  · obtain ⟨ty, l, hl⟩ := h
    refine ⟨?_, fun F X tm hs hr => ?_⟩
    · unfold TS.hand; rw [hl]; exact hi
    · rw [hand_to σ hl]; exact hs.hand hr
  · have : σ.hand x t = σ := by
      unfold TS.hand
      split
      · rename_i ty l hl; exact absurd ⟨ty, l, hl⟩ h
      · rfl
    rw [this]
    exact ⟨hi, fun F X tm hs _ => hs⟩
def saveT {T : Nat → Type} (K : List Nat) : List (Nat × Root) → TS T → TS T
  | [], σ => σ
  | (x, .s t) :: es, σ => saveT K es (if K.contains x && !K.contains t then σ.hand x t else σ)
  | (_, .c _ _) :: es, σ => saveT K es σ
theorem saveT_sub (K : List Nat) : ∀ (es : List (Nat × Root)) (σ : TS E.T) (ρ : Nat → Nat), Inj ρ σ.h → Inj ρ (saveT K es σ).h ∧ ∀ F X tm, SimE F X (σ.to E ρ) tm → EqsOk (eTo ρ es) tm X.w → SimE F X ((saveT K es σ).to E ρ) tm
  | [], σ, ρ, hi => ⟨hi, fun _ _ _ h _ => h⟩
  | (x, .s t) :: es, σ, ρ, hi => by
    simp only [saveT]
    split
    · obtain ⟨h1, h2⟩ := hand_sub (x := x) (t := t) σ ρ hi
      obtain ⟨k1, k2⟩ := saveT_sub K es (σ.hand x t) ρ h1
      exact ⟨k1, fun F X tm hs he => k2 F X tm (h2 F X tm hs (he (x, .s t) List.mem_cons_self)) fun p hp => he p (List.mem_cons_of_mem _ hp)⟩
    · obtain ⟨k1, k2⟩ := saveT_sub K es σ ρ hi
      exact ⟨k1, fun F X tm hs he => k2 F X tm hs fun p hp => he p (List.mem_cons_of_mem _ hp)⟩
  | (x, .c k o) :: es, σ, ρ, hi => by
    simp only [saveT]
    obtain ⟨k1, k2⟩ := saveT_sub K es σ ρ hi
    exact ⟨k1, fun F X tm hs he => k2 F X tm hs fun p hp => he p (List.mem_cons_of_mem _ hp)⟩
/-- What stands in a slot, weakened if asked for; choices told as data. -/
def nrm {T : Nat → Type} : TV T → TV T
  | .a .tt => .a (.d .bool true)
  | .a .ff => .a (.d .bool false)
  | u => u
theorem nrm_to (E : Enc) (ρ : Nat → Nat) (u : TV E.T) : (nrm u).to E ρ = u.to E ρ := by
  cases u with
  | a x => cases x <;> rfl
  | _ => rfl
def weakV {T : Nat → Type} (w : Bool) (u : TV T) : TV T := match w with | true => nrm u.rd | false => nrm u
def keepTT {T : Nat → Type} (t : List (Nat × TV T)) : List (Nat × Bool) → List (Nat × TV T)
  | [] => []
  | (k, w) :: ks => match look t k with | some u => (k, weakV w u) :: keepTT t ks | none => keepTT t ks
def keepHH {T : Nat → Type} (h : List (Nat × TB T)) : List Nat → List (Nat × TB T)
  | [] => []
  | k :: ks => match look h k with | some b => (k, b) :: keepHH h ks | none => keepHH h ks
/-- Only these slots and boxes stay, and no alias. -/
def TS.canon {T : Nat → Type} (σ : TS T) (K : List (Nat × Bool)) (B : List Nat) : TS T :=
  { n := σ.n, t := keepTT (saveT (K.map Prod.fst) σ.e σ).t K, h := keepHH (saveT (K.map Prod.fst) σ.e σ).h B, e := [] }
theorem saveT_n {T : Nat → Type} (K : List Nat) : ∀ (es : List (Nat × Root)) (σ : TS T), (saveT K es σ).n = σ.n
  | [], _ => rfl
  | (x, .s t) :: es, σ => by
    simp only [saveT]
    rw [saveT_n K es]
    split
    · unfold TS.hand; split <;> rfl
    · rfl
  | (x, .c _ _) :: es, σ => by simp only [saveT]; exact saveT_n K es σ
theorem look_keepTT {T : Nat → Type} {t : List (Nat × TV T)} : ∀ {K : List (Nat × Bool)} {k : Nat} {u : TV T}, look (keepTT t K) k = some u → ∃ w u0, look t k = some u0 ∧ u = weakV w u0
  | [], _, _, h => by cases h
  | (k0, w) :: ks, k, u, h => by
    simp only [keepTT] at h
    cases hl : look t k0 with
    | none => rw [hl] at h; exact look_keepTT h
    | some u0 =>
      rw [hl] at h
      simp only [look_cons] at h
      split at h
      · rename_i e; subst e; cases h; exact ⟨w, u0, hl, rfl⟩
      · exact look_keepTT h
theorem look_keepHH {T : Nat → Type} {t : List (Nat × TB T)} : ∀ {K : List Nat} {k : Nat} {u : TB T}, look (keepHH t K) k = some u → look t k = some u
  | [], _, _, h => by cases h
  | k0 :: ks, k, u, h => by
    simp only [keepHH] at h
    cases hl : look t k0 with
    | none => rw [hl] at h; exact look_keepHH h
    | some u0 =>
      rw [hl] at h
      simp only [look_cons] at h
      split at h
      · rename_i e; subst e; cases h; exact hl
      · exact look_keepHH h
theorem mem_keepHH {T : Nat → Type} {t : List (Nat × TB T)} : ∀ {K : List Nat}, ∀ p ∈ keepHH t K, ∃ q ∈ t, q.1 = p.1
  | [], _, h => by cases h
  | k0 :: ks, p, h => by
    simp only [keepHH] at h
    cases hl : look t k0 with
    | none => rw [hl] at h; exact mem_keepHH p h
    | some u0 =>
      rw [hl] at h
      rcases List.mem_cons.1 h with rfl | h
      · exact ⟨_, look_mem hl, rfl⟩
      · exact mem_keepHH p h
theorem look_map_h {E : Enc} {ρ : Nat → Nat} : ∀ {h : List (Nat × TB E.T)} {k : Nat} {cs : List AV}, look (hTo E ρ h) k = some cs → ∃ i b, (i, b) ∈ h ∧ ρ i = k ∧ cs = b.to E ρ ∧ (Inj ρ h → look h i = some b)
  | [], _, _, h => by cases h
  | (j, c) :: r, k, cs, h => by
    simp only [hTo, List.map_cons, look_cons] at h
    split at h
    · rename_i e; cases h; exact ⟨j, c, List.mem_cons_self, e.symm, rfl, fun _ => look_hd⟩
    · rename_i e
      obtain ⟨i, b, h1, h2, h3, h4⟩ := look_map_h (h := r) h
      refine ⟨i, b, List.mem_cons_of_mem _ h1, h2, h3, fun hi => ?_⟩
      rw [look_cons, if_neg (fun e2 => e (by rw [← h2, e2]))]
      exact h4 fun p hp q hq => hi p (List.mem_cons_of_mem _ hp) q (List.mem_cons_of_mem _ hq)
/-- A state that knows less. -/
theorem SubT.mk {σ σ' : TS E.T} (hn : σ'.n = σ.n) (ht : ∀ k u, look σ'.t k = some u → ∃ w u0, look σ.t k = some u0 ∧ u = weakV w u0) (hh : ∀ k b, look σ'.h k = some b → look σ.h k = some b) (hm : ∀ p ∈ σ'.h, ∃ q ∈ σ.h, q.1 = p.1) (he : σ'.e = []) : SubT E σ σ' := by
  intro ρ hi
  have hi' := hi.sub hm
  refine ⟨hi', fun F X tm hs => ?_⟩
  have heq : EqsOk (σ'.to E ρ).e tm X.w := by simp only [TS.to, he]; intro p hp; cases hp
  have hslot : ∀ t u, look (σ'.to E ρ).t t = some u → ∃ u0, look (σ.to E ρ).t t = some u0 ∧ Le1 u0 u := by
    intro t u hu
    simp only [TS.to, look_tTo, Option.map_eq_some_iff] at hu ⊢
    obtain ⟨v, hv, rfl⟩ := hu
    obtain ⟨w, u0, h1, rfl⟩ := ht t v hv
    refine ⟨_, ⟨u0, h1, rfl⟩, ?_⟩
    cases w with
    | false => simp only [weakV, nrm_to]; exact .refl _
    | true =>
      simp only [weakV, nrm_to, TV.rd_to]
      generalize u0.to E ρ = z
      cases z <;> first | exact .refl _ | exact .rd _ _ _
  have hbox : ∀ k cs, look (σ'.to E ρ).h k = some cs → look (σ.to E ρ).h k = some cs := by
    intro k cs hk
    obtain ⟨i, b, h1, rfl, rfl, h4⟩ := look_map_h hk
    exact look_hTo E hi (hh i b (h4 hi'))
  refine ⟨hs.toSim.reown hn (fun t u hu => ?_) (fun k cs hk => hs.box k cs (hbox k cs hk)) heq.look id (fun r sz l ho => ?_) (fun _ _ hne _ _ => hne), heq⟩
  · obtain ⟨u0, h1, h2⟩ := hslot t u hu
    exact h2.rel (hs.slot t u0 h1)
  · cases r with
    | s t =>
      simp only [AS.own] at ho
      cases hlk : look (σ'.to E ρ).t t with
      | none => rw [hlk] at ho; cases ho
      | some u =>
        rw [hlk] at ho
        obtain ⟨u0, h1, h2⟩ := hslot t u hlk
        rcases h2.own ho with h3 | ⟨h3, h4⟩
        · right; simp only [id, AS.own]; rw [h1]; exact ⟨h3, trivial⟩
        · left
          subst h3
          have := hs.slot t _ h1
          refine ⟨?_, h4⟩
          simp only [rootV]
          generalize tm.getD t undef = y at this
          cases this; rfl
    | c k o =>
      simp only [AS.own] at ho
      cases hlk : look (σ'.to E ρ).h k with
      | none => rw [hlk] at ho; cases ho
      | some cs =>
        rw [hlk] at ho
        right; simp only [id, AS.own]; rw [hbox k cs hlk]; exact ⟨ho, trivial⟩
theorem canon_sub (σ : TS E.T) (K : List (Nat × Bool)) (B : List Nat) : SubT E σ (σ.canon K B) := by
  intro ρ hi
  obtain ⟨h1, h2⟩ := saveT_sub (E := E) (K.map Prod.fst) σ.e σ ρ hi
  obtain ⟨k1, k2⟩ := SubT.mk (E := E) (σ := saveT (K.map Prod.fst) σ.e σ) (σ' := σ.canon K B) (by simp only [TS.canon]; rw [saveT_n]) (fun k u hu => look_keepTT (t := (saveT (K.map Prod.fst) σ.e σ).t) (K := K) hu) (fun k b hb => look_keepHH (t := (saveT (K.map Prod.fst) σ.e σ).h) (K := B) hb) (fun p hp => mem_keepHH (t := (saveT (K.map Prod.fst) σ.e σ).h) (K := B) p hp) rfl ρ h1
  exact ⟨k1, fun F X tm hs => k2 F X tm (h2 F X tm hs hs.eqm)⟩
end
end Go.Proofs.Ytgmlkhfjhogdbaa
