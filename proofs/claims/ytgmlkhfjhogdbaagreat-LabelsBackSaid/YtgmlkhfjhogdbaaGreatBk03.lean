import Derived.Test.YtgmlkhfjhogdbaaGreatBk02
import Derived.Laws.MakeOwn
import Derived.Laws.StructEq
import Derived.Lib.SliceRun
set_option linter.unusedSimpArgs false
set_option linter.unusedVariables false
/- Typed abstract values, and states of them: what they mean as abstract values. -/
namespace Go.Proofs.YtgmlkhfjhogdbaaGreat
open Go.RowKit P
set_option linter.unusedSimpArgs false
set_option linter.unusedVariables false

/-- Types of data. -/
inductive Ty where
  | int (k : IntKind)
  | byte
  | bool
  | str
  | sl (t : Ty)
  | nam (i : Nat)
  | ptr (t : Ty)
  deriving DecidableEq
def Den (T : Nat → Type) : Ty → Type
  | .int _ => Int
  | .byte => UInt8
  | .bool => Bool
  | .str => List UInt8
  | .sl t => List (Den T t)
  | .nam i => T i
  | .ptr t => Option (Den T t)
/-- The named structs, and the cells that they are. -/
structure Enc where
  T : Nat → Type
  enc : ∀ i, T i → List AV
  sz : Nat → Nat
  len : ∀ i z, (enc i z).length = sz i
  one : ∀ i z, ∀ u ∈ enc i z, u.one = true ∧ u.rd = u
def csz (E : Enc) : Ty → Nat
  | .nam i => E.sz i
  | _ => 1
def cells (E : Enc) : (t : Ty) → Den E.T t → List AV
  | .int k, x => [.v (.int k x)]
  | .byte, b => [.v (.int .u8 (UInt8.toNat b))]
  | .bool, b => [.v (.bool b)]
  | .str, s => [.v (.string (mkB s))]
  | .sl t, l => [.sl false (csz E t) (List.map (cells E t) l)]
  | .nam i, z => E.enc i z
  | .ptr _, none => [.v (.pointer none)]
  | .ptr t, some y => [.el (cells E t y)]
def one (E : Enc) (t : Ty) (x : Den E.T t) : AV :=
  match t, x with
  | .nam i, z => .ag (E.enc i z)
  | t, x => (cells E t x).headD (.v undef)
theorem cells_len (E : Enc) (t : Ty) (x : Den E.T t) : (cells E t x).length = csz E t := by
  cases t with
  | nam i => exact E.len i x
  | ptr t => cases x <;> rfl
  | _ => rfl
theorem cellsT_one (E : Enc) (t : Ty) (x : Den E.T t) : ∀ u ∈ cells E t x, u.one = true ∧ u.rd = u := by
  cases t with
  | nam i => exact E.one i x
  | ptr t => cases x <;> (intro u hu; simp only [cells, List.mem_singleton] at hu; subst hu; exact ⟨rfl, rfl⟩)
  | _ => intro u hu; simp only [cells, List.mem_singleton] at hu; subst hu; exact ⟨rfl, rfl⟩
/-- Data of one cell. -/
def Ty.lone : Ty → Bool
  | .nam _ => false
  | _ => true
theorem cells_lone (E : Enc) {t : Ty} (h : t.lone = true) (x : Den E.T t) : cells E t x = [one E t x] := by
  cases t with
  | nam i => cases h
  | ptr t => cases x <;> rfl
  | _ => rfl
theorem one_rd (E : Enc) (t : Ty) (x : Den E.T t) : (one E t x).rd = one E t x := by
  cases t with
  | ptr t => cases x <;> rfl
  | _ => rfl

/-- What stands in a cell. -/
inductive TA (T : Nat → Type) where
  | d (t : Ty) (x : Den T t)
  | own (t : Ty) (l : List (Den T t))
  | box (i off : Nat)
  | mpr (i : Nat)
  | fnb (f : FuncId) (l : List Nat)
  | raw (v : Value)
  | tt
  | ff
  | clip (t : Ty) (l : List (Den T t))
  | bsl (i off n c : Nat)
/-- What stands in a tuple. -/
inductive TC (T : Nat → Type) where
  | a (x : TA T)
  | ag (l : List (TA T))
/-- What stands in a slot. -/
inductive TV (T : Nat → Type) where
  | a (x : TA T)
  | ag (l : List (TA T))
  | el (l : List (TA T))
  | tu (l : List (TC T))
  | fn (f : FuncId) (l : List (TA T))
  | ifc (t : TypeId) (x : TC T)
/-- A box. -/
inductive TB (T : Nat → Type) where
  | cs (l : List (TA T))
  | smap (t : Ty) (l : List (List UInt8 × Den T t))
  | row (t : Ty) (l : List (Den T t))

/-- Maps by texts. -/
def mget {α : Type} : List (List UInt8 × α) → List UInt8 → Option α
  | [], _ => none
  | (k', u) :: r, k => if k = k' then some u else mget r k
def mset {α : Type} : List (List UInt8 × α) → List UInt8 → α → List (List UInt8 × α)
  | [], k, u => [(k, u)]
  | (k', u') :: r, k, u => if k = k' then (k, u) :: r else (k', u') :: mset r k u
theorem lget_map {α : Type} (f : α → AV) : ∀ (l : List (List UInt8 × α)) (k : List UInt8), lget (l.map fun p => (p.1, f p.2)) k = (mget l k).map f
  | [], k => rfl
  | (k', u) :: r, k => by
    simp only [List.map_cons, lget, mget]
    split
    · rfl
    · exact lget_map f r k
theorem lset_map {α : Type} (f : α → AV) : ∀ (l : List (List UInt8 × α)) (k : List UInt8) (u : α), lset (l.map fun p => (p.1, f p.2)) k (f u) = (mset l k u).map fun p => (p.1, f p.2)
  | [], k, u => rfl
  | (k', u') :: r, k, u => by
    simp only [List.map_cons, lset, mset]
    split
    · rfl
    · rw [lset_map f r k u]; rfl

def TA.to (E : Enc) (ρ : Nat → Nat) : TA E.T → AV
  | .d t x => Go.Proofs.YtgmlkhfjhogdbaaGreat.one E t x
  | .own t l => .sl true (csz E t) (l.map (cells E t))
  | .box i off => .v (.pointer (some ⟨ρ i, off, none⟩))
  | .mpr i => .v (.map (some (ρ i)))
  | .fnb f l => .fn f (l.map fun i => .v (.pointer (some ⟨ρ i, 0, none⟩)))
  | .raw v => .v v
  | .tt => .v (.bool true)
  | .ff => .v (.bool false)
  | .clip t l => .cl (csz E t) (l.map (cells E t))
  | .bsl i off n c => .v (.slice (some ⟨ρ i, off, none⟩) n c)
def TC.to (E : Enc) (ρ : Nat → Nat) : TC E.T → AV
  | .a x => x.to E ρ
  | .ag l => .ag (l.map (TA.to E ρ))
def TV.to (E : Enc) (ρ : Nat → Nat) : TV E.T → AV
  | .a x => x.to E ρ
  | .ag l => .ag (l.map (TA.to E ρ))
  | .el l => .el (l.map (TA.to E ρ))
  | .tu l => .tu (l.map (TC.to E ρ))
  | .fn f l => .fn f (l.map (TA.to E ρ))
  | .ifc t x => .ifc t (x.to E ρ)
def TB.to (E : Enc) (ρ : Nat → Nat) : TB E.T → List AV
  | .cs l => l.map (TA.to E ρ)
  | .smap t l => [Go.Proofs.YtgmlkhfjhogdbaaGreat.smap (l.map fun p => (p.1, Go.Proofs.YtgmlkhfjhogdbaaGreat.one E t p.2))]
  | .row t l => (l.map (cells E t)).flatten
def TA.rd {T : Nat → Type} : TA T → TA T
  | .own t l => .d (.sl t) l
  | x => x
def TC.rd {T : Nat → Type} : TC T → TC T
  | .a x => .a x.rd
  | .ag l => .ag l
def TV.rd {T : Nat → Type} : TV T → TV T
  | .a x => .a x.rd
  | u => u
theorem TA.rd_to (E : Enc) (ρ : Nat → Nat) (x : TA E.T) : x.rd.to E ρ = (x.to E ρ).rd := by
  cases x with
  | d t x => exact (one_rd E t x).symm
  | _ => rfl
theorem TC.rd_to (E : Enc) (ρ : Nat → Nat) (x : TC E.T) : x.rd.to E ρ = (x.to E ρ).rd := by
  cases x with
  | a x => exact TA.rd_to E ρ x
  | ag l => rfl
theorem TV.rd_to (E : Enc) (ρ : Nat → Nat) (x : TV E.T) : x.rd.to E ρ = (x.to E ρ).rd := by
  cases x with
  | a x => exact TA.rd_to E ρ x
  | _ => rfl
theorem TA.to_notMp (E : Enc) (ρ : Nat → Nat) (x : TA E.T) : (x.to E ρ).isMp = false := by
  cases x with
  | d t x =>
    cases t with
    | ptr t => cases x <;> rfl
    | _ => rfl
  | _ => rfl
/-- Does a cell's value own nothing? -/
def TA.plain {T : Nat → Type} : TA T → Bool
  | .own _ _ => false
  | _ => true
theorem one_plain (E : Enc) (t : Ty) (x : Den E.T t) : own1 (some (one E t x)) = none := by
  cases t with
  | ptr t => cases x <;> rfl
  | _ => rfl
theorem TA.plain_to (E : Enc) (ρ : Nat → Nat) {x : TA E.T} (h : x.plain = true) : own1 (some (x.to E ρ)) = none := by
  cases x with
  | d t x => exact one_plain E t x
  | own t l => cases h
  | _ => rfl

/-- The state. -/
structure TS (T : Nat → Type) where
  n : Nat
  t : List (Nat × TV T)
  h : List (Nat × TB T)
  e : List (Nat × Root)
def Root.to (ρ : Nat → Nat) : Root → Root
  | .s t => .s t
  | .c k o => .c (ρ k) o
def hTo (E : Enc) (ρ : Nat → Nat) (h : List (Nat × TB E.T)) : List (Nat × List AV) := h.map fun p => (ρ p.1, p.2.to E ρ)
def tTo (E : Enc) (ρ : Nat → Nat) (t : List (Nat × TV E.T)) : List (Nat × AV) := t.map fun p => (p.1, p.2.to E ρ)
def eTo (ρ : Nat → Nat) (e : List (Nat × Root)) : List (Nat × Root) := e.map fun p => (p.1, p.2.to ρ)
def TS.to (E : Enc) (ρ : Nat → Nat) (σ : TS E.T) : AS := { n := σ.n, t := tTo E ρ σ.t, h := hTo E ρ σ.h, e := eTo ρ σ.e }
/-- The names of boxes are told apart. -/
def Inj {T : Nat → Type} (ρ : Nat → Nat) (h : List (Nat × TB T)) : Prop := ∀ p ∈ h, ∀ q ∈ h, ρ p.1 = ρ q.1 → p.1 = q.1

theorem look_map {α β : Type} (f : α → β) : ∀ (l : List (Nat × α)) (i : Nat), look (l.map fun p => (p.1, f p.2)) i = (look l i).map f
  | [], i => rfl
  | (k, a) :: r, i => by
    simp only [List.map_cons, look_cons]
    split
    · rfl
    · exact look_map f r i
theorem look_tTo (E : Enc) (ρ : Nat → Nat) (t : List (Nat × TV E.T)) (i : Nat) : look (tTo E ρ t) i = (look t i).map (TV.to E ρ) := look_map _ t i
theorem look_hTo (E : Enc) {ρ : Nat → Nat} : ∀ {h : List (Nat × TB E.T)} {k : Nat} {b : TB E.T}, Inj ρ h → look h k = some b → look (hTo E ρ h) (ρ k) = some (b.to E ρ)
  | (j, c) :: r, k, b, hi, hl => by
    simp only [hTo, List.map_cons, look_cons] at hl ⊢
    by_cases hjk : k = j
    · subst hjk; rw [if_pos rfl] at hl ⊢; cases hl; rfl
    · rw [if_neg hjk] at hl
      have hm := look_mem hl
      rw [if_neg (fun e => hjk (hi _ (List.mem_cons_of_mem _ hm) _ List.mem_cons_self e))]
      exact look_hTo E (h := r) (fun p hp q hq => hi p (List.mem_cons_of_mem _ hp) q (List.mem_cons_of_mem _ hq)) hl
theorem look_eTo (ρ : Nat → Nat) (e : List (Nat × Root)) (i : Nat) : look (eTo ρ e) i = (look e i).map (Root.to ρ) := look_map _ e i
theorem Inj.sub {T : Nat → Type} {ρ : Nat → Nat} {h h' : List (Nat × TB T)} (hi : Inj ρ h) (hs : ∀ p ∈ h', ∃ q ∈ h, q.1 = p.1) : Inj ρ h' := fun p hp q hq e => by
  obtain ⟨p', h1, h2⟩ := hs p hp
  obtain ⟨q', h3, h4⟩ := hs q hq
  rw [← h2, ← h4] at e ⊢
  exact hi p' h1 q' h3 e

/-! ### What may be done to a state -/
section
variable {E : Enc} {ρ : Nat → Nat}
def TS.put {T : Nat → Type} (σ : TS T) (d : Nat) (u : TV T) : TS T := { n := σ.n, t := (d, u) :: σ.t, h := σ.h, e := σ.e.filter fun p => !(p.1 == d) && !p.2.in d }
theorem root_in (ρ : Nat → Nat) (r : Root) (d : Nat) : (r.to ρ).in d = r.in d := by cases r <;> rfl
theorem eTo_filter (ρ : Nat → Nat) (e : List (Nat × Root)) (d : Nat) : (eTo ρ e).filter (fun p => !(p.1 == d) && !p.2.in d) = eTo ρ (e.filter fun p => !(p.1 == d) && !p.2.in d) := by
  unfold eTo
  rw [List.filter_map]
  congr 1
  apply List.filter_congr
  intro p _
  simp only [Function.comp]
  rw [root_in]
theorem put_to (σ : TS E.T) (d : Nat) (u : TV E.T) : (σ.put d u).to E ρ = (σ.to E ρ).put d (u.to E ρ) := by
  simp only [TS.to, TS.put, AS.put, eTo_filter, tTo, List.map_cons]
def TS.alias {T : Nat → Type} (σ : TS T) (d : Nat) (r : Root) : TS T := { n := σ.n, t := σ.t, h := σ.h, e := (d, r) :: σ.e }
theorem alias_to (σ : TS E.T) (d : Nat) (r : Root) : (σ.alias d r).to E ρ = (σ.to E ρ).alias d (r.to ρ) := rfl
/-- The owner's row. -/
structure OwnV (T : Nat → Type) where
  t : Ty
  l : List (Den T t)
def ownA {T : Nat → Type} : Option (TA T) → Option (OwnV T)
  | some (.own t l) => some ⟨t, l⟩
  | _ => none
def TS.ownAt {T : Nat → Type} (σ : TS T) : Root → Option (OwnV T)
  | .s t => match look σ.t t with
    | some (.a x) => ownA (some x)
    | _ => none
  | .c k o => match look σ.h k with
    | some (.cs cs) => ownA cs[o]?
    | _ => none
theorem ownA_some {T : Nat → Type} {x : Option (TA T)} {w : OwnV T} (h : ownA x = some w) : x = some (.own w.t w.l) := by
  unfold ownA at h
  split at h
  · cases h; rfl
  · cases h
theorem ownAt_to (σ : TS E.T) (hi : Inj ρ σ.h) {r : Root} {w : OwnV E.T} (h : σ.ownAt r = some w) : (σ.to E ρ).own (r.to ρ) = some (csz E w.t, w.l.map (cells E w.t)) := by
  cases r with
  | s t =>
    simp only [TS.ownAt] at h
    split at h
    · rename_i x hx
      have := ownA_some h
      cases this
      simp only [Root.to, AS.own, TS.to, look_tTo, hx]; rfl
    · cases h
  | c k o =>
    simp only [TS.ownAt] at h
    split at h
    · rename_i cs hx
      have := ownA_some h
      simp only [Root.to, AS.own, TS.to, look_hTo E hi hx, TB.to, List.getElem?_map, this]; rfl
    · cases h
def layH {T : Nat → Type} (h : List (Nat × TB T)) (k o : Nat) : List (Nat × TB T) :=
  match look h k with
  | some (.cs cs) => match cs[o]? with
    | some u => (k, .cs (cs.set o u.rd)) :: h
    | none => h
  | _ => h
def TS.lay {T : Nat → Type} (σ : TS T) : Root → TS T
  | .s t => { n := σ.n, t := (match look σ.t t with | some u => (t, u.rd) :: σ.t | none => σ.t), h := σ.h, e := σ.e }
  | .c k o => { n := σ.n, t := σ.t, h := layH σ.h k o, e := σ.e }
theorem lay_to (σ : TS E.T) (hi : Inj ρ σ.h) {r : Root} {w : OwnV E.T} (h : σ.ownAt r = some w) : (σ.lay r).to E ρ = (σ.to E ρ).lay (r.to ρ) := by
  cases r with
  | s t =>
    simp only [TS.to, TS.lay, AS.lay, Root.to, look_tTo]
    cases hl : look σ.t t with
    | none => rfl
    | some u => simp only [Option.map_some, tTo, List.map_cons, TV.rd_to]
  | c k o =>
    simp only [TS.ownAt] at h
    split at h
    · rename_i cs hx
      have hc := ownA_some h
      have hlk := look_hTo E hi hx
      have e1 : (σ.lay (.c k o)).to E ρ = { n := σ.n, t := tTo E ρ σ.t, h := (ρ k, (cs.set o (TA.rd (.own w.t w.l))).map (TA.to E ρ)) :: hTo E ρ σ.h, e := eTo ρ σ.e } := by
        simp only [TS.lay, layH, hx, hc]; rfl
      have e2 : (σ.to E ρ).lay (Root.to ρ (.c k o)) = { n := σ.n, t := tTo E ρ σ.t, h := (ρ k, (cs.map (TA.to E ρ)).set o (AV.rd (TA.to E ρ (.own w.t w.l)))) :: hTo E ρ σ.h, e := eTo ρ σ.e } := by
        simp only [TS.to, AS.lay, Root.to, hlk]
        simp only [TB.to, List.getElem?_map, hc, Option.map_some]
      rw [e1, e2, List.map_set, TA.rd_to]
    · cases h
theorem lay_ids {T : Nat → Type} (σ : TS T) (r : Root) : ∀ p ∈ (σ.lay r).h, ∃ q ∈ σ.h, q.1 = p.1 := by
  cases r with
  | s t => exact fun p hp => ⟨p, hp, rfl⟩
  | c k o =>
    intro p hp
    simp only [TS.lay, layH] at hp
    split at hp
    · rename_i cs hx
      split at hp
      · rename_i u hu
        rcases List.mem_cons.1 hp with rfl | hp
        · exact ⟨_, look_mem hx, rfl⟩
        · exact ⟨p, hp, rfl⟩
      · exact ⟨p, hp, rfl⟩
    · exact ⟨p, hp, rfl⟩
/-- What slot t owns is owned by slot x from now on. -/
def TS.hand {T : Nat → Type} (σ : TS T) (x t : Nat) : TS T :=
  match look σ.t t with
  | some (.a (.own ty l)) => { n := σ.n, t := (x, .a (.own ty l)) :: (t, .a (.d (.sl ty) l)) :: σ.t, h := σ.h, e := σ.e.filterMap fun p => if p.1 == x then none else if p.2 = .s t then some (p.1, .s x) else if p.2.in x then none else some p }
  | _ => σ
theorem root_eq_s (ρ : Nat → Nat) (r : Root) (t : Nat) : (r.to ρ = .s t) ↔ (r = .s t) := by cases r <;> simp [Root.to]
theorem hand_to (σ : TS E.T) {x t : Nat} {ty : Ty} {l : List (Den E.T ty)} (h : look σ.t t = some (.a (.own ty l))) : (σ.hand x t).to E ρ = (σ.to E ρ).hand x (.s t) := by
  have ho : (σ.to E ρ).own (.s t) = some (csz E ty, l.map (cells E ty)) := by simp only [AS.own, TS.to, look_tTo, h]; rfl
  unfold AS.hand TS.hand
  rw [ho, h]
  have hl : look (tTo E ρ σ.t) t = some (.sl true (csz E ty) (l.map (cells E ty))) := by rw [look_tTo, h]; rfl
  have e1 : AS.lay (σ.to E ρ) (.s t) = { n := σ.n, t := (t, .sl false (csz E ty) (l.map (cells E ty))) :: tTo E ρ σ.t, h := hTo E ρ σ.h, e := eTo ρ σ.e } := by
    simp only [TS.to, AS.lay, hl, AV.rd]
  rw [e1]
  simp only [TS.to]
  refine congrArg (AS.mk _ _ _) ?_
  unfold eTo
  rw [List.map_filterMap, List.filterMap_map]
  congr 1
  funext p
  simp only [Function.comp]
  by_cases h1 : (p.1 == x) = true
  · rw [if_pos h1, if_pos h1]; rfl
  · rw [if_neg h1, if_neg h1]
    by_cases h2 : p.2 = .s t
    · rw [if_pos h2, if_pos ((root_eq_s ρ _ _).2 h2)]; rfl
    · rw [if_neg h2, if_neg (fun e => h2 ((root_eq_s ρ _ _).1 e)), root_in]
      split <;> rfl
/-- Whatever reads as σ reads as σ'. -/
def SubT (E : Enc) (σ σ' : TS E.T) : Prop := ∀ ρ, Inj ρ σ.h → Inj ρ σ'.h ∧ SubS (σ.to E ρ) (σ'.to E ρ)
theorem SubT.refl (σ : TS E.T) : SubT E σ σ := fun ρ h => ⟨h, fun _ _ _ hs => hs⟩
theorem SubT.trans {σ σ1 σ2 : TS E.T} (h : SubT E σ σ1) (k : SubT E σ1 σ2) : SubT E σ σ2 := fun ρ hi => by
  obtain ⟨h1, h2⟩ := h ρ hi
  obtain ⟨k1, k2⟩ := k ρ h1
  exact ⟨k1, h2.trans k2⟩
/-- Facts on aliases, held apart. -/
theorem hand_sub (σ : TS E.T) {x t : Nat} : ∀ (ρ : Nat → Nat), Inj ρ σ.h → Inj ρ (σ.hand x t).h ∧ ∀ F X tm, SimE F X (σ.to E ρ) tm → rootV tm X.w (.s t) = some (tm.getD x undef) → SimE F X ((σ.hand x t).to E ρ) tm := by
  intro ρ hi
  by_cases h : ∃ ty l, look σ.t t = some (.a (.own ty l))
  · obtain ⟨ty, l, hl⟩ := h
    refine ⟨?_, fun F X tm hs hr => ?_⟩
    · unfold TS.hand; rw [hl]; exact hi
    · rw [hand_to σ hl]; exact hs.hand hr
  · have : σ.hand x t = σ := by
      unfold TS.hand
      split
      · rename_i ty l hl; exact absurd ⟨ty, l, hl⟩ h
      · rfl
    rw [this]
    exact ⟨hi, fun F X tm hs _ => hs⟩
def saveT {T : Nat → Type} (K : List Nat) : List (Nat × Root) → TS T → TS T
  | [], σ => σ
  | (x, .s t) :: es, σ => saveT K es (if K.contains x && !K.contains t then σ.hand x t else σ)
  | (_, .c _ _) :: es, σ => saveT K es σ
theorem saveT_sub (K : List Nat) : ∀ (es : List (Nat × Root)) (σ : TS E.T) (ρ : Nat → Nat), Inj ρ σ.h → Inj ρ (saveT K es σ).h ∧ ∀ F X tm, SimE F X (σ.to E ρ) tm → EqsOk (eTo ρ es) tm X.w → SimE F X ((saveT K es σ).to E ρ) tm
  | [], σ, ρ, hi => ⟨hi, fun _ _ _ h _ => h⟩
  | (x, .s t) :: es, σ, ρ, hi => by
    simp only [saveT]
    split
    · obtain ⟨h1, h2⟩ := hand_sub (x := x) (t := t) σ ρ hi
      obtain ⟨k1, k2⟩ := saveT_sub K es (σ.hand x t) ρ h1
      exact ⟨k1, fun F X tm hs he => k2 F X tm (h2 F X tm hs (he (x, .s t) List.mem_cons_self)) fun p hp => he p (List.mem_cons_of_mem _ hp)⟩
    · obtain ⟨k1, k2⟩ := saveT_sub K es σ ρ hi
      exact ⟨k1, fun F X tm hs he => k2 F X tm hs fun p hp => he p (List.mem_cons_of_mem _ hp)⟩
  | (x, .c k o) :: es, σ, ρ, hi => by
    simp only [saveT]
    obtain ⟨k1, k2⟩ := saveT_sub K es σ ρ hi
    exact ⟨k1, fun F X tm hs he => k2 F X tm hs fun p hp => he p (List.mem_cons_of_mem _ hp)⟩
/-- What stands in a slot, weakened if asked for; choices told as data. -/
def nrm {T : Nat → Type} : TV T → TV T
  | .a .tt => .a (.d .bool true)
  | .a .ff => .a (.d .bool false)
  | u => u
theorem nrm_to (E : Enc) (ρ : Nat → Nat) (u : TV E.T) : (nrm u).to E ρ = u.to E ρ := by
  cases u with
  | a x => cases x <;> rfl
  | _ => rfl
def weakV {T : Nat → Type} (w : Bool) (u : TV T) : TV T := match w with | true => nrm u.rd | false => nrm u
def keepTT {T : Nat → Type} (t : List (Nat × TV T)) : List (Nat × Bool) → List (Nat × TV T)
  | [] => []
  | (k, w) :: ks => match look t k with | some u => (k, weakV w u) :: keepTT t ks | none => keepTT t ks
def keepHH {T : Nat → Type} (h : List (Nat × TB T)) : List Nat → List (Nat × TB T)
  | [] => []
  | k :: ks => match look h k with | some b => (k, b) :: keepHH h ks | none => keepHH h ks
/-- Only these slots and boxes stay, and no alias. -/
def TS.canon {T : Nat → Type} (σ : TS T) (K : List (Nat × Bool)) (B : List Nat) : TS T :=
  { n := σ.n, t := keepTT (saveT (K.map Prod.fst) σ.e σ).t K, h := keepHH (saveT (K.map Prod.fst) σ.e σ).h B, e := [] }
theorem saveT_n {T : Nat → Type} (K : List Nat) : ∀ (es : List (Nat × Root)) (σ : TS T), (saveT K es σ).n = σ.n
  | [], _ => rfl
  | (x, .s t) :: es, σ => by
    simp only [saveT]
    rw [saveT_n K es]
    split
    · unfold TS.hand; split <;> rfl
    · rfl
  | (x, .c _ _) :: es, σ => by simp only [saveT]; exact saveT_n K es σ
theorem look_keepTT {T : Nat → Type} {t : List (Nat × TV T)} : ∀ {K : List (Nat × Bool)} {k : Nat} {u : TV T}, look (keepTT t K) k = some u → ∃ w u0, look t k = some u0 ∧ u = weakV w u0
  | [], _, _, h => by cases h
  | (k0, w) :: ks, k, u, h => by
    simp only [keepTT] at h
    cases hl : look t k0 with
    | none => rw [hl] at h; exact look_keepTT h
    | some u0 =>
      rw [hl] at h
      simp only [look_cons] at h
      split at h
      · rename_i e; subst e; cases h; exact ⟨w, u0, hl, rfl⟩
      · exact look_keepTT h
theorem look_keepHH {T : Nat → Type} {t : List (Nat × TB T)} : ∀ {K : List Nat} {k : Nat} {u : TB T}, look (keepHH t K) k = some u → look t k = some u
  | [], _, _, h => by cases h
  | k0 :: ks, k, u, h => by
    simp only [keepHH] at h
    cases hl : look t k0 with
    | none => rw [hl] at h; exact look_keepHH h
    | some u0 =>
      rw [hl] at h
      simp only [look_cons] at h
      split at h
      · rename_i e; subst e; cases h; exact hl
      · exact look_keepHH h
theorem mem_keepHH {T : Nat → Type} {t : List (Nat × TB T)} : ∀ {K : List Nat}, ∀ p ∈ keepHH t K, ∃ q ∈ t, q.1 = p.1
  | [], _, h => by cases h
  | k0 :: ks, p, h => by
    simp only [keepHH] at h
    cases hl : look t k0 with
    | none => rw [hl] at h; exact mem_keepHH p h
    | some u0 =>
      rw [hl] at h
      rcases List.mem_cons.1 h with rfl | h
      · exact ⟨_, look_mem hl, rfl⟩
      · exact mem_keepHH p h
theorem look_map_h {E : Enc} {ρ : Nat → Nat} : ∀ {h : List (Nat × TB E.T)} {k : Nat} {cs : List AV}, look (hTo E ρ h) k = some cs → ∃ i b, (i, b) ∈ h ∧ ρ i = k ∧ cs = b.to E ρ ∧ (Inj ρ h → look h i = some b)
  | [], _, _, h => by cases h
  | (j, c) :: r, k, cs, h => by
    simp only [hTo, List.map_cons, look_cons] at h
    split at h
    · rename_i e; cases h; exact ⟨j, c, List.mem_cons_self, e.symm, rfl, fun _ => look_hd⟩
    · rename_i e
      obtain ⟨i, b, h1, h2, h3, h4⟩ := look_map_h (h := r) h
      refine ⟨i, b, List.mem_cons_of_mem _ h1, h2, h3, fun hi => ?_⟩
      rw [look_cons, if_neg (fun e2 => e (by rw [← h2, e2]))]
      exact h4 fun p hp q hq => hi p (List.mem_cons_of_mem _ hp) q (List.mem_cons_of_mem _ hq)
/-- A state that knows less. -/
theorem SubT.mk {σ σ' : TS E.T} (hn : σ'.n = σ.n) (ht : ∀ k u, look σ'.t k = some u → ∃ w u0, look σ.t k = some u0 ∧ u = weakV w u0) (hh : ∀ k b, look σ'.h k = some b → look σ.h k = some b) (hm : ∀ p ∈ σ'.h, ∃ q ∈ σ.h, q.1 = p.1) (he : σ'.e = []) : SubT E σ σ' := by
  intro ρ hi
  have hi' := hi.sub hm
  refine ⟨hi', fun F X tm hs => ?_⟩
  have heq : EqsOk (σ'.to E ρ).e tm X.w := by simp only [TS.to, he]; intro p hp; cases hp
  have hslot : ∀ t u, look (σ'.to E ρ).t t = some u → ∃ u0, look (σ.to E ρ).t t = some u0 ∧ Le1 u0 u := by
    intro t u hu
    simp only [TS.to, look_tTo, Option.map_eq_some_iff] at hu ⊢
    obtain ⟨v, hv, rfl⟩ := hu
    obtain ⟨w, u0, h1, rfl⟩ := ht t v hv
    refine ⟨_, ⟨u0, h1, rfl⟩, ?_⟩
    cases w with
    | false => simp only [weakV, nrm_to]; exact .refl _
    | true =>
      simp only [weakV, nrm_to, TV.rd_to]
      generalize u0.to E ρ = z
      cases z <;> first | exact .refl _ | exact .rd _ _ _
  have hbox : ∀ k cs, look (σ'.to E ρ).h k = some cs → look (σ.to E ρ).h k = some cs := by
    intro k cs hk
    obtain ⟨i, b, h1, rfl, rfl, h4⟩ := look_map_h hk
    exact look_hTo E hi (hh i b (h4 hi'))
  refine ⟨hs.toSim.reown hn (fun t u hu => ?_) (fun k cs hk => hs.box k cs (hbox k cs hk)) heq.look id (fun r sz l ho => ?_) (fun _ _ hne _ _ => hne), heq⟩
  · obtain ⟨u0, h1, h2⟩ := hslot t u hu
    exact h2.rel (hs.slot t u0 h1)
  · cases r with
    | s t =>
      simp only [AS.own] at ho
      cases hlk : look (σ'.to E ρ).t t with
      | none => rw [hlk] at ho; cases ho
      | some u =>
        rw [hlk] at ho
        obtain ⟨u0, h1, h2⟩ := hslot t u hlk
        rcases h2.own ho with h3 | ⟨h3, h4⟩
        · right; simp only [id, AS.own]; rw [h1]; exact ⟨h3, trivial⟩
        · left
          subst h3
          have := hs.slot t _ h1
          refine ⟨?_, h4⟩
          simp only [rootV]
          generalize tm.getD t undef = y at this
          cases this; rfl
    | c k o =>
      simp only [AS.own] at ho
      cases hlk : look (σ'.to E ρ).h k with
      | none => rw [hlk] at ho; cases ho
      | some cs =>
        rw [hlk] at ho
        right; simp only [id, AS.own]; rw [hbox k cs hlk]; exact ⟨ho, trivial⟩
theorem canon_sub (σ : TS E.T) (K : List (Nat × Bool)) (B : List Nat) : SubT E σ (σ.canon K B) := by
  intro ρ hi
  obtain ⟨h1, h2⟩ := saveT_sub (E := E) (K.map Prod.fst) σ.e σ ρ hi
  obtain ⟨k1, k2⟩ := SubT.mk (E := E) (σ := saveT (K.map Prod.fst) σ.e σ) (σ' := σ.canon K B) (by simp only [TS.canon]; rw [saveT_n]) (fun k u hu => look_keepTT (t := (saveT (K.map Prod.fst) σ.e σ).t) (K := K) hu) (fun k b hb => look_keepHH (t := (saveT (K.map Prod.fst) σ.e σ).h) (K := B) hb) (fun p hp => mem_keepHH (t := (saveT (K.map Prod.fst) σ.e σ).h) (K := B) p hp) rfl ρ h1
  exact ⟨k1, fun F X tm hs => k2 F X tm (h2 F X tm hs hs.eqm)⟩
end
end Go.Proofs.YtgmlkhfjhogdbaaGreat

/- Typed abstract values: what operations yield. -/
namespace Go.Proofs.YtgmlkhfjhogdbaaGreat
open Go.RowKit P
set_option linter.unusedSimpArgs false
set_option linter.unusedVariables false

/-- Named structs, taken apart and put together. -/
structure Env extends Enc where
  unp : ∀ i, T i → List (TA T)
  unp_to : ∀ i z ρ, (unp i z).map (TA.to toEnc ρ) = enc i z
  pk : ∀ i, List (TA T) → Option (T i × List (TA T))
  pk_to : ∀ i l z r ρ, pk i l = some (z, r) → LeL (l.map fun a => (a.rd.to toEnc ρ)) (enc i z ++ r.map fun a => (a.rd.to toEnc ρ))
  et : List (TypeId × Ty)
  ct : List (TypeId × List Ty)
def castD {T : Nat → Type} (a b : Ty) (x : Den T a) : Option (Den T b) := if h : a = b then some (h ▸ x) else none
theorem castD_some {T : Nat → Type} {a b : Ty} {x : Den T a} {y : Den T b} (h : castD a b x = some y) : ∃ e : a = b, y = e ▸ x := by
  unfold castD at h
  split at h
  · rename_i e; cases h; exact ⟨e, rfl⟩
  · cases h
def unpT (E : Env) (t : Ty) (x : Den E.T t) : List (TA E.T) :=
  match t, x with
  | .nam i, z => E.unp i z
  | t, x => [.d t x]
theorem unpT_to (E : Env) (ρ : Nat → Nat) (t : Ty) (x : Den E.T t) : (unpT E t x).map (TA.to E.toEnc ρ) = cells E.toEnc t x := by
  cases t with
  | nam i => exact E.unp_to i x ρ
  | ptr t => cases x <;> rfl
  | _ => rfl
def asD {T : Nat → Type} (t : Ty) : TA T → Option (Den T t)
  | .d t' x => castD t' t x
  | .own t' l => castD (.sl t') t l
  | .tt => castD .bool t (true : Bool)
  | .ff => castD .bool t (false : Bool)
  | .raw (.slice none 0 0) => match t with
    | .sl _ => some []
    | _ => none
  | .raw (.pointer none) => match t with
    | .ptr _ => some none
    | _ => none
  | _ => none
theorem asD_to (E : Enc) (ρ : Nat → Nat) {t : Ty} {a : TA E.T} {x : Den E.T t} (h : asD t a = some x) : Le1 (a.rd.to E ρ) (one E t x) := by
  unfold asD at h
  split at h
  · obtain ⟨rfl, rfl⟩ := castD_some h; exact .refl _
  · obtain ⟨rfl, rfl⟩ := castD_some h; exact .refl _
  · obtain ⟨rfl, rfl⟩ := castD_some h; exact .refl _
  · obtain ⟨rfl, rfl⟩ := castD_some h; exact .refl _
  · split at h
    · cases h; exact .nil _ _
    · cases h
  · split at h
    · cases h; exact .refl _
    · cases h
  · cases h
def pkL {T : Nat → Type} (t : Ty) : List (TA T) → Option (Den T t × List (TA T))
  | a :: r => match asD t a with
    | some x => some (x, r)
    | none => none
  | [] => none
def pkT (E : Env) (t : Ty) (l : List (TA E.T)) : Option (Den E.T t × List (TA E.T)) :=
  match t with
  | .nam i => E.pk i l
  | t => pkL t l
theorem LeL.append {a b c d : List AV} (h : LeL a b) (k : LeL c d) : LeL (a ++ c) (b ++ d) := by
  induction h with
  | nil => exact k
  | cons hu _ ih => exact .cons hu ih
theorem pkL_to (E : Enc) (ρ : Nat → Nat) {t : Ty} (hl : t.lone = true) {l : List (TA E.T)} {x : Den E.T t} {r : List (TA E.T)} (h : pkL t l = some (x, r)) : LeL (l.map fun a => (a.rd.to E ρ)) (cells E t x ++ r.map fun a => (a.rd.to E ρ)) := by
  rw [cells_lone E hl]
  unfold pkL at h
  split at h
  · rename_i a r0
    split at h
    · rename_i x0 hx
      cases h
      exact .cons (asD_to E ρ hx) (.refl _)
    · cases h
  · cases h
theorem pkT_to (E : Env) (ρ : Nat → Nat) {t : Ty} {l : List (TA E.T)} {x : Den E.T t} {r : List (TA E.T)} (h : pkT E t l = some (x, r)) : LeL (l.map fun a => (a.rd.to E.toEnc ρ)) (cells E.toEnc t x ++ r.map fun a => (a.rd.to E.toEnc ρ)) := by
  cases t with
  | nam i => exact E.pk_to i l x r ρ h
  | _ => exact pkL_to E.toEnc ρ rfl h

/-- What an operation yields: a value; a value, if there is one; nothing that is known. -/
inductive PV (T : Nat → Type) : Type 1 where
  | one (u : TV T)
  | opt {α : Type} (o : Option α) (u : α → TV T)
  | bad
def PV.ok {T : Nat → Type} (p : PV T) (K : TV T → Prop) : Prop :=
  match p with
  | .one u => K u
  | .opt o u => ∀ z, o = some z → K (u z)
  | .bad => True
theorem PV.ok.mono {T : Nat → Type} {p : PV T} {K K' : TV T → Prop} (h : p.ok K) (hk : ∀ u, K u → K' u) : p.ok K' := by
  cases p with
  | one u => exact hk _ h
  | opt o u => exact fun z hz => hk _ (h z hz)
  | bad => trivial

section
variable {P : Program} {Y : Tys P} {E : Env} {ρ : Nat → Nat}
def constT {T : Nat → Type} : Value → TV T
  | .int .u8 n => if ((UInt8.ofNat n.toNat).toNat : Int) = n then .a (.d .byte (UInt8.ofNat n.toNat)) else .a (.raw (.int .u8 n))
  | .int k n => .a (.d (.int k) n)
  | .bool true => .a .tt
  | .bool false => .a .ff
  | .string s => .a (.d .str s.data.toList)
  | .agg xs => .ag (xs.toList.map .raw)
  | .tuple xs => .tu (xs.toList.map fun x => .a (.raw x))
  | v => .a (.raw v)
theorem constT_to (E : Enc) (ρ : Nat → Nat) (v : Value) : (constT v : TV E.T).to E ρ = cst v := by
  cases v with
  | int k n =>
    cases k with
    | u8 =>
      unfold constT
      simp only
      split
      · rename_i h
        show AV.v (.int .u8 ((UInt8.ofNat n.toNat).toNat : Int)) = _
        rw [h]; rfl
      · rfl
    | _ => rfl
  | bool b => cases b <;> rfl
  | agg xs => simp only [constT, TV.to, List.map_map, cst]; rfl
  | tuple xs => simp only [constT, TV.to, List.map_map, cst]; rfl
  | _ => rfl
def opT {T : Nat → Type} (σ : TS T) : Operand → Option (TV T)
  | .tmp t => look σ.t t
  | .const v => some (constT v)
  | .func f => some (.a (.raw (.func (.func f) #[] #[])))
  | .global g => some (.a (.raw (.pointer (some ⟨g, 0, none⟩))))
theorem opT_to {σ : TS E.T} {x : Operand} {u : TV E.T} (h : opT σ x = some u) : opV (σ.to E.toEnc ρ) x = some (u.to E.toEnc ρ) := by
  cases x with
  | tmp t => simp only [opT] at h; simp only [opV, TS.to, look_tTo, h]; rfl
  | const v => cases h; simp only [opV, constT_to]
  | func f => cases h; rfl
  | global g => cases h; rfl
def asI {T : Nat → Type} : Option (TV T) → Option (IntKind × Int)
  | some (.a (.d (.int k) x)) => some (k, x)
  | some (.a (.d .byte b)) => some (.u8, (UInt8.toNat b : Int))
  | _ => none
theorem asI_to {σ : TS E.T} {x : Operand} {k : IntKind} {n : Int} (h : asI (opT σ x) = some (k, n)) : opV (σ.to E.toEnc ρ) x = some (.v (.int k n)) := by
  cases hx : opT σ x with
  | none => rw [hx] at h; cases h
  | some u =>
    rw [hx] at h
    rw [opT_to hx]
    unfold asI at h
    split at h
    · rename_i e; cases e; cases h; rfl
    · rename_i e; cases e; cases h; rfl
    · cases h
def asB {T : Nat → Type} : Option (TV T) → Option Bool
  | some (.a (.d .bool b)) => some b
  | some (.a .tt) => some true
  | some (.a .ff) => some false
  | _ => none
theorem asB_to {σ : TS E.T} {x : Operand} {b : Bool} (h : asB (opT σ x) = some b) : opV (σ.to E.toEnc ρ) x = some (.v (.bool b)) := by
  cases hx : opT σ x with
  | none => rw [hx] at h; cases h
  | some u =>
    rw [hx] at h
    rw [opT_to hx]
    unfold asB at h
    split at h
    · rename_i e; cases e; cases h; rfl
    · rename_i e; cases e; cases h; rfl
    · rename_i e; cases e; cases h; rfl
    · cases h
def asS {T : Nat → Type} : Option (TV T) → Option (List UInt8)
  | some (.a (.d .str s)) => some s
  | _ => none
theorem asS_to {σ : TS E.T} {x : Operand} {s : List UInt8} (h : asS (opT σ x) = some s) : opV (σ.to E.toEnc ρ) x = some (.v (.string (mkB s))) := by
  cases hx : opT σ x with
  | none => rw [hx] at h; cases h
  | some u =>
    rw [hx] at h
    rw [opT_to hx]
    unfold asS at h
    split at h
    · rename_i e; cases e; cases h; rfl
    · cases h
/-- A slice, as a reader sees it. -/
def asL {T : Nat → Type} : Option (TV T) → Option (OwnV T)
  | some (.a (.d (.sl t) l)) => some ⟨t, l⟩
  | some (.a (.own t l)) => some ⟨t, l⟩
  | _ => none
theorem asL_to {σ : TS E.T} {x : Operand} {w : OwnV E.T} (h : asL (opT σ x) = some w) : ∃ o, opV (σ.to E.toEnc ρ) x = some (.sl o (csz E.toEnc w.t) (w.l.map (cells E.toEnc w.t))) := by
  cases hx : opT σ x with
  | none => rw [hx] at h; cases h
  | some u =>
    rw [hx] at h
    rw [opT_to hx]
    unfold asL at h
    split at h
    · rename_i e; cases e; cases h; exact ⟨_, rfl⟩
    · rename_i e; cases e; cases h; exact ⟨_, rfl⟩
    · cases h
def mkI {T : Nat → Type} (k : IntKind) (r : Int) : TV T := match k with
  | .u8 => .a (.d .byte (UInt8.ofNat r.toNat))
  | k => .a (.d (.int k) r)
theorem mkI_to (E : Enc) (ρ : Nat → Nat) {k : IntKind} {r : Int} (h : k = .u8 → 0 ≤ r ∧ r < 256) : (mkI k r : TV E.T).to E ρ = .v (.int k r) := by
  unfold mkI
  split
  · obtain ⟨h1, h2⟩ := h rfl
    show AV.v (.int .u8 ((UInt8.ofNat r.toNat).toNat : Int)) = _
    congr 2
    simp
    omega
  · rfl
theorem wrap8 (n : Int) : 0 ≤ IntKind.u8.wrap n ∧ IntKind.u8.wrap n < 256 := by
  rw [IntKind.wrap_u8]; omega
theorem mkI_wrap (E : Enc) (ρ : Nat → Nat) {k : IntKind} {n : Int} : (mkI k (k.wrap n) : TV E.T).to E ρ = .v (.int k (k.wrap n)) := mkI_to E ρ fun h => by subst h; exact wrap8 n
/-- Quotients and shifts, where there are some. -/
def quoC (k : IntKind) (a b : Int) : Option Int := if b = 0 then none else some (k.wrap (a.tdiv b))
def remC (a b : Int) : Option Int := if b = 0 then none else some (a.tmod b)
def shlC (k : IntKind) (a b : Int) : Option Int := if 0 ≤ b then some (k.wrap (a * 2 ^ (min b.toNat k.bits))) else none
def shrC (k : IntKind) (a b : Int) : Option Int := if 0 ≤ b then some (a.fdiv (2 ^ (min b.toNat k.bits))) else none
def u8C (r : Int) : Option UInt8 := if 0 ≤ r ∧ r < 256 then some (UInt8.ofNat r.toNat) else none
def catC (a b : List UInt8) : Option (List UInt8) := if a.length + b.length ≤ 9223372036854775807 then some (a ++ b) else none
def notU8 : IntKind → Bool
  | .u8 => false
  | _ => true
def binI {T : Nat → Type} (op : BinOp) (k : IntKind) (a b : Int) : PV T :=
  match op with
  | .add => .one (mkI k (k.wrap (a + b)))
  | .sub => .one (mkI k (k.wrap (a - b)))
  | .mul => .one (mkI k (k.wrap (a * b)))
  | .quo => .opt (quoC k a b) (mkI k)
  | .rem => match notU8 k with | true => .opt (remC a b) (mkI k) | false => .opt ((remC a b).bind u8C) fun b => .a (.d .byte b)
  | .and => .one (mkI k (bits .and k a b))
  | .or => .one (mkI k (bits .or k a b))
  | .xor => .one (mkI k (bits .xor k a b))
  | .eql => .one (.a (.d .bool (a == b)))
  | .neq => .one (.a (.d .bool (a != b)))
  | .lss => .one (.a (.d .bool (decide (a < b))))
  | .leq => .one (.a (.d .bool (decide (a ≤ b))))
  | .gtr => .one (.a (.d .bool (decide (a > b))))
  | .geq => .one (.a (.d .bool (decide (a ≥ b))))
  | _ => .bad
def binS {T : Nat → Type} (op : BinOp) (a b : List UInt8) : PV T :=
  match op with
  | .add => .opt (catC a b) fun s => .a (.d .str s)
  | .eql => .one (.a (.d .bool (decide (a = b))))
  | .neq => .one (.a (.d .bool (!decide (a = b))))
  | .lss => .one (.a (.d .bool (Op.bytesLess a b)))
  | .leq => .one (.a (.d .bool (Op.bytesLess a b || decide (a = b))))
  | .gtr => .one (.a (.d .bool (!(Op.bytesLess a b || decide (a = b)))))
  | .geq => .one (.a (.d .bool (!Op.bytesLess a b)))
  | _ => .bad
def evBin (Y : Tys P) (σ : TS E.T) (op : BinOp) (t : TypeId) (x y : Operand) : PV E.T :=
  match op with
  | .shl => match asI (opT σ x), asI (opT σ y) with
    | some (k, a), some (_, b) => .opt (shlC k a b) (mkI k)
    | _, _ => .bad
  | .shr => match asI (opT σ x), asI (opT σ y) with
    | some (k, a), some (_, b) => match notU8 k with | true => .opt (shrC k a b) (mkI k) | false => .opt ((shrC k a b).bind u8C) fun b => .a (.d .byte b)
    | _, _ => .bad
  | op => match asI (opT σ x), asI (opT σ y) with
    | some (k, a), some (k', b) => if k = k' then binI op k a b else .bad
    | _, _ => match asS (opT σ x), asS (opT σ y) with
      | some a, some b => binS op a b
      | _, _ => match asB (opT σ x), asB (opT σ y), look Y.ty t, op with
        | some a, some b, some .bool, .eql => .one (.a (.d .bool (a == b)))
        | some a, some b, some .bool, .neq => .one (.a (.d .bool (!(a == b))))
        | _, _, _, _ => .bad
end
section
variable {P : Program} {Y : Tys P} {E : Env} {ρ : Nat → Nat} {σ : TS E.T} {d : Option Tmp} {t t2 yt ty e : TypeId} {x y z : Operand} {pos : String} {af : Array Edge} {g : Option (Nat × Bool)}
theorem opv_beqlH {op : BinOp} {a b : Bool} {σ : AS} (hx : opV σ x = some (.v (.bool a))) (hy : opV σ y = some (.v (.bool b))) (hop : op = .eql) (h0 : look Y.ty t = some .bool) : OpV P ⟨d, .binOp op t x y yt, ty, pos, af, g⟩ σ (.v (.bool (a == b))) := by
  subst hop
  refine opv_same rfl fun F X ac hs => ⟨.bool (a == b), ?_, .v _⟩
  have h1 := opV_val hs (by simp [Op.operands]) hx
  have h2 := opV_val hs (by simp [Op.operands]) hy
  have h3 := run_eql_bool (P := P) X.w t a b (Y.tyOk _ _ h0)
  simp only [execOp, h1, h2]
  refine run_val ?_
  simp [eqGuard, h3, go_sem]
theorem opv_bneqH {op : BinOp} {a b : Bool} {σ : AS} (hx : opV σ x = some (.v (.bool a))) (hy : opV σ y = some (.v (.bool b))) (hop : op = .neq) (h0 : look Y.ty t = some .bool) : OpV P ⟨d, .binOp op t x y yt, ty, pos, af, g⟩ σ (.v (.bool (!(a == b)))) := by
  subst hop
  refine opv_same rfl fun F X ac hs => ⟨.bool (!(a == b)), ?_, .v _⟩
  have h1 := opV_val hs (by simp [Op.operands]) hx
  have h2 := opV_val hs (by simp [Op.operands]) hy
  have h4 := run_equal_bool (P := P) X.w t a b (Y.tyOk _ _ h0)
  have h3 : (binOp .neq t (.bool a) (.bool b)).run P X.w = .ok (.bool (!(a == b))) X.w := by simp [binOp, h4]
  simp only [execOp, h1, h2]
  refine run_val ?_
  simp [eqGuard, h3, go_sem]
theorem isU8 {k : IntKind} (h : ¬ notU8 k = true) : k = .u8 := by cases k <;> first | rfl | exact absurd rfl h
theorem u8C_some {q : Option Int} {b : UInt8} (h : q.bind u8C = some b) : ∃ r, q = some r ∧ ((UInt8.toNat b : Nat) : Int) = r := by
  cases q with
  | none => cases h
  | some r =>
    refine ⟨r, rfl, ?_⟩
    have h' : u8C r = some b := h
    unfold u8C at h'
    split at h'
    · rename_i h0
      cases h'
      simp
      omega
    · cases h'
theorem bits8 (op : BinOp) (hop : op = .and ∨ op = .or ∨ op = .xor) (a b : Int) : 0 ≤ bits op .u8 a b ∧ bits op .u8 a b < 256 := by
  rcases hop with rfl | rfl | rfl <;> exact wrap8 _
theorem binI_ok {op : BinOp} {k : IntKind} {a b : Int} (hx : opV (σ.to E.toEnc ρ) x = some (.v (.int k a))) (hy : opV (σ.to E.toEnc ρ) y = some (.v (.int k b))) :
    (binI op k a b : PV E.T).ok fun u => OpV P ⟨d, .binOp op t x y yt, ty, pos, af, g⟩ (σ.to E.toEnc ρ) (u.to E.toEnc ρ) := by
  have nu : notU8 k = true → k ≠ .u8 := fun h e => by subst e; cases h
  cases op with
  | add => simp only [binI, PV.ok, mkI_wrap]; exact opv_bin hx hy rfl
  | sub => simp only [binI, PV.ok, mkI_wrap]; exact opv_bin hx hy rfl
  | mul => simp only [binI, PV.ok, mkI_wrap]; exact opv_bin hx hy rfl
  | quo =>
    intro z hz
    unfold quoC at hz
    split at hz
    · cases hz
    · rename_i hb; cases hz; rw [mkI_wrap]; exact opv_quo hx hy rfl hb
  | rem =>
    simp only [binI]
    split
    · rename_i hk
      intro z hz
      unfold remC at hz
      split at hz
      · cases hz
      · rename_i hb; cases hz; rw [mkI_to _ _ (fun h => absurd h (nu hk))]; exact opv_rem hx hy rfl hb
    · rename_i hk
      have hk' : k = .u8 := isU8 (by rw [hk]; intro h; cases h)
      subst hk'
      intro z hz
      obtain ⟨r, h1, h2⟩ := u8C_some hz
      unfold remC at h1
      split at h1
      · cases h1
      · rename_i hb
        cases h1
        have := opv_rem (P := P) (d := d) (t := t) (yt := yt) (ty := ty) (pos := pos) (af := af) (g := g) hx hy rfl hb
        rw [← h2] at this
        exact this
  | and => simp only [binI, PV.ok]; rw [mkI_to _ _ (fun h => by subst h; exact bits8 _ (.inl rfl) a b)]; exact opv_bin hx hy rfl
  | or => simp only [binI, PV.ok]; rw [mkI_to _ _ (fun h => by subst h; exact bits8 _ (.inr (.inl rfl)) a b)]; exact opv_bin hx hy rfl
  | xor => simp only [binI, PV.ok]; rw [mkI_to _ _ (fun h => by subst h; exact bits8 _ (.inr (.inr rfl)) a b)]; exact opv_bin hx hy rfl
  | eql => exact opv_bin hx hy rfl
  | neq => exact opv_bin hx hy rfl
  | lss => exact opv_bin hx hy rfl
  | leq => exact opv_bin hx hy rfl
  | gtr => exact opv_bin hx hy rfl
  | geq => exact opv_bin hx hy rfl
  | _ => trivial
theorem binS_ok {op : BinOp} {a b : List UInt8} (hx : opV (σ.to E.toEnc ρ) x = some (.v (.string (mkB a)))) (hy : opV (σ.to E.toEnc ρ) y = some (.v (.string (mkB b)))) :
    (binS op a b : PV E.T).ok fun u => OpV P ⟨d, .binOp op t x y yt, ty, pos, af, g⟩ (σ.to E.toEnc ρ) (u.to E.toEnc ρ) := by
  cases op with
  | add =>
    intro z hz
    unfold catC at hz
    split at hz
    · rename_i h; cases hz; exact opv_cat hx hy h
    · cases hz
  | eql => exact opv_str hx hy rfl
  | neq => exact opv_str hx hy rfl
  | lss => exact opv_str hx hy rfl
  | leq => exact opv_str hx hy rfl
  | gtr => exact opv_str hx hy rfl
  | geq => exact opv_str hx hy rfl
  | _ => trivial
end
end Go.Proofs.YtgmlkhfjhogdbaaGreat

/- Typed abstract values: what operations yield, the rest. -/
namespace Go.Proofs.YtgmlkhfjhogdbaaGreat
open Go.RowKit P
set_option linter.unusedSimpArgs false
set_option linter.unusedVariables false

/-- A part of a list, an element, where there are such. -/
def idxC {α : Type} (l : List α) (i : Int) : Option α := if 0 ≤ i then l[i.toNat]? else none
def subC {α : Type} (l : List α) (i j : Int) : Option (List α) := if 0 ≤ i ∧ i ≤ j ∧ j ≤ l.length then some ((l.take j.toNat).drop i.toNat) else none
def sub3C {α : Type} (l : List α) (i j m : Int) : Option (List α) := if 0 ≤ i ∧ i ≤ j ∧ j ≤ m ∧ m ≤ l.length then some ((l.take j.toNat).drop i.toNat) else none
def bndT {T : Nat → Type} (σ : TS T) (q : Option Operand) (z : Int) : Option Int :=
  match q with
  | none => some z
  | some q => match asI (opT σ q) with
    | some (.i64, i) => some i
    | _ => none
/-- A cell's value as it stands in a constant. -/
def atomT {T : Nat → Type} : Value → TA T
  | .int .u8 n => if ((UInt8.ofNat n.toNat).toNat : Int) = n then .d .byte (UInt8.ofNat n.toNat) else .raw (.int .u8 n)
  | .int k n => .d (.int k) n
  | .bool b => .d .bool b
  | .string s => .d .str s.data.toList
  | v => .raw v
theorem atomT_to (E : Enc) (ρ : Nat → Nat) (v : Value) : (atomT v : TA E.T).to E ρ = .v v := by
  cases v with
  | int k n =>
    cases k with
    | u8 =>
      unfold atomT
      simp only
      split
      · rename_i h
        show AV.v (.int .u8 ((UInt8.ofNat n.toNat).toNat : Int)) = _
        rw [h]
      · rfl
    | _ => rfl
  | _ => rfl
/-- The cells that a value is. -/
def TA.simple {T : Nat → Type} : TA T → Bool
  | .d (.nam _) _ => false
  | .raw (.agg _) => false
  | .raw (.tuple _) => false
  | .clip _ _ => false
  | _ => true
def TV.cs {T : Nat → Type} : TV T → Option (List (TA T))
  | .a x => match x.simple with | true => some [x] | false => none
  | .ag l => some l
  | _ => none
def spl {α : Type} (cs : List α) (o : Nat) (us : List α) : List α := cs.take o ++ us ++ cs.drop (o + us.length)
def opTs {T : Nat → Type} (σ : TS T) : List Operand → Option (List (TV T))
  | [] => some []
  | x :: xs => match opT σ x, opTs σ xs with
    | some u, some us => some (u :: us)
    | _, _ => none
/-- nil, of a slice's type. -/
def nilFix (E : Env) (t : TypeId) (u : TV E.T) : TV E.T :=
  match u with
  | .a (.raw (.slice none 0 0)) => match look E.et t with
    | some (.sl ty) => .a (.own ty [])
    | _ => u
  | u => u
def fixArgs (E : Env) : List TypeId → List (TV E.T) → List (TV E.T)
  | t :: ts, u :: us => nrm (nilFix E t u).rd :: fixArgs E ts us
  | [], us => us.map fun u => nrm u.rd
  | _, [] => []
def buildT {T : Nat → Type} (pl : List (Nat × Nat)) : List (TA T) → List Nat → List (TV T) → Option (List (TA T))
  | cs, [], [] => some cs
  | cs, i :: is, u :: us => match pl[i]?, u.cs with
    | some (off, n), some vs => match Nat.beq vs.length n && Nat.ble (off + n) cs.length with
      | true => buildT pl (spl cs off vs) is us
      | false => none
    | _, _ => none
  | _, _, _ => none
/-- Elements of a slice literal. -/
def packAll (E : Env) (t : Ty) : List (TV E.T) → Option (List (Den E.T t))
  | [] => some []
  | u :: us => match u.cs, packAll E t us with
    | some l, some xs => match pkT E t l with
      | some (x, []) => some (x :: xs)
      | _ => none
    | _, _ => none
def atoms {T : Nat → Type} : List (TV T) → Option (List (TA T))
  | [] => some []
  | .a x :: us => match atoms us with
    | some xs => some (x :: xs)
    | none => none
  | _ :: _ => none
/-- What comes of what may panic. -/
inductive PR (R : Type) where
  | ok (r : R)
  | pan (v : Value)
/-- What a callee that is handed boxes comes to. -/
inductive XR (T : Nat → Type) : Type 1 where
  | bad
  | ret {Z : Type} (o : Option Z) (ids : List Nat) (u : Z → TV T) (h : Z → List (Nat × TB T))
  | may {Z : Type} (o : Option (PR Z)) (ids : List Nat) (u : Z → TV T) (h : Z → List (Nat × TB T))
/-- What is known of callees. -/
structure Gam (E : Env) where
  f : List ((_ : Nat) × (List (TV E.T) → PV E.T))
  q : List (Nat × List Ty)
  x : List ((_ : Nat) × (List (TV E.T) → List (Nat × TB E.T) → XR E.T))
  mu : List Nat
def gLook {E : Env} : List ((_ : Nat) × (List (TV E.T) → PV E.T)) → Nat → Option (List (TV E.T) → PV E.T)
  | [], _ => none
  | ⟨k, h⟩ :: r, i => match Nat.beq i k with | true => some h | false => gLook r i
def xHas {E : Env} : List ((_ : Nat) × (List (TV E.T) → List (Nat × TB E.T) → XR E.T)) → Nat → Bool
  | [], _ => false
  | ⟨k, _⟩ :: r, i => match Nat.beq i k with | true => true | false => xHas r i
/-- The first that answers. -/
def xRun {E : Env} : List ((_ : Nat) × (List (TV E.T) → List (Nat × TB E.T) → XR E.T)) → Nat → List (TV E.T) → List (Nat × TB E.T) → XR E.T
  | [], _, _, _ => .bad
  | ⟨k, h⟩ :: r, i, us, hs => match Nat.beq i k with
    | true => match h us hs with
      | .bad => xRun r i us hs
      | x => x
    | false => xRun r i us hs
theorem gLook_mem {E : Env} : ∀ {G : List ((_ : Nat) × (List (TV E.T) → PV E.T))} {f : Nat} {h : List (TV E.T) → PV E.T}, gLook G f = some h → ⟨f, h⟩ ∈ G
  | [], _, _, h => by cases h
  | ⟨k, h0⟩ :: r, f, h, hl => by
    simp only [gLook] at hl
    split at hl
    · rename_i e; cases hl; rw [Nat.eq_of_beq_eq_true e]; exact List.mem_cons_self
    · exact List.mem_cons_of_mem _ (gLook_mem hl)

def beqI (a b : Int) : Bool := a == b
def beqB (a b : Bool) : Bool := a == b
def beqS (a b : List UInt8) : Bool := decide (a = b)
/-- Structs that are compared: cell by cell. -/
def eqA {T : Nat → Type} (t : Ty) (x y : TA T) : Option Bool :=
  match t with
  | .int k => match asD (.int k) x, asD (.int k) y with
    | some a, some b => some (beqI a b)
    | _, _ => none
  | .byte => match asD .byte x, asD .byte y with
    | some a, some b => some (beqI ((UInt8.toNat a : Nat) : Int) ((UInt8.toNat b : Nat) : Int))
    | _, _ => none
  | .bool => match asD .bool x, asD .bool y with
    | some a, some b => some (beqB a b)
    | _, _ => none
  | .str => match asD .str x, asD .str y with
    | some a, some b => some (beqS a b)
    | _, _ => none
  | _ => none
def eqT {T : Nat → Type} : List Ty → List (TA T) → List (TA T) → Option Bool
  | [], [], [] => some true
  | t :: ts, x :: xs, y :: ys => match eqA t x y, eqT ts xs ys with
    | some p, some q => some (p && q)
    | _, _ => none
  | _, _, _ => none
def evEq {E : Env} (q : List (Nat × List Ty)) (op : BinOp) (t : TypeId) (a b : List (TA E.T)) : PV E.T :=
  match look q t with
  | some ts => match eqT ts a b, op with
    | some r, .eql => .one (.a (.d .bool r))
    | some r, .neq => .one (.a (.d .bool (!r)))
    | _, _ => .bad
  | none => .bad
def evConv {P : Program} (Y : Tys P) (E : Env) (σ : TS E.T) (t t2 : TypeId) (x : Operand) : PV E.T :=
  match look Y.ty t, look Y.ty t2 with
  | some _, some (.int k) => match asI (opT σ x) with
    | some (_, n) => .one (mkI k (k.wrap n))
    | none => .bad
  | some .string, some .string => match asS (opT σ x) with
    | some s => .one (.a (.d .str s))
    | none => .bad
  | some (.slice e), some .string => match look Y.ty e, asL (opT σ x) with
    | some (.int .u8), some ⟨.byte, l⟩ => .one (.a (.d .str l))
    | _, _ => .bad
  | some .string, some (.slice e) => match look Y.ty e, asS (opT σ x) with
    | some (.int .u8), some s => .one (.a (.own .byte s))
    | _, _ => .bad
  | _, _ => .bad
/-- What a map holds, and what it says where there is nothing. -/
def mapTy : TypeDesc → Option Ty
  | .int .u8 => none
  | .int k => some (.int k)
  | .bool => some .bool
  | .string => some .str
  | _ => none
def zeroM {T : Nat → Type} (t : Ty) (v : Value) : Option (Den T t) := match t, v with
  | .int k, .int k' n => match decide (k = k') with
    | true => some n
    | false => none
  | .bool, .bool b => some b
  | .str, .string s => some s.data.toList
  | _, _ => none
def ifT {T : Nat → Type} : TV T → Option (TC T)
  | .a x => match x.plain with
    | true => some (.a x)
    | false => none
  | .ag l => some (.ag l)
  | _ => none
def notIf : TypeDesc → Bool
  | .interface _ => false
  | _ => true
def evP0 {P : Program} (Y : Tys P) (E : Env) (G : Gam E) (σ : TS E.T) (op : Op) (ty : TypeId) : PV E.T :=
  match op with
  | .move (.func f) | .assign (.func f) => .one (.fn f [])
  | .move x | .assign x => match opT σ x with
    | some u => .one (nilFix E ty u.rd)
    | none => .bad
  | .binOp op t x y _ => match opT σ x, opT σ y with
    | some (.ag a), some (.ag b) => evEq G.q op t a b
    | _, _ => evBin Y σ op t x y
  | .unOp .not _ x => match opT σ x with
    | some (.a (.d .bool b)) => .one (.a (.d .bool (!b)))
    | some (.a .tt) => .one (.a .ff)
    | some (.a .ff) => .one (.a .tt)
    | _ => .bad
  | .unOp .neg _ x => match asI (opT σ x) with
    | some (k, n) => .one (mkI k (k.wrap (0 - n)))
    | none => .bad
  | .unOp .xor _ x => match asI (opT σ x) with
    | some (k, n) => .one (mkI k (bits .xor k (if k.signed then -1 else k.max) n))
    | none => .bad
  | .convert t t2 x => evConv Y E σ t t2 x
  | .extract x i => match opT σ x with
    | some (.tu us) => match us[i]? with
      | some (.a u) => .one (.a u.rd)
      | some (.ag l) => .one (.ag l)
      | none => .bad
    | _ => .bad
  | .index t x y => match look Y.ty t, asS (opT σ x), asI (opT σ y) with
    | some .string, some s, some (_, i) => .opt (idxC s i) fun b => .a (.d .byte b)
    | _, _, _ => .bad
  | .slice t x lo hi none => match look Y.ty t with
    | some .string => match asS (opT σ x) with
      | some s => match bndT σ lo 0, bndT σ hi s.length with
        | some i, some j => .opt (subC s i j) fun r => .a (.d .str r)
        | _, _ => .bad
      | none => .bad
    | some (.slice e) => match asL (opT σ x) with
      | some ⟨ty, l⟩ => match look Y.sz e, bndT σ lo 0, bndT σ hi l.length with
        | some (sz, _), some i, some j => match Nat.beq sz (csz E.toEnc ty) with
          | true => .opt (subC l i j) fun r => .a (.d (.sl ty) r)
          | false => .bad
        | _, _, _ => .bad
      | none => .bad
    | _ => .bad
  | .slice t x lo (some hi) (some m) => match look Y.ty t with
    | some (.slice e) => match asL (opT σ x) with
      | some ⟨ty, l⟩ => match look Y.sz e, bndT σ lo 0, asI (opT σ hi), asI (opT σ m) with
        | some (sz, _), some i, some (_, j), some (_, m) => match Nat.beq sz (csz E.toEnc ty) with
          | true => .opt (sub3C l i j m) fun r => .a (.d (.sl ty) r)
          | false => .bad
        | _, _, _, _ => .bad
      | none => .bad
    | _ => .bad
  | .indexAddr t x y => match look Y.ty t, asL (opT σ x), asI (opT σ y) with
    | some (.slice e), some ⟨ty, l⟩, some (_, i) => match look Y.sz e with
      | some (sz, _) => match Nat.beq sz (csz E.toEnc ty) with
        | true => .opt (idxC l i) fun z => .el (unpT E ty z)
        | false => .bad
      | none => .bad
    | _, _, _ => .bad
  | .fieldAddr t x i => match look Y.ty t with
    | some (.struct fs) => match fs[i]? with
      | some f => match look Y.sz f.type with
        | some fsz => match Nat.ble 1 fsz.1 with
          | true => match opT σ x with
            | some (.el cs) => match Nat.ble f.offset cs.length with
              | true => .one (.el (cs.drop f.offset))
              | false => .bad
            | some (.a (.box k o)) => .one (.a (.box k (o + f.offset)))
            | _ => .bad
          | false => .bad
        | none => .bad
      | none => .bad
    | _ => .bad
  | .load t x => match opT σ x, look Y.ty t with
    | some (.el cs), some (.struct fs) => match look Y.sz t with
      | some (n, _) => match Nat.ble n cs.length with
        | true => .one (.ag (cs.take n))
        | false => .bad
      | none => .bad
    | some (.el (c :: _)), some dsc => match oneB dsc with
      | true => .one (.a c.rd)
      | false => .bad
    | some (.a (.box k o)), some (.struct fs) => match look σ.h k, look Y.sz t with
      | some (.cs cs), some (n, _) => match Nat.ble (o + n) cs.length with
        | true => .one (.ag (((cs.drop o).take n).map TA.rd))
        | false => .bad
      | _, _ => .bad
    | some (.a (.box k o)), some dsc => match oneB dsc, look σ.h k with
      | true, some (.cs cs) => match cs[o]? with
        | some c => .one (.a c.rd)
        | none => .bad
      | _, _ => .bad
    | _, _ => .bad
  | .build t ps => match look Y.ty t, look Y.zr t with
    | some (.struct fs), some zv => match placesA Y fs.toList, opTs σ (ps.toList.map (·.2)) with
      | some pl, some us => match buildT pl (zv.cells.toList.map atomT) (ps.toList.map (·.1)) us with
        | some cs => .one (.ag (cs.map TA.rd))
        | none => .bad
      | _, _ => .bad
    | _, _ => .bad
  | .buildSlice t len ps => match look Y.ty t, look E.et t with
    | some (.slice e), some (.sl ty) => match look Y.sz e, opTs σ (ps.toList.map (·.2)) with
      | some (sz, _), some us => match packAll E ty us with
        | some xs => match Nat.beq sz (csz E.toEnc ty) && partsOk ps.toList 0 && Nat.beq len ps.toList.length && Nat.ble (len * sz) 16777216 with
          | true => .one (.a (.own ty xs))
          | false => .bad
        | none => .bad
      | _, _ => .bad
    | _, _ => .bad
  | .nilCheck x => match opT σ x with
    | some (.a (.box k o)) => .one (.a (.box k o))
    | some (.el cs) => .one (.el cs)
    | _ => .bad
  | .makeFunc (.func f) first caps => match first.toList with
    | [] => match opTs σ caps.toList with
      | some us => match atoms us with
        | some xs => .one (.fn f xs)
        | none => .bad
      | none => .bad
    | _ => .bad
  | .call { callee := .builtin .len, args := xs, argTypes := ats } => match xs.toList, ats[0]? with
    | [x], some t => match look Y.ty t with
      | some .string => match asS (opT σ x) with
        | some s => .one (.a (.d (.int .i64) (s.length : Int)))
        | none => .bad
      | some (.slice _) => match asL (opT σ x) with
        | some ⟨_, l⟩ => .one (.a (.d (.int .i64) (l.length : Int)))
        | none => .bad
      | _ => .bad
    | _, _ => .bad
  | .call { callee := .builtin .min, args := xs, argTypes := _ } => match xs.toList with
    | [x, y] => match asI (opT σ x), asI (opT σ y) with
      | some (.i64, a), some (.i64, b) => .one (.a (.d (.int .i64) (if b < a then b else a)))
      | _, _ => .bad
    | _ => .bad
  | .call { callee := .builtin .max, args := xs, argTypes := _ } => match xs.toList with
    | [x, y] => match asI (opT σ x), asI (opT σ y) with
      | some (.i64, a), some (.i64, b) => .one (.a (.d (.int .i64) (if a < b then b else a)))
      | _, _ => .bad
    | _ => .bad
  | .call { callee := .value (.func f), args := xs, argTypes := ats } => match gLook G.f f, opTs σ xs.toList with
    | some h, some us => h (fixArgs E ats.toList us)
    | _, _ => .bad
  | .call { callee := .value (.tmp s), args := xs, argTypes := ats } => match look σ.t s with
    | some (.fn f []) => match gLook G.f f, opTs σ xs.toList with
      | some h, some us => h (fixArgs E ats.toList us)
      | _, _ => .bad
    | _ => .bad
  | .field t x i => match opT σ x, look Y.ty t with
    | some (.ag cs), some (.struct fs) => match fs[i]? with
      | some f => match look Y.ty f.type, cs[f.offset]? with
        | some dsc, some c => match oneB dsc with
          | true => .one (.a c.rd)
          | false => .bad
        | _, _ => .bad
      | none => .bad
    | _, _ => .bad
  | .lookup t x y ok => match look Y.ty t, opT σ x, asS (opT σ y) with
    | some (.map kt et), some (.a (.mpr k)), some key => match look Y.ty kt, look Y.zr et, look σ.h k with
      | some .string, some zv, some (.smap ty l) => match zeroM ty zv, ok with
        | some z, true => .one (.tu [.a (.d ty ((mget l key).getD z)), .a (.d .bool (mget l key).isSome)])
        | some z, false => .one (.a (.d ty ((mget l key).getD z)))
        | none, _ => .bad
      | _, _, _ => .bad
    | _, _, _ => .bad
  | .makeInterface t x => match opT σ x, look Y.ty t with
    | some u, some dsc => match ifT u, notIf dsc with
      | some c, true => .one (.ifc t c)
      | _, _ => .bad
    | _, _ => .bad
  | _ => .bad
/-! ### Slices and arrays that lie in boxes of their own, and are written in place -/
def idxN (n : Nat) (i : Int) : Option Nat := if 0 ≤ i ∧ i < n then some i.toNat else none
def subN (c : Nat) (i j : Int) : Option (Nat × Nat) := if 0 ≤ i ∧ i ≤ j ∧ j ≤ c then some (i.toNat, j.toNat) else none
def fullC {α : Type} (off n : Nat) (l : List α) : Option (List α) := if off = 0 ∧ n = l.length then some l else none
def offN (off c i : Nat) : Nat := if c = i then off else off + i
def sz1 {P : Program} (Y : Tys P) (e : TypeId) : Bool := match look Y.sz e with
  | some (1, _) => true
  | _ => false
def evPB {P : Program} (Y : Tys P) (E : Env) (σ : TS E.T) (op : Op) : PV E.T :=
  match op with
  | .indexAddr t x y => match opT σ x, asI (opT σ y), look Y.ty t with
    | some (.a (.bsl k off n _)), some (_, i), some (.slice e) => match sz1 Y e with
      | true => .opt (idxN n i) fun j => .a (.box k (off + j))
      | false => .bad
    | some (.a (.box k off)), some (_, i), some (.array n e) => match sz1 Y e with
      | true => .opt (idxN n i) fun j => .a (.box k (off + j))
      | false => .bad
    | _, _, _ => .bad
  | .load t x => match opT σ x, look Y.ty t with
    | some (.a (.box k o)), some dsc => match oneB dsc, look σ.h k with
      | true, some (.row ty l) => match ty.lone with
        | true => .opt l[o]? fun z => .a (.d ty z)
        | false => .bad
      | _, _ => .bad
    | _, _ => .bad
  | .slice t x lo hi none => match opT σ x, look Y.ty t with
    | some (.a (.bsl k off n c)), some (.slice e) => match sz1 Y e, bndT σ lo 0, bndT σ hi n with
      | true, some i, some j => .opt (subN c i j) fun p => .a (.bsl k (offN off c p.1) (p.2 - p.1) (c - p.1))
      | _, _, _ => .bad
    | some (.a (.box k off)), some (.array n e) => match sz1 Y e, bndT σ lo 0, bndT σ hi n with
      | true, some i, some j => .opt (subN n i j) fun p => .a (.bsl k (offN off n p.1) (p.2 - p.1) (n - p.1))
      | _, _, _ => .bad
    | _, _ => .bad
  | .convert t t2 x => match look Y.ty t, look Y.ty t2, opT σ x with
    | some (.slice e), some .string, some (.a (.bsl k off n _)) => match look Y.ty e, look σ.h k with
      | some (.int .u8), some (.row .byte l) => .opt (fullC off n l) fun s => .a (.d .str s)
      | _, _ => .bad
    | _, _, _ => .bad
  | .call { callee := .builtin .len, args := xs, argTypes := ats } => match xs.toList, ats[0]? with
    | [x], some t => match look Y.ty t, opT σ x with
      | some (.slice _), some (.a (.bsl _ _ n _)) => .one (.a (.d (.int .i64) (n : Int)))
      | _, _ => .bad
    | _, _ => .bad
  | .binOp op t x y _ => match opT σ x, opT σ y with
    | some (.a (.raw (.slice none 0 0))), some (.a (.raw (.slice none 0 0))) => match look Y.ty t, op with
      | some (.slice _), .eql => .one (.a .tt)
      | some (.slice _), .neq => .one (.a .ff)
      | _, _ => .bad
    | _, _ => .bad
  | _ => .bad
def evP {P : Program} (Y : Tys P) (E : Env) (G : Gam E) (σ : TS E.T) (op : Op) (ty : TypeId) : PV E.T :=
  match evPB Y E σ op with
  | .bad => evP0 Y E G σ op ty
  | v => v
end Go.Proofs.YtgmlkhfjhogdbaaGreat

/- Typed abstract values: what operations yield, proved. -/
namespace Go.Proofs.YtgmlkhfjhogdbaaGreat
open Go.RowKit P
set_option linter.unusedSimpArgs false
set_option linter.unusedVariables false

theorem Le1.trans {a b c : AV} (h : Le1 a b) (k : Le1 b c) : Le1 a c := by
  cases h with
  | refl => exact k
  | rd o sz l => cases k <;> exact .rd _ _ _
  | nil o sz => cases k <;> exact .nil _ _
theorem LeL.trans {a b c : List AV} (h : LeL a b) (k : LeL b c) : LeL a c := by
  induction h generalizing c with
  | nil => exact k
  | cons hu _ ih => cases k with | cons ku kr => exact .cons (hu.trans ku) (ih kr)
theorem le1_rd (u : AV) : Le1 u u.rd := by cases u <;> first | exact .refl _ | exact .rd _ _ _
section
variable {P : Program} {o : Oper} {σ : AS}
theorem opv_le {u u' : AV} (h : OpV P o σ u) (hl : Le1 u u') : OpV P o σ u' := by
  cases hl with
  | refl => exact h
  | rd ow sz l => exact fun F X a hs => (h F X a hs).mono fun x w' ⟨X', h1, h2, h3, h4, h5⟩ => ⟨X', h1, h2, h3, h4.own, FreshOk.plain rfl⟩
  | nil ow sz =>
    refine fun F X a hs => (h F X a hs).mono fun x w' ⟨X', h1, h2, h3, h4, h5⟩ => ?_
    have hx := rel_v h4
    subst hx
    refine ⟨X', h1, h2, h3, .nl _ _ _ _, fun sz' l hq => ?_⟩
    cases ow with
    | false => cases hq
    | true => cases hq; exact ⟨.inl ⟨rfl, rfl⟩, fun a n c e => by cases e⟩
theorem rel_ag_le {X : GW} {cs cs' : List AV} {v : Value} (h : Rel X (.ag cs) v) (hl : LeL cs cs') : Rel X (.ag cs') v := by
  cases h with
  | ag us xs hlen hr =>
    refine .ag cs' xs (by rw [← hl.length]; exact hlen) fun i u' x hu hx => ?_
    obtain ⟨u, h1, h2⟩ := hl.get i u' hu
    exact h2.rel (hr i u x h1 hx)
theorem opv_ag_le {cs cs' : List AV} (h : OpV P o σ (.ag cs)) (hl : LeL cs cs') : OpV P o σ (.ag cs') :=
  fun F X a hs => (h F X a hs).mono fun x w' ⟨X', h1, h2, h3, h4, h5⟩ => ⟨X', h1, h2, h3, rel_ag_le h4 hl, FreshOk.plain rfl⟩
/-- Rows, of which less is told. -/
inductive LeR : List (List AV) → List (List AV) → Prop
  | nil : LeR [] []
  | cons {r r' : List AV} {R R' : List (List AV)} : LeL r r' → LeR R R' → LeR (r :: R) (r' :: R')
theorem LeR.length {R R' : List (List AV)} (h : LeR R R') : R.length = R'.length := by induction h <;> simp_all
theorem LeR.get {R R' : List (List AV)} (h : LeR R R') : ∀ (i : Nat) r', R'[i]? = some r' → ∃ r, R[i]? = some r ∧ LeL r r' := by
  induction h with
  | nil => intro i r' h; simp at h
  | cons hr _ ih =>
    intro i r' h
    cases i with
    | zero => simp at h; subst h; exact ⟨_, by simp, hr⟩
    | succ i => simpa using ih i r' (by simpa using h)
theorem rel_rows_le {X : GW} {ow : Bool} {sz : Nat} {R R' : List (List AV)} {v : Value} (h : Rel X (.sl ow sz R) v) (hl : LeR R R') : Rel X (.sl ow sz R') v := by
  cases h with
  | nl _ _ a c => cases hl; exact .nl _ _ _ _
  | sl _ _ _ b off cap n c hg hn hc hs hm hr =>
    rw [hl.length]
    refine .sl ow sz R' b off cap n c hg (by rw [← hl.length]; exact hn) (by rw [← hl.length]; exact hc) (fun i r' hr' => ?_) (fun i j r' u' hr' hu' => ?_) (fun i j r' u' hr' hu' => ?_)
    · obtain ⟨r, h1, h2⟩ := hl.get i r' hr'
      rw [← h2.length]; exact hs i r h1
    · obtain ⟨r, h1, h2⟩ := hl.get i r' hr'
      obtain ⟨u, k1, k2⟩ := h2.get j u' hu'
      exact hm i j r u h1 k1
    · obtain ⟨r, h1, h2⟩ := hl.get i r' hr'
      obtain ⟨u, k1, k2⟩ := h2.get j u' hu'
      exact k2.rel (hr i j r u h1 k1)
theorem ownOk_len {F : Nat → Prop} {X : GW} {sz : Nat} {R R' : List (List AV)} {v : Value} (h : OwnOk F X sz R v) (hl : R.length = R'.length) : OwnOk F X sz R' v := by
  rcases h with ⟨h1, h2⟩ | ⟨b, cap, cs, e, fr, h1, h2, h3, h4, h5, h6⟩
  · left; refine ⟨h1, ?_⟩; subst h2; exact List.length_eq_zero_iff.1 (by rw [← hl]; rfl)
  · right; rw [hl] at h1 h2 h5; exact ⟨b, cap, cs, e, fr, h1, h2, h3, h4, h5, h6⟩
theorem opv_rows_le {ow : Bool} {sz : Nat} {R R' : List (List AV)} (h : OpV P o σ (.sl ow sz R)) (hl : LeR R R') : OpV P o σ (.sl ow sz R') :=
  fun F X a hs => (h F X a hs).mono fun x w' ⟨X', h1, h2, h3, h4, h5⟩ => by
    refine ⟨X', h1, h2, h3, rel_rows_le h4 hl, fun sz' l hq => ?_⟩
    cases ow with
    | false => cases hq
    | true => cases hq; obtain ⟨k1, k2⟩ := h5 _ _ rfl; exact ⟨ownOk_len k1 hl.length, k2⟩
end

theorem run_bounds3 {P : Program} {len cap : Nat} {lo : Option Value} {i j m : Int} {k1 k2 : IntKind} {w : World} (hlo : optV lo i 0) (h1 : 0 ≤ i) (h2 : i ≤ j) (h3 : j ≤ m) (h4 : m ≤ cap) :
    (Instr.sliceBounds true len cap lo (some (.int k1 j)) (some (.int k2 m))).run P w = .ok (i.toNat, j.toNat, m.toNat) w := by
  have hM : ∀ (c : BoundsCode), (Instr.sliceBound (.int k2 m) cap c).run P w = .ok m.toNat w := fun c => run_bound (by omega) h4
  have hB : ∀ (c : BoundsCode), (Instr.sliceBound (.int k1 j) m.toNat c).run P w = .ok j.toNat w := fun c => run_bound (by omega) (by omega)
  have hA : ∀ (k : IntKind) (c : BoundsCode), (Instr.sliceBound (.int k i) j.toNat c).run P w = .ok i.toNat w := fun k c => run_bound h1 (by omega)
  cases lo with
  | none =>
    simp only [optV] at hlo
    subst hlo
    simp [Instr.sliceBounds, hM, hB]
  | some v0 =>
    obtain ⟨k0, rfl⟩ := hlo
    simp [Instr.sliceBounds, hM, hB, hA]
theorem slice3_core {P : Program} {T : Tys P} {σ : AS} {d : Option Tmp} {t ty e : TypeId} {x hi mx : Operand} {pos : String} {af : Array Edge} {g : Option (Nat × Bool)} {lo : Option Operand} {o : Bool} {sz : Nat} {l : List (List AV)} {k1 k2 k3 : IntKind} {i j m : Int} {by_ : Nat} (hx : opV σ x = some (.sl o sz l)) (h0 : look T.ty t = some (.slice e)) (hsz : look T.sz e = some (sz, by_))
    (hlo : optIs σ lo k1 i 0) (hhi : opV σ hi = some (.v (.int k2 j))) (hmx : opV σ mx = some (.v (.int k3 m))) (h1 : 0 ≤ i) (h2 : i ≤ j) (h3 : j ≤ m) (h4 : m ≤ l.length)  {F : Nat → Prop} {X : GW} (ac : Act) (hs : SimR F X σ (.slice t x lo (some hi) (some mx)) ac.tmps) :
    ∃ a', (execOp ac.eval ⟨d, .slice t x lo (some hi) (some mx), ty, pos, af, g⟩).run P X.w = .ok (.value (.slice a' (j.toNat - i.toNat) (m.toNat - i.toNat))) X.w ∧ Rel X (.sl false sz ((l.take j.toNat).drop i.toNat)) (.slice a' (j.toNat - i.toNat) (m.toNat - i.toNat)) := by
  have e1 := opV_rel hs (by simp [Op.operands]) hx
  have e2 := opV_val hs (by cases lo <;> simp [Op.operands]) hhi
  have e3 := opV_val hs (by cases lo <;> simp [Op.operands]) hmx
  have hu := T.tyOk _ _ h0
  obtain ⟨inf, hi1, hi2, hi3⟩ := T.szOk _ _ _ hsz
  have hls : ∀ w : World, (sizeOf e).run P w = .ok sz w := fun w => by simp [sizeOf, typeInfo, hi1, hi2]
  obtain ⟨a0, c0, hform⟩ := rel_sl_form e1
  have hcap : l.length ≤ c0 := by
    rcases rel_sl e1 with ⟨h, hl⟩ | ⟨b, off, cap, n, h, _, _, hc, _⟩
    · rw [hl]; exact Nat.zero_le _
    · rw [hform] at h; cases h; exact hc
  have hB := run_bounds3 (P := P) (len := l.length) (cap := c0) (w := X.w) (k1 := k2) (k2 := k3) (opt_val (q := lo) (k := k1) (i := i) (z := 0) hs (fun p hp => by subst hp; simp [Op.operands]) hlo) h1 h2 h3 (by omega)
  refine ⟨(if m.toNat = i.toNat then a0 else a0.map (·.add (i.toNat * sz))), ?_, ?_⟩
  · simp only [execOp, hform, e2, e3]
    refine run_val ?_
    simp only [Instr.sliceAt, Instr.slice, Option.map_some, e2, e3]
    simp [run_underlying hu, hB, hls]
  · have hlen : ((l.take j.toNat).drop i.toNat).length = j.toNat - i.toNat := by simp; omega
    rcases rel_sl e1 with ⟨⟨a1, c1, h⟩, hl⟩ | ⟨b, off, cap, n, h, hg, hn, hc, c, c1, c2, c3⟩
    · subst hl
      have : j.toNat - i.toNat = 0 := by simp at h4; omega
      rw [this]
      simp only [List.take_nil, List.drop_nil]
      exact .nl _ _ _ _
    · rw [hform] at h; cases h
      rw [← hlen]
      by_cases hci : m.toNat = i.toNat
      · rw [if_pos hci]
        have hnil : (l.take j.toNat).drop i.toNat = [] := List.eq_nil_of_length_eq_zero (by omega)
        rw [hnil]
        exact .sl _ _ [] b off _ n (fun _ _ => undef) hg (by simp; have := Nat.zero_le (l.length * sz); omega) (Nat.zero_le _) (by simp) (by simp) (by simp)
      · rw [if_neg hci]
        simp only [Option.map, add_off]
        have hget : ∀ (q : Nat) (r : List AV), ((l.take j.toNat).drop i.toNat)[q]? = some r → l[i.toNat + q]? = some r := by
          intro q r hr
          rw [List.getElem?_drop, List.getElem?_take] at hr
          split at hr
          · exact hr
          · cases hr
        refine .sl _ _ _ b (off + i.toNat * sz) _ n (fun q p => c (i.toNat + q) p) hg ?_ (by omega) (fun q r hr => c1 _ r (hget q r hr)) (fun q p r u hr hu => ?_) (fun q p r u hr hu => c3 _ p r u (hget q r hr) hu)
        · rw [hlen, Nat.add_assoc, ← Nat.add_mul, show i.toNat + (j.toNat - i.toNat) = j.toNat by omega]
          have : j.toNat * sz ≤ l.length * sz := Nat.mul_le_mul_right _ (by omega)
          omega
        · rw [← c2 (i.toNat + q) p r u (hget q r hr) hu, Nat.add_mul]
          congr 2; omega
theorem opv_slice3 {P : Program} {T : Tys P} {σ : AS} {d : Option Tmp} {t ty e : TypeId} {x hi mx : Operand} {pos : String} {af : Array Edge} {g : Option (Nat × Bool)} {lo : Option Operand} {o : Bool} {sz : Nat} {l : List (List AV)} {k1 k2 k3 : IntKind} {i j m : Int} {by_ : Nat} (hx : opV σ x = some (.sl o sz l)) (h0 : look T.ty t = some (.slice e)) (hsz : look T.sz e = some (sz, by_))
    (hlo : optIs σ lo k1 i 0) (hhi : opV σ hi = some (.v (.int k2 j))) (hmx : opV σ mx = some (.v (.int k3 m))) (h1 : 0 ≤ i) (h2 : i ≤ j) (h3 : j ≤ m) (h4 : m ≤ l.length) :
    OpV P ⟨d, .slice t x lo (some hi) (some mx), ty, pos, af, g⟩ σ (.sl false sz ((l.take j.toNat).drop i.toNat)) :=
  opv_same rfl fun F X ac hs => let ⟨a', h⟩ := slice3_core (d := d) (ty := ty) (pos := pos) (af := af) (g := g) hx h0 hsz hlo hhi hmx h1 h2 h3 h4 ac hs; ⟨_, h⟩
theorem opv_max {P : Program} {σ : AS} {d : Option Tmp} {ty : TypeId} {x y : Operand} {pos : String} {af : Array Edge} {g : Option (Nat × Bool)} {ats : Array TypeId} {k k' : IntKind} {a b : Int} (hx : opV σ x = some (.v (.int k a))) (hy : opV σ y = some (.v (.int k' b))) :
    OpV P ⟨d, .call { callee := .builtin .max, args := #[x, y], argTypes := ats }, ty, pos, af, g⟩ σ (.v (.int k (if a < b then b else a))) := by
  refine opv_same rfl fun F X ac hs => ⟨_, ?_, .v _⟩
  have h1 := opV_val hs (by simp [Op.operands, Call.operands]) hx
  have h2 := opV_val hs (by simp [Op.operands, Call.operands]) hy
  simp [execOp, resolve, invoke, builtin, Builtin.max_, Builtin.max2, h1, h2]
theorem opv_uxor {P : Program} {σ : AS} {d : Option Tmp} {t ty : TypeId} {x : Operand} {pos : String} {af : Array Edge} {g : Option (Nat × Bool)} {op : UnOp} {k : IntKind} {a : Int} (hx : opV σ x = some (.v (.int k a))) (hop : op = .xor) : OpV P ⟨d, .unOp op t x, ty, pos, af, g⟩ σ (.v (.int k (bits .xor k (if k.signed then -1 else k.max) a))) := by
  subst hop
  refine opv_same rfl fun F X ac hs => ⟨_, ?_, .v _⟩
  have h1 := opV_val hs (by simp [Op.operands]) hx
  simp only [execOp, h1]
  refine run_val ?_
  rfl
theorem sub3C_some {α : Type} {l r : List α} {i j m : Int} (h : sub3C l i j m = some r) : 0 ≤ i ∧ i ≤ j ∧ j ≤ m ∧ m ≤ l.length ∧ r = (l.take j.toNat).drop i.toNat := by
  unfold sub3C at h
  split at h
  · rename_i h0; cases h; exact ⟨h0.1, h0.2.1, h0.2.2.1, h0.2.2.2, rfl⟩
  · cases h
section
variable {P : Program} {Y : Tys P} {E : Env} {ρ : Nat → Nat} {σ : TS E.T} {d : Option Tmp} {t t2 yt ty e : TypeId} {x y z : Operand} {pos : String} {af : Array Edge} {g : Option (Nat × Bool)}
theorem opTs_to : ∀ {xs : List Operand} {us : List (TV E.T)}, opTs σ xs = some us → opVs (σ.to E.toEnc ρ) xs = some (us.map (TV.to E.toEnc ρ))
  | [], us, h => by cases h; rfl
  | x :: xs, us, h => by
    simp only [opTs] at h
    split at h
    · rename_i u us' h1 h2
      cases h
      simp only [opVs, opT_to h1, opTs_to h2, List.map_cons]
    · cases h
theorem nilFix_to (t : TypeId) (u : TV E.T) : Le1 (u.to E.toEnc ρ) ((nilFix E t u).to E.toEnc ρ) := by
  unfold nilFix
  split
  · split
    · exact .nil _ _
    · exact .refl _
  · exact .refl _
theorem nilFix_rd_to (t : TypeId) (u : TV E.T) : Le1 (u.to E.toEnc ρ) ((nrm (nilFix E t u).rd).to E.toEnc ρ) := by
  rw [nrm_to, TV.rd_to]; exact (nilFix_to t u).trans (le1_rd _)
theorem own1_rd (u : AV) : own1 (some u.rd) = none := plain_rd u
theorem fixArgs_le : ∀ (ts : List TypeId) (us : List (TV E.T)), us.length = (fixArgs E ts us).length → LeL (us.map (TV.to E.toEnc ρ)) ((fixArgs E ts us).map (TV.to E.toEnc ρ))
  | [], us, _ => by
    simp only [fixArgs, List.map_map]
    induction us with
    | nil => exact .nil
    | cons u us ih => exact .cons (show Le1 _ ((nrm (TV.rd u)).to E.toEnc ρ) by rw [nrm_to, TV.rd_to]; exact le1_rd _) (ih (by simp [fixArgs]))
  | t :: ts, [], _ => .nil
  | t :: ts, u :: us, h => .cons (nilFix_rd_to t u) (fixArgs_le ts us (by simpa [fixArgs] using h))
theorem fixArgs_len : ∀ (ts : List TypeId) (us : List (TV E.T)), us.length = (fixArgs E ts us).length
  | [], us => by simp [fixArgs]
  | t :: ts, [] => rfl
  | t :: ts, u :: us => by simp only [fixArgs, List.length_cons]; rw [fixArgs_len ts us]
theorem fixArgs_plain : ∀ (ts : List TypeId) (us : List (TV E.T)), ((fixArgs E ts us).map (TV.to E.toEnc ρ)).all (fun u => (own1 (some u)).isNone) = true
  | [], us => by
    simp only [fixArgs, List.map_map, List.all_map, List.all_eq_true]
    intro u _
    simp only [Function.comp, nrm_to, TV.rd_to, own1_rd]; rfl
  | t :: ts, [] => rfl
  | t :: ts, u :: us => by
    simp only [fixArgs, List.map_cons, List.all_cons, nrm_to, TV.rd_to, own1_rd, Bool.and_eq_true]
    exact ⟨rfl, fixArgs_plain ts us⟩
theorem cs_to {u : TV E.T} {l : List (TA E.T)} (h : u.cs = some l) : (u.to E.toEnc ρ).cells = l.map (TA.to E.toEnc ρ) ∧ (u.to E.toEnc ρ).okc = true := by
  unfold TV.cs at h
  split at h
  · rename_i x
    split at h
    · rename_i hs
      cases h
      cases x with
      | d t x =>
        cases t with
        | nam i => cases hs
        | ptr t => cases x <;> exact ⟨rfl, rfl⟩
        | _ => exact ⟨rfl, rfl⟩
      | raw v => cases v <;> first | exact ⟨rfl, rfl⟩ | cases hs
      | _ => exact ⟨rfl, rfl⟩
    · cases h
  · cases h; exact ⟨rfl, rfl⟩
  · cases h
theorem map_spl (cs us : List (TA E.T)) (o : Nat) : (spl cs o us).map (TA.to E.toEnc ρ) = splice (cs.map (TA.to E.toEnc ρ)) o (us.map (TA.to E.toEnc ρ)) := by
  simp [spl, splice]
theorem buildT_to {pl : List (Nat × Nat)} : ∀ {is : List Nat} {us : List (TV E.T)} {cs cs' : List (TA E.T)}, buildT pl cs is us = some cs' → buildA Y pl (cs.map (TA.to E.toEnc ρ)) is (us.map (TV.to E.toEnc ρ)) = some (cs'.map (TA.to E.toEnc ρ))
  | [], [], cs, cs', h => by simp only [buildT, Option.some.injEq] at h; subst h; rfl
  | [], _ :: _, cs, cs', h => by simp [buildT] at h
  | _ :: _, [], cs, cs', h => by simp [buildT] at h
  | i :: is, u :: us, cs, cs', h => by
    simp only [buildT] at h
    split at h
    · rename_i off n vs hpl hvs
      obtain ⟨h1, h2⟩ := cs_to (ρ := ρ) hvs
      split at h
      · rename_i hc
        simp only [List.map_cons, buildA, hpl, h1, h2, List.length_map, Bool.true_and, hc]
        rw [← map_spl]
        exact buildT_to h
      · cases h
    · cases h
theorem map_rd_le (l : List (TA E.T)) : LeL (l.map (TA.to E.toEnc ρ)) (l.map fun a => (a.rd.to E.toEnc ρ)) := by
  induction l with
  | nil => exact .nil
  | cons a l ih => exact .cons (show Le1 _ ((TA.rd a).to E.toEnc ρ) by rw [TA.rd_to]; exact le1_rd _) ih
theorem packAll_to {ty : Ty} : ∀ {us : List (TV E.T)} {xs : List (Den E.T ty)}, packAll E ty us = some xs → LeR ((us.map (TV.to E.toEnc ρ)).map AV.cells) (xs.map (cells E.toEnc ty)) ∧ (us.map (TV.to E.toEnc ρ)).all (fun u => u.okc && Nat.beq u.cells.length (csz E.toEnc ty)) = true
  | [], xs, h => by cases h; exact ⟨.nil, rfl⟩
  | u :: us, xs, h => by
    simp only [packAll] at h
    split at h
    · rename_i l xs' h1 h2
      split at h
      · rename_i x hx
        cases h
        obtain ⟨k1, k2⟩ := cs_to (ρ := ρ) h1
        obtain ⟨m1, m2⟩ := packAll_to h2
        have hp := pkT_to E ρ hx
        simp only [List.map_nil, List.append_nil] at hp
        have hle := (map_rd_le (ρ := ρ) l).trans hp
        refine ⟨?_, ?_⟩
        · simp only [List.map_cons]
          exact .cons (by rw [k1]; exact hle) m1
        · simp only [List.map_cons, List.all_cons, k1, k2, Bool.true_and, Bool.and_eq_true]
          refine ⟨?_, m2⟩
          rw [hle.length, cells_len]
          exact Nat.beq_refl _
      · cases h
    · cases h
theorem atoms_to : ∀ {us : List (TV E.T)} {xs : List (TA E.T)}, atoms us = some xs → us.map (TV.to E.toEnc ρ) = xs.map (TA.to E.toEnc ρ)
  | [], xs, h => by cases h; rfl
  | .a x :: us, xs, h => by
    simp only [atoms] at h
    split at h
    · rename_i xs' h2; cases h; simp only [List.map_cons, atoms_to h2]; rfl
    · cases h
  | .ag _ :: _, _, h => by cases h
  | .el _ :: _, _, h => by cases h
  | .tu _ :: _, _, h => by cases h
  | .fn _ _ :: _, _, h => by cases h
  | .ifc _ _ :: _, _, h => by cases h
theorem isMpB_ne : ∀ {cs : List AV}, (∀ u ∈ cs, u.isMp = false) → isMpB cs = false
  | [], _ => rfl
  | [u], h => by
    have := h u List.mem_cons_self
    cases u with
    | mp l => cases this
    | _ => rfl
  | u :: u' :: r, _ => by cases u <;> rfl
theorem notMpB (cs : List (TA E.T)) : isMpB (cs.map (TA.to E.toEnc ρ)) = false := isMpB_ne fun u hu => by
  obtain ⟨c, _, rfl⟩ := List.mem_map.1 hu
  exact TA.to_notMp E.toEnc ρ c
theorem bndT_to {q : Option Operand} {i z : Int} (h : bndT σ q z = some i) : optIs (σ.to E.toEnc ρ) q .i64 i z := by
  unfold bndT at h
  cases q with
  | none => simp only [Option.some.injEq] at h; exact h.symm
  | some q =>
    simp only at h
    split at h
    · rename_i j hj; cases h; exact asI_to hj
    · cases h
theorem idxC_some {α : Type} {l : List α} {i : Int} {z : α} (h : idxC l i = some z) : 0 ≤ i ∧ i < l.length ∧ l[i.toNat]? = some z := by
  unfold idxC at h
  split at h
  · rename_i h0; have := (List.getElem?_eq_some_iff.1 h).1; exact ⟨h0, by omega, h⟩
  · cases h
theorem subC_some {α : Type} {l r : List α} {i j : Int} (h : subC l i j = some r) : 0 ≤ i ∧ i ≤ j ∧ j ≤ l.length ∧ r = (l.take j.toNat).drop i.toNat := by
  unfold subC at h
  split at h
  · rename_i h0; cases h; exact ⟨h0.1, h0.2.1, h0.2.2, rfl⟩
  · cases h
theorem beq_of {a b : Nat} (h : Nat.beq a b = true) : a = b := Nat.eq_of_beq_eq_true h
theorem evConv_ok : (evConv Y E σ t t2 x).ok fun u => OpV P ⟨d, .convert t t2 x, ty, pos, af, g⟩ (σ.to E.toEnc ρ) (u.to E.toEnc ρ) := by
  unfold evConv
  split
  · rename_i d0 k h0 h1
    split
    · rename_i k0 n hn
      simp only [PV.ok, mkI_wrap]
      exact opv_conv_int (T := Y) (asI_to hn) h0 h1
    · trivial
  · rename_i h0 h1
    split
    · rename_i s hs; exact opv_conv_str (T := Y) (asS_to hs) h0 h1
    · trivial
  · rename_i e h0 h1
    split
    · rename_i l he hl
      obtain ⟨o, ho⟩ := asL_to (ρ := ρ) hl
      exact opv_bytes_str (T := Y) (o := o) (L := l) ho h0 he h1
    · trivial
  · rename_i e h0 h1
    split
    · rename_i s he hs
      exact opv_str_bytes (T := Y) (s := mkB s) (asS_to hs) h0 h1 he
    · trivial
  · trivial
theorem evBin_ok {op : BinOp} : (evBin Y σ op t x y).ok fun u => OpV P ⟨d, .binOp op t x y yt, ty, pos, af, g⟩ (σ.to E.toEnc ρ) (u.to E.toEnc ρ) := by
  have nu : ∀ k, notU8 k = true → k ≠ .u8 := fun k h e => by subst e; cases h
  unfold evBin
  split
  · split
    · rename_i k a k' b hx hy
      intro z hz
      unfold shlC at hz
      split at hz
      · rename_i hb; cases hz; rw [mkI_wrap]; exact opv_shl (asI_to hx) (asI_to hy) rfl hb
      · cases hz
    · trivial
  · split
    · rename_i k a k' b hx hy
      split
      · rename_i hk
        intro z hz
        unfold shrC at hz
        split at hz
        · rename_i hb; cases hz; rw [mkI_to _ _ (fun h => absurd h (nu k hk))]; exact opv_shr (asI_to hx) (asI_to hy) rfl hb
        · cases hz
      · rename_i hk
        have hk8 : k = .u8 := isU8 (by rw [hk]; intro h; cases h)
        subst hk8
        intro z hz
        obtain ⟨r, h1, h2⟩ := u8C_some hz
        unfold shrC at h1
        split at h1
        · rename_i hb
          cases h1
          have := opv_shr (P := P) (d := d) (t := t) (yt := yt) (ty := ty) (pos := pos) (af := af) (g := g) (asI_to (ρ := ρ) hx) (asI_to (ρ := ρ) hy) rfl hb
          rw [← h2] at this
          exact this
        · cases h1
    · trivial
  · split
    · rename_i k a k' b hx hy
      split
      · rename_i e; subst e; exact binI_ok (asI_to hx) (asI_to hy)
      · trivial
    · split
      · rename_i a b hx hy; exact binS_ok (asS_to hx) (asS_to hy)
      · split
        · rename_i a b hx hy h0 _ _; exact opv_beqlH (Y := Y) (asB_to hx) (asB_to hy) rfl h0
        · rename_i a b hx hy h0 _ _; exact opv_bneqH (Y := Y) (asB_to hx) (asB_to hy) rfl h0
        · trivial
end
end Go.Proofs.YtgmlkhfjhogdbaaGreat

/- Regions that draw, with one operation among them that turns a box. -/
namespace Go.Proofs.YtgmlkhfjhogdbaaGreat
open Go.RowKit P
set_option linter.unusedSimpArgs false
set_option linter.unusedVariables false

/-- Other boxes. -/
def AS.withH (σ : AS) (h : List (Nat × List AV)) : AS := { n := σ.n, t := σ.t, h := h, e := σ.e }
def noBox {α : Type} (k : Nat) : List (Nat × α) → List (Nat × α)
  | [] => []
  | p :: r => if p.1 = k then noBox k r else p :: noBox k r
theorem noBox_look {α : Type} {k' k : Nat} {a : α} : ∀ {h : List (Nat × α)}, look (noBox k' h) k = some a → k ≠ k' ∧ look h k = some a
  | [], h => by simp [noBox, look_nil] at h
  | (q, b) :: r, h => by
    simp only [noBox] at h
    by_cases e : q = k'
    · rw [if_pos e] at h
      obtain ⟨h1, h2⟩ := noBox_look h
      refine ⟨h1, ?_⟩
      rw [look_cons, if_neg (by rw [e]; exact h1)]; exact h2
    · rw [if_neg e, look_cons] at h
      by_cases e2 : k = q
      · rw [if_pos e2] at h
        rw [look_cons, if_pos e2]
        exact ⟨by rw [e2]; exact e, h⟩
      · rw [if_neg e2] at h
        obtain ⟨h1, h2⟩ := noBox_look h
        rw [look_cons, if_neg e2]; exact ⟨h1, h2⟩
theorem setc_h (σ : AS) (k : Nat) (cs : List AV) : (σ.setc k cs).h = (k, cs) :: σ.h := rfl
def drawLB (l body : List Oper) (om oa : Oper) (after : List Oper) : Bool :=
  lexFrom 0 l && settledAllB l body body 0 && dstsB body [] && settledB l body.length om body 0 && (om.guard.isNone && om.dst.isNone) && chainB after (body.length + 1) && coverG ((body ++ [om]).map depsOf).reverse (depsOf oa)
section
variable {P : Program} {Q : Exit → AS → Prop} {ks : List It} {T : Tys P} {σ : AS} {K : AS → Prop} {l body after rest : List Oper} {om oa o : Oper} {d k : Nat} {u : AV}
/-- A region that draws: what turns nothing in whatever order, and one that turns a box somewhere among it; then the rest as the text goes. What turns nothing is reckoned without that box. -/
theorem ar_drawL {id k' : Nat} (hm : P.follows .mixedOrders = true) (hl : l = body ++ om :: oa :: after) (hB : drawLB l body om oa after = true) (he : σ.e = [])
    (h : QSem P l (fun σ' => ∃ cs' : List AV, (∀ σ1 : AS, σ1.n = σ.n → σ1.e = [] → σ1.h = σ.h → (∀ t, Operand.tmp t ∈ om.op.operands.toList → look σ1.t t = look σ'.t t) → EffTo P om σ1 (σ1.setc k' cs')) ∧ ARun P Q (.o l (body.length + 1) (oa :: after) :: ks) (((σ'.withH σ.h).setc k' cs').als (slotMoves body))) body (σ.withH (noBox k' σ.h))) : ARun P Q (.c (.region id l.toArray true) :: ks) σ := by
  intro F X a hs D hdf
  obtain ⟨us, hul, ⟨cs', hom, hK⟩, hstep⟩ := q_table body (σ.withH (noBox k' σ.h)) h
  simp only [drawLB, Bool.and_eq_true] at hB
  obtain ⟨⟨⟨⟨⟨⟨hx, hset⟩, hdst⟩, hsom⟩, hgd⟩, hchn⟩, hcov⟩ := hB
  have hguard : om.guard = none := by
    cases hg : om.guard with
    | none => rfl
    | some p => rw [hg] at hgd; simp at hgd
  have hodst : om.dst = none := by
    cases hg : om.dst with
    | none => rfl
    | some p => rw [hg] at hgd; simp at hgd
  have hdis := (dstsB_spec body [] hdst).2
  have hlb : ∀ i, i < body.length → l[i]? = body[i]? := fun i hi => by rw [hl, List.getElem?_append_left hi]
  have hlo : l[body.length]? = some om := by rw [hl]; simp
  have hla : l[body.length + 1]? = some oa := by rw [hl]; simp
  have hll : body.length + 1 < l.length := by rw [hl]; simp
  have hlex : ∀ (i : Nat) o, l[i]? = some o → ∀ j ∈ depsOf o, j < i := by
    intro i o ho j hj
    have := lexFrom_spec l 0 i o hx ho j hj
    omega
  have hch : ∀ (i : Nat) o, body.length + 1 < i → l[i]? = some o → i - 1 ∈ depsOf o := by
    intro i o hi ho
    obtain ⟨j, hj⟩ : ∃ j, i = body.length + 1 + 1 + j := ⟨i - body.length - 1 - 1, by omega⟩
    have hoa : after[j]? = some o := by
      rw [hl, List.getElem?_append_right (by omega)] at ho
      rw [show i - body.length = j + 1 + 1 by omega] at ho
      simpa using ho
    have := chainB_get hchn j o hoa
    rwa [show i - 1 = body.length + 1 + j by omega]
  refine wp_region_any hm ?_
  let Inv : Array Bool → GW → Act → Prop := fun listed X1 a1 => ∃ σ1 : AS, SimE F X1 σ1 a1.tmps ∧ σ1.n = σ.n ∧ σ1.h = (if listed.getD body.length false = true then (σ.setc k' cs').h else σ.h) ∧ σ1.e = [] ∧
    (∀ (i : Nat) o d u, body[i]? = some o → us[i]? = some u → o.dst = some d → listed.getD i false = true → look σ1.t d = some u) ∧
    (∀ t, (∀ (i : Nat) o, body[i]? = some o → o.dst = some t → listed.getD i false = false) → look σ1.t t = look σ.t t) ∧
    (∀ (i : Nat) o d s, body[i]? = some o → o.dst = some d → o.op = .move (.tmp s) → o.guard = none → (∀ (q : Nat) oq, body[q]? = some oq → oq.dst ≠ some s) → listed.getD i false = true → a1.tmps.getD d undef = a1.tmps.getD s undef)
  have ready_of : ∀ (listed : Array Bool), listed.size = l.length → listed.getD (body.length + 1) false = false → Region.ready .any l.toArray listed ≠ [] := by
    intro listed hsz hlast hnil
    obtain ⟨k, hk, hkf, hkl⟩ := first_false (fun j => listed.getD j false) (body.length + 1 + 1) ⟨body.length + 1, by omega, hlast⟩
    have hkl2 : k < l.length := by omega
    have hmem : k ∈ Region.ready .any l.toArray listed := by
      refine mem_ready.2 ⟨by rw [getD_tf (by omega)]; exact hkf, l[k], by simp [hkl2], fun e he hb => ?_⟩
      exact hkl e.on (hlex k l[k] (List.getElem?_eq_getElem hkl2) e.on (mem_depsOf.2 ⟨e, he, hb, rfl⟩))
    rw [hnil] at hmem; cases hmem
  have key : ∀ (fuel : Nat) (listed : Array Bool) (X1 : GW) (a1 : Act), listed.size = l.length → (∀ j, body.length + 1 ≤ j → listed.getD j false = false) →
      ((List.range l.length).filter (fun i => !listed.getD i true)).length ≤ fuel → Ext F X X1 → a1.defers = D → Inv listed X1 a1 →
      (∀ j oj, l[j]? = some oj → listed.getD j false = true → ∀ d ∈ depsOf oj, listed.getD d false = true) →
      wpAny P .any l.toArray (PostA F X D (Stk P Q ks)) fuel listed a1 X1.w := by
    intro fuel
    induction fuel with
    | zero =>
      intro listed X1 a1 hsz hlast hf hx1 hd1 hI hdn
      have h0 := List.length_eq_zero_iff.1 (Nat.le_zero.1 hf)
      have := List.filter_eq_nil_iff.1 h0 (body.length + 1) (List.mem_range.2 (by omega))
      rw [getD_tf (by omega), hlast _ (Nat.le_refl _)] at this; exact absurd rfl this
    | succ fuel ih =>
      intro listed X1 a1 hsz hlast hf hx1 hd1 hI hdn
      refine ⟨fun hnil => absurd hnil (ready_of listed hsz (hlast _ (Nat.le_refl _))), fun i hi => ?_⟩
      obtain ⟨h1, o, h2, h3⟩ := mem_ready.1 hi
      have h2l : l[i]? = some o := by simpa using h2
      have hil : i < l.length := (List.getElem?_eq_some_iff.1 h2l).1
      have hlf : listed.getD i false = false := by rw [← getD_tf (by omega)]; exact h1
      obtain ⟨σ1, s1, s2, s3, se, s4, s5, s6⟩ := hI
      -- what is seen is as in the text's order
      have hsee0 : ∀ (i : Nat) (o : Oper), l[i]? = some o → i ≤ body.length → settledB l i o body 0 = true → listed.getD i false = false → (∀ e ∈ o.after, Region.binds .any e = true → listed.getD e.on false = true) → ∀ t, t ∈ seesOf l o → look (puts (σ.withH (noBox k' σ.h)) (body.take i) (us.take i)).t t = look σ1.t t := by
        intro i o h2l hib hset1 hlf h3 t ht
        rw [puts_look _ _ _ _ (by simp; omega) (fun q q' o1 o2 d h1 h2 h3 h4 => by
          rw [List.getElem?_take] at h1 h2
          split at h1
          · split at h2
            · exact hdis q q' o1 o2 d h1 h2 h3 h4
            · cases h2
          · cases h1)]
        cases hf : ((body.take i).zip (us.take i)).find? (fun p => p.1.dst == some t) with
        | some p =>
          have hmem := List.mem_of_find?_eq_some hf
          have hpd : p.1.dst = some t := by simpa using List.find?_some hf
          obtain ⟨q, hq⟩ := List.getElem?_of_mem hmem
          rw [List.getElem?_zip_eq_some, List.getElem?_take, List.getElem?_take] at hq
          have hqi : q < i := by
            apply Classical.byContradiction
            intro hc
            rw [if_neg hc] at hq; cases hq.1
          rw [if_pos hqi, if_pos hqi] at hq
          obtain ⟨d', hd', hs'⟩ := settledB_spec body 0 q p.1 hset1 hq.1
          rw [hpd] at hd'; cases hd'
          have hdep := (hs' ht (by omega)).1 (by omega)
          rw [Nat.zero_add] at hdep
          obtain ⟨e, he1, he2, he3⟩ := mem_depsOf.1 hdep
          have hq3 : listed.getD q false = true := by rw [← he3]; exact h3 e he1 he2
          rw [s4 q p.1 t p.2 hq.1 hq.2 hpd hq3]
        | none =>
          simp only
          symm
          refine s5 t fun j oj hj hjd => ?_
          have hjl := (List.getElem?_eq_some_iff.1 hj).1
          by_cases hji : j < i
          · have hmem : (oj, us[j]'(by omega)) ∈ (body.take i).zip (us.take i) := by
              refine List.mem_of_getElem? (i := j) (List.getElem?_zip_eq_some.2 ⟨?_, ?_⟩)
              · rw [List.getElem?_take, if_pos hji]; exact hj
              · rw [List.getElem?_take, if_pos hji]; exact List.getElem?_eq_getElem (by omega)
            exact absurd (by simpa using hjd) (List.find?_eq_none.1 hf _ hmem)
          · by_cases hje : j = i
            · subst hje; exact hlf
            · obtain ⟨d', hd', hs'⟩ := settledB_spec body 0 j oj hset1 hj
              rw [hjd] at hd'; cases hd'
              have hdep := (hs' ht (by omega)).2 (by omega)
              cases hc : listed.getD j false
              · rfl
              · have := hdn j oj (by rw [hlb j hjl]; exact hj) hc i hdep
                rw [hlf] at this; cases this
      have hR0 : ∀ (i : Nat) (o : Oper), l[i]? = some o → i ≤ body.length → settledB l i o body 0 = true → listed.getD i false = false → (∀ e ∈ o.after, Region.binds .any e = true → listed.getD e.on false = true) → SimR F X1 (puts (σ.withH (noBox k' σ.h)) (body.take i) (us.take i)) o.op a1.tmps := by
        intro i o h2l hib hset1 hlf h3
        refine ⟨s1.gb, s1.fb, fun t u ht hu => ?_, fun k cs hk => ?_⟩
        · rw [hsee0 i o h2l hib hset1 hlf h3 t (by simp only [seesOf]; exact List.mem_append_left _ (mem_tmpsOf ht))] at hu
          exact s1.slot t u hu
        · rw [puts_h] at hk
          obtain ⟨hk1, hk2⟩ := noBox_look hk
          refine s1.box k cs ?_
          rw [s3]
          split
          · rw [setc_h, look_cons, if_neg hk1]; exact hk2
          · exact hk2
      unfold wpOp
      simp only [h2]
      by_cases hib : i < body.length
      · have h2' : body[i]? = some o := by rw [← hlb i hib]; exact h2l
        have hui : us[i]? = some us[i] := List.getElem?_eq_getElem (by omega)
        obtain ⟨d, hod, hdn2, hcase⟩ := hstep i o us[i] h2' hui
        have hset1 : settledB l i o body 0 = true := by have := settledAllB_spec body 0 i o hset h2'; rwa [Nat.zero_add] at this
        have hsee := hsee0 i o h2l (by omega) hset1 hlf h3
        have hwan : wantedA l (puts (σ.withH (noBox k' σ.h)) (body.take i) (us.take i)) o = wantedA l σ1 o := by
          refine (wantedA_congr (by rw [puts_n, s2]; rfl) fun j want d0 hg hd0 => hsee d0 ?_)
          simp only [seesOf, hg, hd0]; simp
        have hdz : d < a1.tmps.size := by rw [s1.size, s2]; exact lt_of_ble hdn2
        have go : ∀ (v : Value) (X2 : GW), (∀ s, o.op = .move (.tmp s) → o.guard = none → v = a1.tmps.getD s undef) → New X1 X2 → (∀ b n, X2.g b = some n → b < X2.w.heap.size) → Rel X2 us[i] v → FreshOk F X1.w.heap.size X2 us[i] v → wpAny P .any l.toArray (PostA F X D (Stk P Q ks)) fuel (listed.setIfInBounds i true) (a1.put o.dst v) X2.w := by
          intro v X2 hv2 hn2 hg2 hr2 hf2
          refine ih (listed.setIfInBounds i true) X2 (a1.put o.dst v) (by simp [hsz]) (fun j hj => by rw [getD_setb false (by omega), if_neg (by omega)]; exact hlast j hj) ?_ (hx1.trans (hn2.ext s1.gb s1.fb)) (by rw [put_defers]; exact hd1) ?_ ?_
          · have := count_set hil hsz h1
            omega
          · refine ⟨σ1.put d us[i], ?_, s2, by rw [getD_setb false (by omega), if_neg (show ¬ body.length = i by omega)]; exact s3, by simp [AS.put, se], fun j oj dj uj hj huj hdj hlj => ?_, fun t ht => ?_, fun j oj dj sj hj hdj hopj hgj hsj hlj => ?_⟩
            · rw [hod]
              exact s1.put_new (by rw [s2]; exact lt_of_ble hdn2) hn2 hg2 hr2 hf2
            · simp only [AS.put, look_cons]
              by_cases e : j = i
              · subst e
                rw [h2'] at hj; cases hj
                rw [hod] at hdj; cases hdj
                rw [if_pos rfl, ← huj, hui]
              · have hne : dj ≠ d := fun e2 => e (hdis j i oj o d hj h2' (by rw [hdj, e2]) hod)
                rw [if_neg hne]
                rw [getD_setb false (by omega), if_neg e] at hlj
                exact s4 j oj dj uj hj huj hdj hlj
            · have hne : t ≠ d := by
                rintro rfl
                have := ht i o h2' hod
                rw [getD_setb false (by omega), if_pos rfl] at this; cases this
              simp only [AS.put, look_cons]
              rw [if_neg hne]
              refine s5 t fun j oj hj hjd => ?_
              have := ht j oj hj hjd
              rw [getD_setb false (by omega)] at this
              by_cases e : j = i
              · rw [if_pos e] at this; cases this
              · rw [if_neg e] at this; exact this
            · have hds : d ≠ sj := fun e => hsj i o h2' (by rw [hod, e])
              rw [hod]
              have hset : ∀ (x : Nat), (a1.put (some d) v).tmps.getD x undef = if x = d then v else a1.tmps.getD x undef := by
                intro x
                simp only [Act.put, Array.getD_eq_getD_getElem?, Array.getElem?_setIfInBounds]
                by_cases e : d = x
                · subst e; rw [if_pos rfl, if_pos hdz, if_pos rfl]; rfl
                · rw [if_neg e, if_neg (Ne.symm e)]
              rw [hset, hset, if_neg (Ne.symm hds)]
              by_cases e : j = i
              · subst e
                rw [h2'] at hj; cases hj
                rw [hod] at hdj; cases hdj
                rw [if_pos rfl]
                exact hv2 sj hopj hgj
              · have hne : dj ≠ d := fun e2 => e (hdis j i oj o d hj h2' (by rw [hdj, e2]) hod)
                rw [if_neg hne]
                rw [getD_setb false (by omega), if_neg e] at hlj
                exact s6 j oj dj sj hj hdj hopj hgj hsj hlj
          · intro j oj hoj hj dd hdd
            rw [getD_setb false (by omega)]
            by_cases e : dd = i
            · rw [if_pos e]
            · rw [if_neg e]
              by_cases e2 : j = i
              · subst e2
                rw [h2l] at hoj; cases hoj
                obtain ⟨x, hx1, hx2, hx3⟩ := mem_depsOf.1 hdd
                rw [← hx3]; exact h3 x hx1 hx2
              · rw [getD_setb false (by omega), if_neg e2] at hj
                exact hdn j oj hoj hj dd hdd
        rcases hcase with ⟨hw, hop⟩ | ⟨hw, hun⟩
        · rw [hwan] at hw
          rw [if_pos (wanted_of s1 hw)]
          left
          have hrun := hop F X1 a1 (hR0 i o h2l (by omega) hset1 hlf h3)
          have hrun2 : Runs P o a1 X1.w fun x w' => (∀ s, o.op = .move (.tmp s) → o.guard = none → x = a1.tmps.getD s undef) ∧ ∃ X' : GW, X'.w = w' ∧ New X1 X' ∧ (∀ b n, X'.g b = some n → b < X'.w.heap.size) ∧ Rel X' us[i] x ∧ FreshOk F X1.w.heap.size X' us[i] x := by
            by_cases hmv : ∃ s, o.op = .move (.tmp s)
            · obtain ⟨s, hs⟩ := hmv
              have hex : (execOp a1.eval o).run P X1.w = .ok (.value (a1.tmps.getD s undef)) X1.w := by
                obtain ⟨dst, op, ty, pos, af, g⟩ := o
                simp only at hs
                subst hs
                rfl
              unfold Runs at hrun ⊢
              rw [hex] at hrun ⊢
              exact ⟨fun s' h' _ => by rw [hs] at h'; cases h'; rfl, hrun⟩
            · exact hrun.mono fun x w' h => ⟨fun s h' => absurd ⟨s, h'⟩ hmv, h⟩
          refine hrun2.wp fun x w' ⟨k0, X2, k1, k2, k3, k4, k5⟩ => ?_
          subst k1
          exact go x X2 k0 k2 k3 k4 k5
        · rw [hwan] at hw
          rw [if_neg (by rw [wanted_of s1 hw]; simp)]
          refine go undef X1 (fun s _ hg => ?_) (New.refl X1) s1.gb (by rw [hun]; exact .v _) (by rw [hun]; exact FreshOk.plain rfl)
          · exfalso
            unfold wantedA at hw
            rw [hg] at hw
            cases hw
      · by_cases hio : i = body.length
        · subst hio
          rw [hlo] at h2l; cases h2l
          have hsee := hsee0 body.length om hlo (Nat.le_refl _) hsom hlf h3
          have hof : listed.getD body.length false = false := hlf
          rw [if_neg (by rw [hof]; decide)] at s3
          have hrun := hom σ1 s2 se s3 (fun t ht => by
            have := hsee t (by simp only [seesOf]; exact List.mem_append_left _ (mem_tmpsOf ht))
            rw [List.take_of_length_le (Nat.le_refl _), List.take_of_length_le (by omega)] at this
            exact this.symm) (fun σ2 => σ2 = σ1.setc k' cs') rfl F X1 a1 s1
          have hw : Region.wanted om (yielded l.toArray a1.tmps) = true := by unfold Region.wanted; rw [hguard]
          rw [if_pos hw]
          left
          refine hrun.wp fun x w' ⟨X2, σ2, k1, k2, k3, k4⟩ => ?_
          subst k1 k2
          rw [hodst] at k3 ⊢
          refine ih (listed.setIfInBounds body.length true) X2 (a1.put none x) (by simp [hsz]) (fun j hj => by rw [getD_setb false (by omega), if_neg (by omega)]; exact hlast j (by omega)) ?_ (hx1.trans k4) (by rw [put_defers]; exact hd1) ?_ ?_
          · have := count_set hil hsz h1
            omega
          · refine ⟨σ1.setc k' cs', k3, s2, ?_, ?_, fun j oj dj uj hj huj hdj hlj => ?_, fun t ht => ?_, fun j oj dj sj hj hdj hopj hgj hsj hlj => ?_⟩
            · rw [getD_setb false (by omega), if_pos rfl, if_pos rfl, setc_h, setc_h, s3]
            · simp [AS.setc, AS.dropC, se]
            · rw [getD_setb false (by omega), if_neg (by have := (List.getElem?_eq_some_iff.1 hj).1; omega)] at hlj
              exact s4 j oj dj uj hj huj hdj hlj
            · refine s5 t fun j oj hj hjd => ?_
              have := ht j oj hj hjd
              rw [getD_setb false (by omega), if_neg (by have := (List.getElem?_eq_some_iff.1 hj).1; omega)] at this
              exact this
            · rw [getD_setb false (by omega), if_neg (by have := (List.getElem?_eq_some_iff.1 hj).1; omega)] at hlj
              exact s6 j oj dj sj hj hdj hopj hgj hsj hlj
          · intro j oj hoj hj dd hdd
            rw [getD_setb false (by omega)]
            by_cases e : dd = body.length
            · rw [if_pos e]
            · rw [if_neg e]
              by_cases e2 : j = body.length
              · subst e2
                rw [hlo] at hoj; cases hoj
                obtain ⟨x, hx1, hx2, hx3⟩ := mem_depsOf.1 hdd
                rw [← hx3]; exact h3 x hx1 hx2
              · rw [getD_setb false (by omega), if_neg e2] at hj
                exact hdn j oj hoj hj dd hdd
        have hie : i = body.length + 1 := by
          apply Classical.byContradiction
          intro hne
          obtain ⟨e, he1, he2, he3⟩ := mem_depsOf.1 (hch i o (by omega) h2l)
          have h9 := h3 e he1 he2
          rw [he3, hlast (i - 1) (by omega)] at h9; cases h9
        subst hie
        rw [hla] at h2l; cases h2l
        have hall1 : ∀ j, j < body.length + 1 → listed.getD j false = true := by
          intro j hj
          refine coverG_spec (p := fun j => listed.getD j false = true) hcov (fun q hq => ?_) (fun i d hi hli q hq => ?_) j (by simpa using hj)
          · obtain ⟨e, he1, he2, he3⟩ := mem_depsOf.1 hq
            rw [← he3]; exact h3 e he1 he2
          · rw [List.reverse_reverse, List.getElem?_map, Option.map_eq_some_iff] at hi
            obtain ⟨oi, hi1, rfl⟩ := hi
            have hil2 := (List.getElem?_eq_some_iff.1 hi1).1
            refine hdn i oi ?_ hli q hq
            rw [hl, show body ++ om :: oa :: after = (body ++ [om]) ++ oa :: after by simp, List.getElem?_append_left hil2]; exact hi1
        have hallb : ∀ j, j < body.length → listed.getD j false = true := fun j hj => hall1 j (by omega)
        rw [if_pos (hall1 body.length (by omega))] at s3
        have hfin : SimE F X1 (((puts (σ.withH (noBox k' σ.h)) body us).withH σ.h).setc k' cs') a1.tmps := by
          refine s1.sub (by rw [s2]; exact puts_n body us (σ.withH (noBox k' σ.h))) (fun t u hu => ?_) (fun k cs hk => by rw [s3]; exact hk) (fun p hp => by
            have he0 := puts_e body us (σ.withH (noBox k' σ.h)) he
            have he1 : (((puts (σ.withH (noBox k' σ.h)) body us).withH σ.h).setc k' cs').e = [] := by
              have : ((puts (σ.withH (noBox k' σ.h)) body us).withH σ.h).e = [] := he0
              simp only [AS.setc, AS.dropC]
              rw [this]; rfl
            rw [he1] at hp; cases hp)
          have hu : look (puts (σ.withH (noBox k' σ.h)) body us).t t = some u := hu
          rw [puts_look body us (σ.withH (noBox k' σ.h)) t hul hdis] at hu
          cases hf : (body.zip us).find? (fun p => p.1.dst == some t) with
          | some p =>
            rw [hf] at hu
            cases hu
            have hmem := List.mem_of_find?_eq_some hf
            have hpd : p.1.dst = some t := by simpa using List.find?_some hf
            obtain ⟨q, hq⟩ := List.getElem?_of_mem hmem
            rw [List.getElem?_zip_eq_some] at hq
            exact s4 q p.1 t p.2 hq.1 hq.2 hpd (hallb q (List.getElem?_eq_some_iff.1 hq.1).1)
          | none =>
            rw [hf] at hu
            rw [← hu]
            refine s5 t fun i o ho hod => ?_
            have hil := (List.getElem?_eq_some_iff.1 ho).1
            have hui : us[i]? = some us[i] := List.getElem?_eq_getElem (by omega)
            have := List.find?_eq_none.1 hf (o, us[i]) (List.mem_of_getElem? (List.getElem?_zip_eq_some.2 ⟨ho, hui⟩))
            exact absurd (by simpa using hod) this
        have hfin2 : SimE F X1 ((((puts (σ.withH (noBox k' σ.h)) body us).withH σ.h).setc k' cs').als (slotMoves body)) a1.tmps := by
          refine als_sim hfin fun p hp => ?_
          unfold slotMoves at hp
          obtain ⟨o, ho1, ho2⟩ := List.mem_filterMap.1 hp
          obtain ⟨i, hi⟩ := List.getElem?_of_mem ho1
          split at ho2
          · rename_i d s hd' hop' hg'
            split at ho2
            · rename_i hall
              cases ho2
              refine s6 i o d s hi hd' hop' hg' (fun q oq hq hq' => ?_) (hallb i (List.getElem?_eq_some_iff.1 hi).1)
              have := List.all_eq_true.1 hall oq (List.mem_of_getElem? hq)
              rw [hq'] at this
              simp at this
            · cases ho2
          · cases ho2
        have hrun := hK F X1 a1 hfin2 D hd1
        have hn : l.length - (body.length + 1) = after.length + 1 := by
          rw [hl]; simp only [List.length_append, List.length_cons]; omega
        rw [hn, List.range'_succ, wpOps_cons] at hrun
        have hcnt : after.length ≤ fuel := by
          have hsub : (List.range' (body.length + 1) (after.length + 1)).length ≤ ((List.range l.length).filter (fun i => !listed.getD i true)).length := by
            refine List.Sublist.length_le ?_
            have e1 : List.range l.length = List.range' 0 (body.length + 1) ++ List.range' (body.length + 1) (after.length + 1) := by
              have := List.range'_append_1 (s := 0) (m := body.length + 1) (n := after.length + 1)
              rw [Nat.zero_add] at this
              rw [List.range_eq_range', this, show l.length = body.length + 1 + (after.length + 1) by rw [hl]; simp only [List.length_append, List.length_cons]; omega]
            rw [e1, List.filter_append]
            refine List.Sublist.trans ?_ (List.sublist_append_right _ _)
            have : (List.range' (body.length + 1) (after.length + 1)).filter (fun i => !listed.getD i true) = List.range' (body.length + 1) (after.length + 1) := by
              rw [List.filter_eq_self]
              intro q hq
              obtain ⟨hq1, hq2⟩ := List.mem_range'_1.1 hq
              rw [getD_tf (by omega), hlast q hq1]; rfl
            rw [this]
            exact List.Sublist.refl _
          rw [List.length_range'] at hsub
          omega
        have hrun' := wpOp_mono (K' := wpAny P .any l.toArray (PostA F X1 D (Stk P Q ks)) fuel (listed.setIfInBounds (body.length + 1) true)) (fun a' w' h' => chain_any hlex hch after.length (body.length + 1 + 1) fuel (listed.setIfInBounds (body.length + 1) true) a' w' (by omega) (by omega) (by simp [hsz]) (fun j hj => by
          rw [getD_setb false (by omega)]
          by_cases e : j = body.length + 1
          · rw [if_pos e]
          · rw [if_neg e]; exact hall1 j (by omega)) (fun j hj => by rw [getD_setb false (by omega), if_neg (by omega)]; exact hlast j (by omega)) hcnt h') hrun
        unfold wpOp at hrun'
        simp only [h2] at hrun'
        have hmono := wpAny_mono' (P := P) (ops := l.toArray) (R := PostA F X1 D (Stk P Q ks)) (R' := PostA F X D (Stk P Q ks)) (fun e a w hp => hp.ext hx1)
        have := wpOp_mono2 (P := P) (ops := l.toArray) (R := PostA F X1 D (Stk P Q ks)) (R' := PostA F X D (Stk P Q ks)) (fun e a w hp => hp.ext hx1) (i := body.length + 1) (K := wpAny P .any l.toArray (PostA F X1 D (Stk P Q ks)) fuel (listed.setIfInBounds (body.length + 1) true)) (K' := wpAny P .any l.toArray (PostA F X D (Stk P Q ks)) fuel (listed.setIfInBounds (body.length + 1) true)) (fun a w h => hmono fuel _ a w h) (a := a1) (w := X1.w) (by unfold wpOp; simp only [h2]; exact hrun')
        unfold wpOp at this
        simp only [h2] at this
        exact this
  have hXd : New X ⟨X.w.drew, X.g⟩ := ⟨rfl, rfl, rfl, Nat.le_refl _, fun _ _ => ⟨rfl, rfl⟩⟩
  have hsd := hs.new hXd hs.gb
  have hno : ∀ i, (Array.replicate l.toArray.size false).getD i false = false := fun i => by
    simp only [Array.getD_eq_getD_getElem?, Array.getElem?_replicate]
    split <;> simp
  refine key _ _ ⟨X.w.drew, X.g⟩ a (by simp) (fun j _ => hno j) (by refine Nat.le_trans (List.length_filter_le _ _) (by simp)) (hXd.ext hs.gb hs.fb) hdf ⟨σ, hsd, rfl, by rw [hno]; rfl, he, (fun i o d u _ _ _ hf => by rw [hno] at hf; cases hf), (fun t _ => rfl), (fun i o d s _ _ _ _ _ hf => by rw [hno] at hf; cases hf)⟩ (fun j oj hoj hf => by rw [hno] at hf; cases hf)
end
end Go.Proofs.YtgmlkhfjhogdbaaGreat

/- make of a slice without elements, over abstract values. -/
namespace Go.Proofs.YtgmlkhfjhogdbaaGreat
open Go.RowKit P
set_option linter.unusedSimpArgs false
set_option linter.unusedVariables false
section
variable {P : Program} {T : Tys P} {σ : AS}
/-- A new box; what is yielded is a plain value that tells its number: a pointer, or a slice over its cells. -/
theorem eff_newboxV {o : Oper} {d : Nat} (vf : Nat → Value) {cs : List AV} (hdst : o.dst = some d) (hd : Nat.ble (d + 1) σ.n = true) (hp : Plain1 cs)
    (hrun : ∀ F X (a : Act), SimE F X σ a.tmps → ∃ (arr : Array Value) (el : TypeId), (execOp a.eval o).run P X.w = .ok (.value (vf X.w.heap.size)) (X.w.alloc (.cells arr el)) ∧ arr.size = cs.length ∧ ∀ (i : Nat) u x, cs[i]? = some u → arr[i]? = some x → Rel X u x)
    {R : AS → Prop} (hR : ∀ k, FreshK k σ.h → R ((σ.box k cs).put d (.v (vf k)))) : EffOp P o σ R := by
  intro F X a hs
  obtain ⟨arr, el, h1, h2, h3⟩ := hrun F X a hs
  have hn : New X ⟨X.w.alloc (.cells arr el), X.g⟩ := ⟨rfl, rfl, rfl, by show X.w.heap.size ≤ (X.w.heap.push _).size; simp, fun b hb => ⟨by show (X.w.heap.push _)[b]? = _; rw [Array.getElem?_push, if_neg (by omega)], rfl⟩⟩
  have hgb : ∀ b n, X.g b = some n → b < (X.w.alloc (.cells arr el)).heap.size := fun b n hb => by have := hs.gb b n hb; show b < (X.w.heap.push _).size; simp; omega
  have hnew := hs.new hn hgb
  have hgk : X.g X.w.heap.size = none := by
    cases hg : X.g X.w.heap.size with
    | none => rfl
    | some n => have := hs.gb _ _ hg; omega
  have hhk : (X.w.alloc (.cells arr el)).heap[X.w.heap.size]? = some (.cells arr el) := by show (X.w.heap.push _)[_]? = _; simp
  have hb : BoxOk F ⟨X.w.alloc (.cells arr el), X.g⟩ X.w.heap.size cs := by
    refine CellsOk.box ⟨hgk, fun hF => Nat.lt_irrefl _ (hs.fb _ hF), arr, el, (0, 0), hhk, h2, fun o => ?_, fun i u x hu hx => (h3 i u x hu hx).mono (hn.pres hs.gb)⟩
    show (X.w.alloc (.cells arr el)).frozen? ⟨X.w.heap.size, o, none⟩ = false
    simp only [World.frozen?, hhk]; simp
  refine runs_value h1 ⟨⟨X.w.alloc (.cells arr el), X.g⟩, _, rfl, hR X.w.heap.size (fun q hq e1 => ?_), ?_, hn.ext hs.gb hs.fb⟩
  · obtain ⟨k, cs'⟩ := q
    simp only at e1
    subst e1
    -- the key of a box is a block that is there
    have : ∀ {l : List (Nat × List AV)} {k : Nat} {c : List AV}, (k, c) ∈ l → ∃ c', look l k = some c' := by
      intro l
      induction l with
      | nil => intro k c h; cases h
      | cons p l ih =>
        intro k c h
        obtain ⟨k0, c0⟩ := p
        by_cases e2 : k = k0
        · exact ⟨c0, by rw [look_cons, if_pos e2]⟩
        · rcases List.mem_cons.1 h with h | h
          · cases h; exact absurd rfl e2
          · obtain ⟨c', h'⟩ := ih h
            exact ⟨c', by rw [look_cons, if_neg e2]; exact h'⟩
    obtain ⟨c', h'⟩ := this hq
    exact Nat.lt_irrefl _ (hs.box _ _ h').lt
  · rw [hdst]
    exact (hnew.box1 hb hp).put_new (lt_of_ble hd) (New.refl _) hgb (.v _) (FreshOk.plain rfl)
/-- makeSlice: its cells are a box. -/
theorem eff_make_box {x y : Operand} {t ty e : TypeId} {pos : String} {af : Array Edge} {g : Option (Nat × Bool)} {d : Nat} {sz by_ n c : Nat} {kx ky : IntKind} {zv : Value} (hx : opV σ x = some (.v (.int kx (n : Int)))) (hy : opV σ y = some (.v (.int ky (c : Int)))) (hn : n ≤ c) (ht : look T.ty t = some (.slice e)) (hz : look T.sz e = some (sz, by_)) (hzr : look T.zr e = some zv) (hfit : by_ * c ≤ 281474976710656) (hc : c ≤ 9223372036854775807) (hd : Nat.ble (d + 1) σ.n = true)
    {R : AS → Prop} (hR : ∀ k, FreshK k σ.h → R ((σ.box k ((madeCells zv.cells (c * sz)).toList.map .v)).put d (.v (.slice (some ⟨k, 0, none⟩) n c)))) : EffOp P ⟨some d, .makeSlice t x y, ty, pos, af, g⟩ σ R := by
  refine eff_newboxV (fun k => .slice (some ⟨k, 0, none⟩) n c) rfl hd (fun u hu => ?_) (fun F X a hs => ?_) hR
  · obtain ⟨v, _, rfl⟩ := List.mem_map.1 hu
    rfl
  · obtain ⟨i, hi1, hi2⟩ := T.zrOk _ _ hzr
    obtain ⟨i', hj1, hj2, hj3, _⟩ := T.szOk _ _ _ hz
    rw [hi1] at hj1; cases hj1
    have e1 := rel_v (opV_rel' hs hx)
    have e2 := rel_v (opV_rel' hs hy)
    have hb : (i.bytes : Int) * (c : Int) ≤ 281474976710656 := by
      rw [hj3]
      have h : ((by_ * c : Nat) : Int) ≤ 281474976710656 := by omega
      rwa [Int.natCast_mul] at h
    have hr := run_make (P := P) X.w t e i zv (T.tyOk _ _ ht) hi1 hi2 kx ky (n : Int) (c : Int) (by omega) (by omega) hb (by omega)
    simp only [Int.toNat_natCast] at hr
    refine ⟨madeCells zv.cells (c * i.size), e, ?_, by simp [hj2], fun q u v hu hv => ?_⟩
    · simp only [execOp, e1, e2]
      exact run_val hr
    · rw [List.getElem?_map, ← hj2, Array.getElem?_toList, hv] at hu
      cases hu; exact .v v
/-- The place of an element of a slice over a box. -/
theorem opv_index_box {x y : Operand} {t ty e : TypeId} {pos : String} {af : Array Edge} {g : Option (Nat × Bool)} {dd : Option Tmp} {sz by_ k o n c i : Nat} {ki : IntKind} (hx : opV σ x = some (.v (.slice (some ⟨k, o, none⟩) n c))) (hy : opV σ y = some (.v (.int ki (i : Int)))) (ht : look T.ty t = some (.slice e)) (hz : look T.sz e = some (sz, by_)) (hi : i < n) :
    OpV P ⟨dd, .indexAddr t x y, ty, pos, af, g⟩ σ (.v (.pointer (some ⟨k, o + i * sz, none⟩))) := by
  refine opv_same rfl fun F X a hs => ?_
  obtain ⟨it, hi1, hi2, hi3, _⟩ := T.szOk _ _ _ hz
  have e1 := rel_v (opV_rel hs (by simp [Op.operands]) hx)
  have e2 := rel_v (opV_rel hs (by simp [Op.operands]) hy)
  refine ⟨_, ?_, .v _⟩
  simp only [execOp, e1, e2]
  have hu := T.tyOk _ _ ht
  have h1 : ¬ ((i : Int) < 0) := by omega
  have h2 : (i : Int) < (n : Int) := by omega
  refine run_val ?_
  simp [Instr.indexAt, asIntOf, run_underlying hu, sizeOf, typeInfo, hi1, hi2, h1, h2, add_off]
  intro h; omega
theorem flat_one {α : Type} : ∀ {L : List (List α)}, (∀ r ∈ L, r.length = 1) → ∀ i : Nat, L.flatten[i]? = (L[i]?).bind fun r => r[0]?
  | [], _, i => by simp
  | r :: L, h, i => by
    have h1 := h r List.mem_cons_self
    match r, h1 with
    | [x], _ =>
      cases i with
      | zero => simp
      | succ i => simpa using flat_one (fun q hq => h q (List.mem_cons_of_mem _ hq)) i
theorem flat_one_len {α : Type} : ∀ {L : List (List α)}, (∀ r ∈ L, r.length = 1) → L.flatten.length = L.length
  | [], _ => rfl
  | r :: L, h => by
    have h1 := h r List.mem_cons_self
    have h2 := flat_one_len fun q hq => h q (List.mem_cons_of_mem _ hq)
    simp only [List.flatten_cons, List.length_append, List.length_cons, h2]; omega
/-- buildSlice of elements of one cell: its cells are a box. -/
theorem eff_build_box {ps : Array (Nat × Operand)} {t ty e : TypeId} {pos : String} {af : Array Edge} {g : Option (Nat × Bool)} {d len sz by_ : Nat} {us : List AV} (hsz1 : sz = 1) (ht : look T.ty t = some (.slice e)) (hz : look T.sz e = some (sz, by_)) (hp : partsOk ps.toList 0 = true) (hl : Nat.beq len ps.toList.length = true) (hx : opVs σ (ps.toList.map (·.2)) = some us)
    (hc : us.all (fun u => u.okc && Nat.beq u.cells.length sz) = true) (hpl : ∀ u ∈ (us.map AV.cells).flatten, own1 (some u) = none) (hm : Nat.ble (len * sz) 16777216 = true) (hd : Nat.ble (d + 1) σ.n = true) {R : AS → Prop} (hR : ∀ k, FreshK k σ.h → R ((σ.box k (us.map AV.cells).flatten).put d (.v (.slice (some ⟨k, 0, none⟩) len len)))) :
    EffOp P ⟨some d, .buildSlice t len ps, ty, pos, af, g⟩ σ R := by
  refine eff_newboxV (fun k => .slice (some ⟨k, 0, none⟩) len len) rfl hd (fun u hu => hpl u hu) (fun F X a hs => ?_) hR
  obtain ⟨i, hi1, hi2, hi3, zv, hi4, hi5⟩ := T.szOk _ _ _ hz
  have hlen := Nat.eq_of_beq_eq_true hl
  have hle := Nat.le_of_ble_eq_true hm
  obtain ⟨g1, g2⟩ := opVs_get hx
  simp only [List.length_map] at g1
  have hmem : ∀ p ∈ ps.toList, p.2 ∈ (Op.buildSlice t len ps).operands.toList := fun p hp => by simp only [Op.operands]; exact List.mem_map.2 ⟨p, hp, rfl⟩
  have hrel : ∀ (q : Nat) v, (ps.toList.map fun p => a.eval p.2)[q]? = some v → ∃ u, us[q]? = some u ∧ Rel X u v := by
    intro q v hv
    simp only [List.getElem?_map, Option.map_eq_some_iff] at hv
    obtain ⟨p, hpq, rfl⟩ := hv
    obtain ⟨u, h1, h2⟩ := g2 q p.2 (by simp [List.getElem?_map, hpq])
    exact ⟨u, h1, opV_rel' hs h2⟩
  have hcell : ∀ (q : Nat) u, us[q]? = some u → u.okc = true ∧ u.cells.length = sz := by
    intro q u hu
    have := List.all_eq_true.1 hc u (List.mem_of_getElem? hu)
    simp only [Bool.and_eq_true] at this
    exact ⟨this.1, Nat.eq_of_beq_eq_true this.2⟩
  have hrc : ∀ (q : Nat) u v, us[q]? = some u → Rel X u v → u.cells.length = v.cells.size ∧ ∀ (j : Nat) c y, u.cells[j]? = some c → v.cells[j]? = some y → Rel X c y := by
    intro q u v hu hr
    refine rel_cells hr fun xs hxs => ?_
    have hk := (hcell q u hu).1
    subst hxs
    cases hr with
    | ag us xs hl hr => exact ⟨us, rfl⟩
    | v => cases hk
  let vs := ps.toList.map fun p => a.eval p.2
  have hvl : vs.length = us.length := by simp [vs, g1]
  have hvs : ∀ v ∈ vs, v.cells.size = sz := by
    intro v hv
    obtain ⟨q, hq⟩ := List.getElem?_of_mem hv
    obtain ⟨u, h1, h2⟩ := hrel q v hq
    rw [← (hrc q u v h1 h2).1]; exact (hcell q u h1).2
  let z0 : Array Value := if len * sz = 0 then #[] else zv.cells
  let init : Array Value := (Array.range (len * sz)).map (z0[· % z0.size]!)
  obtain ⟨cells', f1, f2, f3, f4⟩ := fill_rows sz vs 0 init hvs (by simp [init, hvl, g1, hlen])
  have hlv : vs.length = len := by rw [hvl, g1, hlen]
  have hw : (execOp a.eval ⟨some d, .buildSlice t len ps, ty, pos, af, g⟩).run P X.w = .ok (.value (.slice (some ⟨X.w.heap.size, 0, none⟩) len len)) (X.w.alloc (.cells cells' e)) := by
    simp only [execOp]
    refine run_val ?_
    have hparts : (ps.map fun p => (p.1, a.eval p.2)).toList = (vs.zipIdx 0).map fun p => (p.2, p.1) := by
      rw [Array.toList_map]; exact partsOk_zip hp
    have hnot : ¬ len * sz > 16777216 := by omega
    simp only [init, z0] at f1
    have hparts' : (Array.map (fun x => match x with | (i, x) => (i, a.eval x)) ps).toList = (vs.zipIdx 0).map fun p => (p.2, p.1) := hparts
    have hzero : ∀ w : World, (zeroValue e).run P w = .ok zv w := fun w => by simp [zeroValue, typeInfo, hi1, hi4]
    by_cases h0 : len * sz = 0
    · simp only [h0, if_true] at f1
      have hpz : ps.toList.map (fun p => (p.1, a.eval p.2)) = (vs.zipIdx 0).map fun p => (p.2, p.1) := partsOk_zip hp
      simp at f1
      simp [Instr.buildSlice, run_underlying (T.tyOk _ _ ht), sizeOf, typeInfo, hi1, hi2, h0, hpz, f1, newRow, newObj, Sem.run]
    · rw [if_neg h0] at f1
      have hpz : ps.toList.map (fun p => (p.1, a.eval p.2)) = (vs.zipIdx 0).map fun p => (p.2, p.1) := partsOk_zip hp
      simp [Instr.buildSlice, run_underlying (T.tyOk _ _ ht), sizeOf, hzero, typeInfo, hi1, hi2, h0, hle, hpz, f1, newRow, newObj, Sem.run]
  have hrow : ∀ r ∈ us.map AV.cells, r.length = 1 := fun r hr => by
    obtain ⟨u, hu, rfl⟩ := List.mem_map.1 hr
    obtain ⟨q, hq⟩ := List.getElem?_of_mem hu
    rw [(hcell q u hq).2, hsz1]
  refine ⟨cells', e, hw, ?_, fun q u v hu hv => ?_⟩
  · rw [flat_one_len hrow, f2, List.length_map, ← hvl, hlv]
    simp [init, hsz1]
  · rw [flat_one hrow] at hu
    simp only [List.getElem?_map] at hu
    cases hq : us[q]? with
    | none => rw [hq] at hu; cases hu
    | some u0 =>
      rw [hq] at hu
      have hu' : u0.cells[0]? = some u := hu
      have hql : q < vs.length := by rw [hvl]; exact (List.getElem?_eq_some_iff.1 hq).1
      obtain ⟨u1, k1, k2⟩ := hrel q vs[q] (List.getElem?_eq_getElem hql)
      rw [hq] at k1; cases k1
      have h6 := f3 q 0 vs[q] (List.getElem?_eq_getElem hql) (by omega)
      have hsz := hvs vs[q] (List.getElem_mem hql)
      have hy : vs[q].cells[0]? = some vs[q].cells[0] := Array.getElem?_eq_getElem (by omega)
      have hix : q * sz + 0 = q := by rw [hsz1]; omega
      rw [Nat.zero_add, hy, hix] at h6
      rw [hv] at h6
      cases h6
      exact (hrc q u0 vs[q] hq k2).2 0 u _ hu' hy
/-- append to a slice over a box that has room: the box's next cells are written. -/
theorem eff_append_box {x y : Operand} {t u ty e : TypeId} {pos : String} {af : Array Edge} {g : Option (Nat × Bool)} {d by_ k n c : Nat} {cs : List AV} {m : List (List AV)} {du : TypeDesc} (hx : opV σ x = some (.v (.slice (some ⟨k, 0, none⟩) n c))) (hb : look σ.h k = some cs) (hmp : isMpB cs = false) (ht : look T.ty t = some (.slice e)) (hu : look T.ty u = some du) (hnz : du = .string ∨ ∃ e', du = .slice e') (hz : look T.sz e = some (1, by_))
    (hadd : ∀ F X (a : Act), SimE F X σ a.tmps → ∃ q, AddsA P X 1 m (a.eval y) q) (hroom : n + m.length ≤ c) (hfit : n + m.length ≤ cs.length) (hd : Nat.ble (d + 1) σ.n = true) (hpl : Plain1 m.flatten)
    {R : AS → Prop} (hR : R ((σ.setc k (splice cs n m.flatten)).put d (.v (.slice (some ⟨k, 0, none⟩) (n + m.length) c)))) :
    EffOp P ⟨some d, .call { callee := .builtin .append, args := #[x, y], argTypes := #[t, u] }, ty, pos, af, g⟩ σ R := by
  intro F X a hs
  obtain ⟨i, hi1, hi2, hi3, zv, hi4, hi5⟩ := T.szOk _ _ _ hz
  obtain ⟨q, hadd⟩ := hadd F X a hs
  have e1 := rel_v (opV_rel' hs hx)
  have hA : Adds P X.w i.size m.length (a.eval y) (rowCells 1 m.length q) := ⟨hadd.len, by rw [hi2]; exact hadd.first, by rw [hi2]; exact rowCells_length _ _ _⟩
  obtain ⟨b1, b2, arr, el, fr, b3, b4, b5, b6⟩ := (hs.box k cs hb).cells hmp
  have hrl := rowCells_length 1 m.length q
  rw [Nat.mul_one] at hrl
  have hcell : ∀ j, j < (rowCells 1 m.length q).length → (X.w.cell? ⟨k, n * i.size + j, none⟩).isSome = true := by
    intro j hj
    rw [hrl] at hj
    have : n * i.size + j < arr.size := by rw [hi2, b4]; omega
    simp [World.cell?, b3, this]
  have hrun := run_append_in (P := P) (ty := ty) (b := k) (sLen := n) (sCap := c) (T.tyOk _ _ ht) (T.tyOk _ _ hu) hnz hi1 hA hadd.one hroom hcell (fun j _ => b5 _)
  rw [hi2, Nat.mul_one] at hrun
  have hml : m.flatten.length = m.length := flat_one_len hadd.rows
  obtain ⟨s1, s2⟩ := SimE.setc (cs := cs) (us := m.flatten) (vs := rowCells 1 m.length q) (o := n) hs hb (by rw [hml]; exact hfit) (by rw [hrl, hml]) (fun j u v hu hv => by
    rw [flat_one hadd.rows] at hu
    cases hr : m[j]? with
    | none => rw [hr] at hu; cases hu
    | some r =>
      rw [hr] at hu
      have hj := (List.getElem?_eq_some_iff.1 hr).1
      have h0 := rowCells_get (sz := 1) (n := m.length) (c := q) (i := j) (j := 0) hj (by decide)
      rw [show j * 1 + 0 = j by omega, hv] at h0
      cases h0
      exact hadd.rel j 0 r u hr hu) (fun j sz l v ho => by
    cases hi : m.flatten[j]? with
    | none => rw [hi] at ho; cases ho
    | some u => rw [hi, hpl u (List.mem_of_getElem? hi)] at ho; cases ho) (fun j j' p q ho => by
    cases hi : m.flatten[j]? with
    | none => rw [hi] at ho; cases ho
    | some u => rw [hi, hpl u (List.mem_of_getElem? hi)] at ho; cases ho) hmp
  refine runs_value (x := .slice (some ⟨k, 0, none⟩) (n + m.length) c) (w' := X.w.setCells k n (rowCells 1 m.length q)) (run_builtin_append (by rw [e1]) rfl hrun) ⟨⟨X.w.setCells k n (rowCells 1 m.length q), X.g⟩, _, rfl, hR, ?_, s2⟩
  exact s1.put_new (lt_of_ble hd) (New.refl _) s1.gb (.v _) (FreshOk.plain rfl)
end
end Go.Proofs.YtgmlkhfjhogdbaaGreat

/- Typed abstract values: every operation that turns nothing. -/
namespace Go.Proofs.YtgmlkhfjhogdbaaGreat
open Go.RowKit P
set_option linter.unusedSimpArgs false
set_option linter.unusedVariables false

/-! ### Structs, compared -/
def tyB : Option TypeDesc → Ty → Bool
  | some (.int k), .int k' => k == k' && notU8 k
  | some (.int .u8), .byte => true
  | some .bool, .bool => true
  | some .string, .str => true
  | _, _ => false
def fieldsB {P : Program} (Y : Tys P) : List Field → Nat → List Ty → Bool
  | [], _, [] => true
  | f :: fs, k, t :: ts => f.name != "_" && Nat.beq f.offset k && tyB (look Y.ty f.type) t && fieldsB Y fs (k + 1) ts
  | _, _, _ => false
structure EqOk (P : Program) (Y : Tys P) (t : TypeId) (ts : List Ty) : Prop where
  ht : P.underlying t = some (.struct (P.fieldsOf t))
  hp : P.stoodInHeld t = false
  hg : P.eqGuardType P.depth t = false
  hf : fieldsB Y (P.fieldsOf t).toList 0 ts = true
theorem rel_atom {E : Enc} {ρ : Nat → Nat} {t : Ty} {x : TA E.T} {a : Den E.T t} {X : GW} {v : Value} (h : asD t x = some a) (hr : Rel X (x.to E ρ) v) : Rel X (one E t a) v := by
  have h1 := hr.rd
  rw [← TA.rd_to] at h1
  exact (asD_to E ρ h).rel h1
theorem run_eqS {P : Program} (d : Nat) (ft : TypeId) (a b : List UInt8) (w : World) (hu : P.underlying ft = some .string) : (Op.equalIn (d + 1) ft (.string (mkB a)) (.string (mkB b))).run P w = .ok (beqS a b) w := by
  have := run_equalIn_string (P := P) w d ft (mkB a) (mkB b) hu
  rw [toList_bs, toList_bs, bsOf_mkB, bsOf_mkB] at this
  have e : (a == b) = beqS a b := by
    unfold beqS
    by_cases e : a = b <;> simp [e]
  rw [e] at this
  exact this
theorem eqA_run {P : Program} {Y : Tys P} {E : Enc} {ρ : Nat → Nat} {t : Ty} {ft : TypeId} {x y : TA E.T} {p : Bool} {X : GW} {v v' : Value} (d : Nat) (w : World) (ht : tyB (look Y.ty ft) t = true) (h : eqA t x y = some p) (hx : Rel X (x.to E ρ) v) (hy : Rel X (y.to E ρ) v') : (Op.equalIn (d + 1) ft v v').run P w = .ok p w ∧ oneB ((look Y.ty ft).getD .bool) = true := by
  cases hft : look Y.ty ft with
  | none => rw [hft] at ht; cases t <;> cases ht
  | some ds =>
    rw [hft] at ht
    have hu := Y.tyOk _ _ hft
    cases t with
    | int k =>
      cases ds with
      | int k' =>
        simp only [eqA] at h
        split at h
        · rename_i a b ha hb
          cases h
          obtain rfl := rel_v (rel_atom ha hx)
          obtain rfl := rel_v (rel_atom hb hy)
          exact ⟨run_equalIn_int w d ft k k' a b hu, rfl⟩
        · cases h
      | _ => cases ht
    | byte =>
      cases ds with
      | int k' =>
        simp only [eqA] at h
        split at h
        · rename_i a b ha hb
          cases h
          obtain rfl := rel_v (rel_atom ha hx)
          obtain rfl := rel_v (rel_atom hb hy)
          exact ⟨run_equalIn_int w d ft .u8 k' _ _ hu, rfl⟩
        · cases h
      | _ => cases ht
    | bool =>
      cases ds with
      | bool =>
        simp only [eqA] at h
        split at h
        · rename_i a b ha hb
          cases h
          obtain rfl := rel_v (rel_atom ha hx)
          obtain rfl := rel_v (rel_atom hb hy)
          exact ⟨run_equalIn_bool' w d ft a b hu, rfl⟩
        · cases h
      | _ => cases ht
    | str =>
      cases ds with
      | string =>
        simp only [eqA] at h
        split at h
        · rename_i a b ha hb
          cases h
          obtain rfl := rel_v (rel_atom ha hx)
          obtain rfl := rel_v (rel_atom hb hy)
          exact ⟨run_eqS d ft a b w hu, rfl⟩
        · cases h
      | _ => cases ht
    | _ => cases ds <;> cases ht
theorem run_partB {P : Program} {t : TypeId} {ds : TypeDesc} {cs : Array Value} {o : Nat} {v : Value} {w : World} (hu : P.underlying t = some ds) (h1 : oneB ds = true) (hv : cs[o]? = some v) : (part t cs o).run P w = .ok v w := by
  cases ds <;> simp [oneB] at h1 <;> simp [part, isAgg, run_underlying hu, hv]
theorem eqT_run {P : Program} {Y : Tys P} {E : Enc} {ρ : Nat → Nat} {X : GW} {xs ys : Array Value} (d : Nat) (w : World) : ∀ (fs : List Field) (k : Nat) (ts : List Ty) (a b : List (TA E.T)) (r : Bool), fieldsB Y fs k ts = true → eqT ts a b = some r → (∀ (i : Nat) u v, a[i]? = some u → xs[k + i]? = some v → Rel X (u.to E ρ) v) → (∀ (i : Nat) u v, b[i]? = some u → ys[k + i]? = some v → Rel X (u.to E ρ) v) → k + a.length ≤ xs.size → k + b.length ≤ ys.size →
    (Op.eqFields (d + 1) xs ys fs).run P w = .ok r w
  | [], k, ts, a, b, r, hf, h, hx, hy, h1, h2 => by
    cases ts with
    | nil => cases a with
      | nil => cases b with
        | nil => cases h; simp [Op.eqFields]
        | cons _ _ => cases h
      | cons _ _ => cases h
    | cons _ _ => cases hf
  | f :: fs, k, ts, a, b, r, hf, h, hx, hy, h1, h2 => by
    cases ts with
    | nil => cases hf
    | cons t ts =>
      cases a with
      | nil => cases h
      | cons u a =>
        cases b with
        | nil => cases h
        | cons u' b =>
          simp only [fieldsB, Bool.and_eq_true] at hf
          obtain ⟨⟨⟨f1, f2⟩, f3⟩, f4⟩ := hf
          simp only [eqT] at h
          split at h
          · rename_i p q hp hq
            cases h
            have hk1 : k < xs.size := by simp at h1; omega
            have hk2 : k < ys.size := by simp at h2; omega
            have e1 : xs[k]? = some xs[k] := Array.getElem?_eq_getElem hk1
            have e2 : ys[k]? = some ys[k] := Array.getElem?_eq_getElem hk2
            have r1 := hx 0 u xs[k] rfl e1
            have r2 := hy 0 u' ys[k] rfl e2
            have key := fun w => eqA_run (P := P) (Y := Y) d w f3 hp r1 r2
            cases hft : look Y.ty f.type with
            | none => rw [hft] at f3; cases t <;> cases f3
            | some ds =>
              have ho : oneB ds = true := by have := (key w).2; rw [hft] at this; exact this
              have hu := Y.tyOk _ _ hft
              have hoff := beq_of f2
              have hn : f.name ≠ "_" := by simpa using f1
              have ih := eqT_run (P := P) (Y := Y) (E := E) (ρ := ρ) (X := X) (xs := xs) (ys := ys) d w fs (k + 1) ts a b q f4 hq (fun i v x hv hx' => hx (i + 1) v x (by simpa using hv) (by rw [← hx']; congr 1; omega)) (fun i v x hv hx' => hy (i + 1) v x (by simpa using hv) (by rw [← hx']; congr 1; omega)) (by simp at h1; omega) (by simp at h2; omega)
              have p1 := fun w => run_partB (P := P) (w := w) hu ho e1
              have p2 := fun w => run_partB (P := P) (w := w) hu ho e2
              simp only [Op.eqFields, hn, ne_eq, not_false_eq_true, if_true, Sem.run_bind, hoff, p1, p2, Result.andThen_ok, (key w).1]
              cases p with
              | true => simp [ih]
              | false => simp
          · cases h
theorem opv_eqs {P : Program} {Y : Tys P} {E : Enc} {ρ : Nat → Nat} {σ : AS} {dd : Option Tmp} {t yt ty : TypeId} {x y : Operand} {pos : String} {af : Array Edge} {g : Option (Nat × Bool)} {ts : List Ty} {a b : List (TA E.T)} {r : Bool} (hq : EqOk P Y t ts) (hx : opV σ x = some (.ag (a.map (TA.to E ρ)))) (hy : opV σ y = some (.ag (b.map (TA.to E ρ)))) (h : eqT ts a b = some r) :
    OpV P ⟨dd, .binOp .neq t x y yt, ty, pos, af, g⟩ σ (.v (.bool (!r))) ∧ OpV P ⟨dd, .binOp .eql t x y yt, ty, pos, af, g⟩ σ (.v (.bool r)) := by
  have key : ∀ {X : GW} {v v' : Value} (w : World), Rel X (.ag (a.map (TA.to E ρ))) v → Rel X (.ag (b.map (TA.to E ρ))) v' → ∃ xs ys, v = .agg xs ∧ v' = .agg ys ∧ (Op.equalIn 10000 t (.agg xs) (.agg ys)).run P w = .ok r w := by
    intro X v v' w h1 h2
    cases h1 with
    | ag _ xs hl hr =>
      cases h2 with
      | ag _ ys hl' hr' =>
        refine ⟨xs, ys, rfl, rfl, ?_⟩
        rw [run_equalIn_agg w 9999 t xs ys hq.ht hq.hp]
        refine eqT_run (Y := Y) (E := E) (ρ := ρ) (X := X) 9998 w _ 0 ts a b r hq.hf h (fun i u v hu hv => hr i _ v (by simp [hu]) (by simpa using hv)) (fun i u v hu hv => hr' i _ v (by simp [hu]) (by simpa using hv)) (by simp at hl; omega) (by simp at hl'; omega)
  constructor
  · refine opv_same rfl fun F X ac hs => ⟨_, ?_, .v _⟩
    obtain ⟨xs, ys, e1, e2, e3⟩ := key X.w (opV_rel hs (by simp [Op.operands]) hx) (opV_rel hs (by simp [Op.operands]) hy)
    simp only [execOp, e1, e2]
    refine run_val ?_
    simp [run_eqGuard_agg, hq.hg, run_neq_struct, e3]
  · refine opv_same rfl fun F X ac hs => ⟨_, ?_, .v _⟩
    obtain ⟨xs, ys, e1, e2, e3⟩ := key X.w (opV_rel hs (by simp [Op.operands]) hx) (opV_rel hs (by simp [Op.operands]) hy)
    simp only [execOp, e1, e2]
    refine run_val ?_
    simp [run_eqGuard_agg, hq.hg, run_eql_struct, e3]
/-- A callee that is handed boxes does as is told of it. -/
def XR.ok {E : Env} (P : Program) (f : FuncId) (us : List (TV E.T)) (hs : List (Nat × TB E.T)) : XR E.T → Prop
  | .bad => True
  | .ret o ids u h => ∀ z, o = some z → (h z).map (·.1) = ids ∧ ∀ ρ, Inj ρ hs → ACalls P f (us.map (TV.to E.toEnc ρ)) (hTo E.toEnc ρ (keepHH hs ids)) fun out H => out = .ret ((u z).to E.toEnc ρ) ∧ H = hTo E.toEnc ρ (h z)
  | .may o ids u h => ∀ p, o = some p → (∀ z, p = .ok z → (h z).map (·.1) = ids) ∧ ∀ ρ, Inj ρ hs → ACalls P f (us.map (TV.to E.toEnc ρ)) (hTo E.toEnc ρ (keepHH hs ids)) fun out H => match p with
    | .ok z => out = .ret ((u z).to E.toEnc ρ) ∧ H = hTo E.toEnc ρ (h z)
    | .pan v => out = .pan v
def XOk (P : Program) (E : Env) (f : FuncId) (hd : List (TV E.T) → List (Nat × TB E.T) → XR E.T) : Prop := ∀ us hs, (hd us hs).ok P f us hs
/-- Callees do as is told of them. -/
structure GOk (P : Program) (Y : Tys P) (E : Env) (G : Gam E) : Prop where
  f : ∀ p ∈ G.f, ∀ us, (p.2 us).ok fun u => ∀ ρ, ACalls P p.1 (us.map (TV.to E.toEnc ρ)) [] (fun out H => out = .ret (u.to E.toEnc ρ) ∧ H = [])
  q : ∀ p ∈ G.q, EqOk P Y p.1 p.2
  x : ∀ p ∈ G.x, XOk P E p.1 p.2
theorem GOk.nil {P : Program} {Y : Tys P} {E : Env} {q : List (Nat × List Ty)} {mu : List Nat} (hq : ∀ p ∈ q, EqOk P Y p.1 p.2) : GOk P Y E ⟨[], q, [], mu⟩ := ⟨(fun p hp => by cases hp), hq, (fun p hp => by cases hp)⟩
theorem GOk.cons {P : Program} {Y : Tys P} {E : Env} {G : List ((_ : Nat) × (List (TV E.T) → PV E.T))} {q : List (Nat × List Ty)} {x : List ((_ : Nat) × (List (TV E.T) → List (Nat × TB E.T) → XR E.T))} {f : Nat} {h : List (TV E.T) → PV E.T} (hf : ∀ us, (h us).ok fun u => ∀ ρ, ACalls P f (us.map (TV.to E.toEnc ρ)) [] (fun out H => out = .ret (u.to E.toEnc ρ) ∧ H = [])) {mu : List Nat} (hG : GOk P Y E ⟨G, q, x, mu⟩) : GOk P Y E ⟨⟨f, h⟩ :: G, q, x, mu⟩ := ⟨fun p hp => by
  rcases List.mem_cons.1 hp with rfl | hp
  · exact hf
  · exact hG.f p hp, hG.q, hG.x⟩
theorem GOk.consx {P : Program} {Y : Tys P} {E : Env} {G : List ((_ : Nat) × (List (TV E.T) → PV E.T))} {q : List (Nat × List Ty)} {x : List ((_ : Nat) × (List (TV E.T) → List (Nat × TB E.T) → XR E.T))} {f : Nat} {h : List (TV E.T) → List (Nat × TB E.T) → XR E.T} (hf : XOk P E f h) {mu : List Nat} (hG : GOk P Y E ⟨G, q, x, mu⟩) : GOk P Y E ⟨G, q, ⟨f, h⟩ :: x, mu⟩ := ⟨hG.f, hG.q, fun p hp => by
  rcases List.mem_cons.1 hp with rfl | hp
  · exact hf
  · exact hG.x p hp⟩
theorem xRun_ok {P : Program} {E : Env} : ∀ {l : List ((_ : Nat) × (List (TV E.T) → List (Nat × TB E.T) → XR E.T))}, (∀ p ∈ l, XOk P E p.1 p.2) → ∀ f us hs, (xRun l f us hs).ok P f us hs
  | [], _, _, _, _ => trivial
  | ⟨k, h⟩ :: r, hl, f, us, hs => by
    simp only [xRun]
    have ih := xRun_ok (fun p hp => hl p (List.mem_cons_of_mem _ hp)) f us hs
    split
    · rename_i e
      have e' := Nat.eq_of_beq_eq_true e
      subst e'
      have h1 := hl _ List.mem_cons_self us hs
      split
      · exact ih
      · exact h1
    · exact ih
section
variable {P : Program} {Y : Tys P} {E : Env} {G : Gam E} {ρ : Nat → Nat} {σ : TS E.T} {d : Option Tmp} {t t2 yt ty e : TypeId} {x y z : Operand} {pos : String} {af : Array Edge} {g : Option (Nat × Bool)}
theorem look_box (hi : Inj ρ σ.h) {k : Nat} {cs : List (TA E.T)} (h : look σ.h k = some (.cs cs)) : look (σ.to E.toEnc ρ).h (ρ k) = some (cs.map (TA.to E.toEnc ρ)) := look_hTo E.toEnc hi h
theorem opv_load_c (hi : Inj ρ σ.h) {k o : Nat} {cs : List (TA E.T)} {c : TA E.T} {dsc : TypeDesc} (hx : opT σ x = some (.a (.box k o))) (h0 : look Y.ty t = some dsc) (h1 : oneB dsc = true) (hb : look σ.h k = some (.cs cs)) (hc : cs[o]? = some c) :
    OpV P ⟨d, .load t x, ty, pos, af, g⟩ (σ.to E.toEnc ρ) ((TV.a c.rd).to E.toEnc ρ) := by
  have hx' := opT_to (ρ := ρ) hx
  simp only [TV.to, TA.rd_to]
  exact opv_load_box (T := Y) hx' (look_box hi hb) (by simp [hc]) h0 h1 (TA.to_notMp _ _ _)
theorem opv_fnv {σ : AS} {o : Oper} {f : FuncId} (h : OpV P o σ (.v (.func (.func f) #[] #[]))) : OpV P o σ (.fn f []) := fun F X a hs => (h F X a hs).mono fun x w' ⟨X', h1, h2, h3, h4, h5⟩ => by
  have := rel_v h4
  subst this
  exact ⟨X', h1, h2, h3, .fn f [] #[] rfl (fun i u x hu hx => by simp at hu), FreshOk.plain rfl⟩
theorem opv_field {P : Program} {T : Tys P} {σ : AS} {d : Option Tmp} {t ty : TypeId} {x : Operand} {pos : String} {af : Array Edge} {g : Option (Nat × Bool)} {fs : Array Field} {f : Field} {i : Nat} {cs : List AV} {dsc : TypeDesc} {c : AV} (hx : opV σ x = some (.ag cs)) (h0 : look T.ty t = some (.struct fs)) (hf : fs[i]? = some f) (h1 : look T.ty f.type = some dsc) (ho : oneB dsc = true) (hc : cs[f.offset]? = some c) : OpV P ⟨d, .field t x i, ty, pos, af, g⟩ σ c.rd := by
  refine opv_same (plain_rd c) fun F X ac hs => ?_
  have e1 := opV_rel hs (by simp [Op.operands]) hx
  have hu := T.tyOk _ _ h0
  have hu1 := T.tyOk _ _ h1
  generalize hv : ac.eval x = v at e1
  cases e1 with
  | ag _ xs hl hr =>
    have hlt : f.offset < xs.size := by rw [← hl]; exact (List.getElem?_eq_some_iff.1 hc).1
    have hxs : xs[f.offset]? = some xs[f.offset] := Array.getElem?_eq_getElem hlt
    refine ⟨xs[f.offset], ?_, (hr _ _ _ hc hxs).rd⟩
    simp only [execOp, hv]
    refine run_val ?_
    simp [Instr.field, run_underlying hu, hf, asAgg, run_partB hu1 ho hxs]
theorem zeroM_to {E : Enc} {t : Ty} {v : Value} {z : Den E.T t} (h : zeroM t v = some z) : cst v = one E t z ∧ (cst v).isSl = false := by
  unfold zeroM at h
  split at h
  · rename_i k k' n
    split at h
    · rename_i hk
      have := of_decide_eq_true hk
      subst this
      cases h
      exact ⟨rfl, rfl⟩
    · cases h
  · cases h; exact ⟨rfl, rfl⟩
  · rename_i s
    cases h
    refine ⟨?_, rfl⟩
    show AV.v (.string s) = AV.v (.string (mkB s.data.toList))
    rw [show s.data.toList = bsOf s from rfl, mkB_bsOf]
  · cases h
theorem evP0_ok (hi : Inj ρ σ.h) (hG : GOk P Y E G) (op : Op) : (evP0 Y E G σ op ty).ok fun u => OpV P ⟨d, op, ty, pos, af, g⟩ (σ.to E.toEnc ρ) (u.to E.toEnc ρ) := by
  unfold evP0
  split
  · rename_i f
    exact opv_fnv (opv_move_rd (u := .v (.func (.func f) #[] #[])) rfl (.inl rfl))
  · rename_i f
    exact opv_fnv (opv_move_rd (u := .v (.func (.func f) #[] #[])) rfl (.inr rfl))
  · split
    · rename_i u hu
      refine opv_le (u := (u.to E.toEnc ρ).rd) (opv_move_rd (opT_to hu) (.inl rfl)) ?_
      rw [← TV.rd_to]; exact nilFix_to _ _
    · trivial
  · split
    · rename_i u hu
      refine opv_le (u := (u.to E.toEnc ρ).rd) (opv_move_rd (opT_to hu) (.inr rfl)) ?_
      rw [← TV.rd_to]; exact nilFix_to _ _
    · trivial
  · rename_i op t x y yt
    split
    · rename_i a b hx hy
      unfold evEq
      split
      · rename_i ts hts
        have hq := hG.q _ (look_mem hts)
        split
        · rename_i r hr; exact (opv_eqs hq (opT_to (ρ := ρ) hx) (opT_to (ρ := ρ) hy) hr).2
        · rename_i r hr; exact (opv_eqs hq (opT_to (ρ := ρ) hx) (opT_to (ρ := ρ) hy) hr).1
        · trivial
      · trivial
    · exact evBin_ok
  · split
    · rename_i b hb; exact opv_not (opT_to hb) rfl
    · rename_i hb; exact opv_not (b := true) (opT_to hb) rfl
    · rename_i hb; exact opv_not (b := false) (opT_to hb) rfl
    · trivial
  · split
    · rename_i k n hn
      simp only [PV.ok, mkI_wrap]
      exact opv_neg (asI_to hn) rfl
    · trivial
  · split
    · rename_i k n hn
      simp only [PV.ok]
      rw [mkI_to _ _ (fun h => by subst h; exact bits8 _ (.inr (.inr rfl)) _ _)]
      exact opv_uxor (asI_to hn) rfl
    · trivial
  · exact evConv_ok
  · split
    · rename_i us hu
      split
      · rename_i u hq
        simp only [PV.ok, TV.to, TA.rd_to]
        exact opv_extract (opT_to (ρ := ρ) hu) (u := u.to E.toEnc ρ) (by simp only [List.getElem?_map, hq]; rfl)
      · rename_i l hq
        exact opv_extract (opT_to (ρ := ρ) hu) (u := .ag (l.map (TA.to E.toEnc ρ))) (by simp only [List.getElem?_map, hq]; rfl)
      · trivial
    · trivial
  · split
    · rename_i s k i h0 hs hk
      intro b hb
      obtain ⟨h1, h2, h3⟩ := idxC_some hb
      have := opv_index_str (P := P) (T := Y) (d := d) (ty := ty) (pos := pos) (af := af) (g := g) (asS_to (ρ := ρ) hs) (asI_to hk) h0 h1 h2
      have e : (bsOf (mkB s)).getD i.toNat 0 = b := by rw [bsOf_mkB, List.getD_eq_getElem?_getD, h3]; rfl
      rw [e] at this
      exact this
    · trivial
  · split
    · rename_i h0
      split
      · rename_i s hs
        split
        · rename_i i j hl hh
          intro r hr
          obtain ⟨h1, h2, h3, rfl⟩ := subC_some hr
          exact opv_slice_str (T := Y) (k1 := .i64) (k2 := .i64) (asS_to hs) h0 (bndT_to hl) (bndT_to hh) h1 h2 h3
        · trivial
      · trivial
    · rename_i e h0
      split
      · rename_i ty' l hs
        split
        · rename_i sz by_ i j hsz hl hh
          split
          · rename_i hb
            intro r hr
            obtain ⟨h1, h2, h3, rfl⟩ := subC_some hr
            obtain ⟨o, ho⟩ := asL_to (ρ := ρ) hs
            have hsz' := beq_of hb
            subst hsz'
            have := opv_slice_sl (P := P) (T := Y) (k1 := .i64) (k2 := .i64) (d := d) (ty := ty) (pos := pos) (af := af) (g := g) ho h0 hsz (bndT_to hl) (by have := bndT_to (ρ := ρ) hh; simpa using this) h1 h2 (by simpa using h3)
            rw [← List.map_take, ← List.map_drop] at this
            exact this
          · trivial
        · trivial
      · trivial
    · trivial
  · split
    · rename_i e h0
      split
      · rename_i ty' l hs
        split
        · rename_i sz by_ i k2 j k3 m hsz hl hh hm
          split
          · rename_i hb
            intro r hr
            obtain ⟨h1, h2, h3, h4, rfl⟩ := sub3C_some hr
            obtain ⟨o, ho⟩ := asL_to (ρ := ρ) hs
            have hsz' := beq_of hb
            subst hsz'
            have := opv_slice3 (P := P) (T := Y) (k1 := .i64) (d := d) (ty := ty) (pos := pos) (af := af) (g := g) ho h0 hsz (bndT_to hl) (asI_to hh) (asI_to hm) h1 h2 h3 (by simpa using h4)
            rw [← List.map_take, ← List.map_drop] at this
            exact this
          · trivial
        · trivial
      · trivial
    · trivial
  · split
    · rename_i e ty' l k i h0 hs hk
      split
      · rename_i sz by_ hsz
        split
        · rename_i hb
          intro z hz
          obtain ⟨h1, h2, h3⟩ := idxC_some hz
          obtain ⟨o, ho⟩ := asL_to (ρ := ρ) hs
          have hsz' := beq_of hb
          subst hsz'
          have := opv_indexaddr (P := P) (T := Y) (d := d) (ty := ty) (pos := pos) (af := af) (g := g) ho (asI_to hk) h0 hsz h1 (by simpa using h2)
          have e : (l.map (cells E.toEnc ty')).getD i.toNat [] = (unpT E ty' z).map (TA.to E.toEnc ρ) := by
            rw [unpT_to, List.getD_eq_getElem?_getD, List.getElem?_map, h3]; rfl
          simp only [e] at this
          exact this
        · trivial
      · trivial
    · trivial
  · split
    · rename_i fs h0
      split
      · rename_i f hf
        split
        · rename_i fsz hz
          split
          · rename_i hp
            split
            · rename_i cs hx
              split
              · rename_i hl
                have := opv_field_el (P := P) (T := Y) (d := d) (ty := ty) (pos := pos) (af := af) (g := g) (cs := cs.map (TA.to E.toEnc ρ)) (opT_to (ρ := ρ) hx) h0 hf hz hp (by simpa using hl)
                rw [← List.map_drop] at this
                exact this
              · trivial
            · rename_i k o hx
              exact opv_field_box (T := Y) (opT_to hx) h0 hf hz hp
            · trivial
          · trivial
        · trivial
      · trivial
    · trivial
  · split
    · rename_i cs fs hx h0
      split
      · rename_i n by_ hz
        split
        · rename_i hl
          have := opv_load_els (P := P) (T := Y) (d := d) (ty := ty) (pos := pos) (af := af) (g := g) (cs := cs.map (TA.to E.toEnc ρ)) (opT_to (ρ := ρ) hx) h0 hz (by simpa using hl)
          rw [← List.map_take] at this
          exact this
        · trivial
      · trivial
    · rename_i c cs dsc hn hx h0
      split
      · rename_i h1
        have := opv_load_el (P := P) (T := Y) (d := d) (ty := ty) (pos := pos) (af := af) (g := g) (opT_to (ρ := ρ) hx) h0 h1
        simp only [PV.ok, TV.to, TA.rd_to]
        exact this
      · trivial
    · rename_i k o fs hx h0
      split
      · rename_i cs n by_ hb hz
        split
        · rename_i hl
          have := opv_load_boxr (P := P) (T := Y) (dd := d) (ty := ty) (pos := pos) (af := af) (g := g) (opT_to (ρ := ρ) hx) (look_box hi hb) h0 hz (by simpa using hl) (notMpB cs)
          have e : List.map AV.rd (((cs.map (TA.to E.toEnc ρ)).drop o).take n) = (((cs.drop o).take n).map TA.rd).map (TA.to E.toEnc ρ) := by
            rw [← List.map_drop, ← List.map_take, List.map_map, List.map_map]
            apply List.map_congr_left
            intro c _
            exact (TA.rd_to _ _ c).symm
          rw [e] at this
          exact this
        · trivial
      · trivial
    · rename_i k o dsc hn hx h0
      split
      · rename_i cs h1 hb
        split
        · rename_i c hc
          exact opv_load_c hi hx h0 h1 hb hc
        · trivial
      · trivial
    · trivial
  · split
    · rename_i fs zv h0 hz
      split
      · rename_i pl us hp hx
        split
        · rename_i cs hb
          have hb' := buildT_to (Y := Y) (ρ := ρ) hb
          have e : (zv.cells.toList.map atomT).map (TA.to E.toEnc ρ) = zv.cells.toList.map AV.v := by
            rw [List.map_map]; apply List.map_congr_left; intro c _; exact atomT_to _ _ c
          rw [e] at hb'
          have := opv_build (P := P) (T := Y) (d := d) (ty := ty) (pos := pos) (af := af) (g := g) h0 hz hp (opTs_to hx) hb'
          refine opv_ag_le this ?_
          have := map_rd_le (ρ := ρ) cs
          simp only [TV.to, List.map_map]; exact this
        · trivial
      · trivial
    · trivial
  · split
    · rename_i e ty' h0 het
      split
      · rename_i sz by_ us hz hx
        split
        · rename_i xs hp
          split
          · rename_i hc
            simp only [Bool.and_eq_true] at hc
            have hsz := beq_of hc.1.1.1
            subst hsz
            obtain ⟨m1, m2⟩ := packAll_to (ρ := ρ) hp
            exact opv_rows_le (opv_build_slice (T := Y) h0 hz hc.1.1.2 hc.1.2 (opTs_to hx) m2 hc.2) m1
          · trivial
        · trivial
      · trivial
    · trivial
  · split
    · rename_i k o hx; exact opv_nil (opT_to hx)
    · rename_i cs hx; exact opv_nil_el (opT_to hx)
    · trivial
  · rename_i f first caps
    split
    · rename_i hf
      split
      · rename_i us hx
        split
        · rename_i xs hxs
          have : first = #[] := Array.eq_empty_of_size_eq_zero (by have := congrArg List.length hf; simpa using this)
          subst this
          have hx' := opTs_to (ρ := ρ) hx
          rw [atoms_to hxs] at hx'
          exact opv_mkfunc hx'
        · trivial
      · trivial
    · trivial
  · rename_i xs ats
    split
    · rename_i x t hxs ha
      have hxs' : xs = #[x] := by cases xs; simp at hxs; subst hxs; rfl
      subst hxs'
      split
      · rename_i h0
        split
        · rename_i s hs; exact opv_len_str (T := Y) (asS_to hs) ha h0
        · trivial
      · rename_i e h0
        split
        · rename_i ty' l hs
          obtain ⟨o, ho⟩ := asL_to (ρ := ρ) hs
          have := opv_len_sl (P := P) (T := Y) (d := d) (ty := ty) (pos := pos) (af := af) (g := g) ho ha h0
          simp only [List.length_map] at this
          exact this
        · trivial
      · trivial
    · trivial
  · rename_i xs ats
    split
    · rename_i x y hxs
      have hxs' : xs = #[x, y] := by cases xs; simp at hxs; subst hxs; rfl
      subst hxs'
      split
      · rename_i a b ha hb; exact opv_min (asI_to ha) (asI_to hb)
      · trivial
    · trivial
  · rename_i xs ats
    split
    · rename_i x y hxs
      have hxs' : xs = #[x, y] := by cases xs; simp at hxs; subst hxs; rfl
      subst hxs'
      split
      · rename_i a b ha hb; exact opv_max (asI_to ha) (asI_to hb)
      · trivial
    · trivial
  · rename_i f xs ats
    split
    · rename_i h us hf hx
      refine (hG.f _ (gLook_mem hf) (fixArgs E ats.toList us)).mono fun u hu => ?_
      exact opv_call (hu ρ) (opTs_to hx) (fixArgs_le _ _ (fixArgs_len _ _)) (fixArgs_plain _ _)
    · trivial
  · rename_i s xs ats
    split
    · rename_i f hs
      split
      · rename_i h us hf hx
        refine (hG.f _ (gLook_mem hf) (fixArgs E ats.toList us)).mono fun u hu => ?_
        exact opv_call_fn (by simp only [TS.to, look_tTo, hs]; rfl) (hu ρ) (opTs_to hx) (fixArgs_le _ _ (fixArgs_len _ _)) (fixArgs_plain _ _)
      · trivial
    · trivial
  · rename_i t x i
    split
    · rename_i cs fs hx h0
      split
      · rename_i f hf
        split
        · rename_i dsc c h1 hc
          split
          · rename_i ho
            have h2 := opv_field (P := P) (T := Y) (d := d) (ty := ty) (pos := pos) (af := af) (g := g) (opT_to (ρ := ρ) hx) h0 hf h1 ho (c := c.to E.toEnc ρ) (by simp [hc])
            rw [← TA.rd_to] at h2
            exact h2
          · trivial
        · trivial
      · trivial
    · trivial
  · rename_i t x y ok
    split
    · rename_i kt et k key h0 hx hy
      split
      · rename_i zv ty' l hk hz hb
        have hb' : look (σ.to E.toEnc ρ).h (ρ k) = some [smap (l.map fun p => (p.1, one E.toEnc ty' p.2))] := look_hTo E.toEnc hi hb
        split
        · rename_i z hzm
          have h1 := opv_lookup_s (P := P) (T := Y) (d := d) (ty := ty) (pos := pos) (af := af) (g := g) (opT_to (ρ := ρ) hx) hb' (asS_to hy) h0 hk hz
          rw [lget_map] at h1
          refine opv_eq h1 ?_
          cases hm : mget l key with
          | none =>
            show AV.tu [cst zv, _] = AV.tu [one E.toEnc ty' z, _]
            rw [(zeroM_to (E := E.toEnc) hzm).1]; rfl
          | some x =>
            show AV.tu [(one E.toEnc ty' x).rd, _] = AV.tu [one E.toEnc ty' x, _]
            rw [one_rd]; rfl
        · rename_i z hzm
          have h1 := opv_lookup1_s (P := P) (T := Y) (d := d) (ty := ty) (pos := pos) (af := af) (g := g) (opT_to (ρ := ρ) hx) hb' (asS_to hy) h0 hk hz (zeroM_to (E := E.toEnc) hzm).2
          rw [lget_map] at h1
          refine opv_eq h1 ?_
          cases hm : mget l key with
          | none => exact (zeroM_to (E := E.toEnc) hzm).1
          | some x => exact one_rd _ _ _
        · trivial
      · trivial
    · trivial
  · rename_i t x
    split
    · rename_i u dsc hx h0
      split
      · rename_i c hc hn
        have hv := opv_mkif (P := P) (T := Y) (d := d) (ty := ty) (pos := pos) (af := af) (g := g) (opT_to (ρ := ρ) hx) h0 (by cases dsc <;> first | rfl | cases hn)
        have e : (TV.ifc t c : TV E.T).to E.toEnc ρ = .ifc t (u.to E.toEnc ρ) := by
          unfold ifT at hc
          split at hc
          · split at hc
            · cases hc; rfl
            · cases hc
          · cases hc; rfl
          · cases hc
        show OpV P _ _ ((TV.ifc t c : TV E.T).to E.toEnc ρ)
        rw [e]
        exact hv
      · trivial
    · trivial
  · trivial
/-! ### Slices and arrays that lie in boxes of their own -/
theorem flat_lone {ty : Ty} (h : ty.lone = true) (l : List (Den E.T ty)) : (TB.row ty l : TB E.T).to E.toEnc ρ = l.map (one E.toEnc ty) := by
  show (l.map (cells E.toEnc ty)).flatten = _
  induction l with
  | nil => rfl
  | cons x l ih => rw [List.map_cons, List.flatten_cons, ih, cells_lone E.toEnc h]; rfl
theorem look_row (hi : Inj ρ σ.h) {k : Nat} {ty : Ty} {l : List (Den E.T ty)} (hl : ty.lone = true) (h : look σ.h k = some (.row ty l)) : look (σ.to E.toEnc ρ).h (ρ k) = some (l.map (one E.toEnc ty)) := by
  have := look_hTo E.toEnc hi h
  rw [flat_lone hl] at this
  exact this
theorem one_notMp (ty : Ty) (z : Den E.T ty) : (one E.toEnc ty z).isMp = false := TA.to_notMp E.toEnc id (.d ty z)
theorem sz1_of {e : TypeId} (h : sz1 Y e = true) : ∃ by_, look Y.sz e = some (1, by_) := by
  unfold sz1 at h
  split at h
  · rename_i b hb; exact ⟨b, hb⟩
  · cases h
theorem idxN_some {n : Nat} {i : Int} {j : Nat} (h : idxN n i = some j) : 0 ≤ i ∧ i < n ∧ (j : Int) = i ∧ j < n := by
  unfold idxN at h
  split at h
  · rename_i hc; cases h; omega
  · cases h
theorem subN_some {c : Nat} {i j : Int} {p : Nat × Nat} (h : subN c i j = some p) : i = (p.1 : Int) ∧ j = (p.2 : Int) ∧ p.1 ≤ p.2 ∧ p.2 ≤ c := by
  unfold subN at h
  split at h
  · rename_i hc; cases h; simp only; omega
  · cases h
/-- The place of an element of an array in a box. -/
theorem opv_index_arr {σ : AS} {dd : Option Tmp} {k o n : Nat} {i : Int} {ki : IntKind} {by_ : Nat} (hx : opV σ x = some (.v (.pointer (some ⟨k, o, none⟩)))) (hy : opV σ y = some (.v (.int ki i))) (ht : look Y.ty t = some (.array n e)) (hz : look Y.sz e = some (1, by_)) (h0 : 0 ≤ i) (h1 : i < n) :
    OpV P ⟨dd, .indexAddr t x y, ty, pos, af, g⟩ σ (.v (.pointer (some ⟨k, o + i.toNat, none⟩))) := by
  refine opv_same rfl fun F X a hs => ?_
  obtain ⟨it, hi1, hi2, hi3, _⟩ := Y.szOk _ _ _ hz
  have e1 := opV_val hs (by simp [Op.operands]) hx
  have e2 := opV_val hs (by simp [Op.operands]) hy
  refine ⟨_, ?_, .v _⟩
  simp only [execOp, e1, e2]
  have hu := Y.tyOk _ _ ht
  refine run_val ?_
  simp [Instr.indexAt, asIntOf, run_underlying hu, sizeOf, typeInfo, hi1, hi2, h0, h1, add_off, Instr.sureAddr]
theorem opv_slice_bsl {σ : AS} {dd : Option Tmp} {lo hi : Option Operand} {k o n c : Nat} {i j : Nat} {by_ : Nat} (hx : opV σ x = some (.v (.slice (some ⟨k, o, none⟩) n c))) (ht : look Y.ty t = some (.slice e)) (hz : look Y.sz e = some (1, by_)) (hl : optIs σ lo .i64 (i : Int) 0) (hh : optIs σ hi .i64 (j : Int) (n : Int)) (h1 : i ≤ j) (h2 : j ≤ c) :
    OpV P ⟨dd, .slice t x lo hi none, ty, pos, af, g⟩ σ (.v (.slice (some ⟨k, offN o c i, none⟩) (j - i) (c - i))) := by
  refine opv_same rfl fun F X a hs => ?_
  obtain ⟨it, hi1, hi2, hi3, _⟩ := Y.szOk _ _ _ hz
  have e1 := opV_val hs (by simp [Op.operands]) hx
  have hlo := opt_val (q := lo) hs (fun p hp => by subst hp; simp [Op.operands]) hl
  have hhi := opt_val (q := hi) hs (fun p hp => by subst hp; simp [Op.operands]) hh
  refine ⟨_, ?_, .v _⟩
  have hu := Y.tyOk _ _ ht
  have hb := run_bounds (P := P) (isS := true) (w := X.w) hlo hhi (by omega) (by omega) (cap := c) (by omega)
  simp only [execOp, e1]
  refine run_val ?_
  simp only [Option.map_none, Instr.sliceAt, Sem.run_bind, run_underlying hu, Result.andThen_ok]
  simp only [Instr.slice, Sem.run_bind, run_underlying hu, Result.andThen_ok, hb]
  by_cases hci : c = i
  · simp [sizeOf, typeInfo, hi1, hi2, offN, hci]
  · simp [sizeOf, typeInfo, hi1, hi2, offN, hci, add_off]
theorem opv_slice_arr {σ : AS} {dd : Option Tmp} {lo hi : Option Operand} {k o n : Nat} {i j : Nat} {by_ : Nat} (hx : opV σ x = some (.v (.pointer (some ⟨k, o, none⟩)))) (ht : look Y.ty t = some (.array n e)) (hz : look Y.sz e = some (1, by_)) (hl : optIs σ lo .i64 (i : Int) 0) (hh : optIs σ hi .i64 (j : Int) (n : Int)) (h1 : i ≤ j) (h2 : j ≤ n) :
    OpV P ⟨dd, .slice t x lo hi none, ty, pos, af, g⟩ σ (.v (.slice (some ⟨k, offN o n i, none⟩) (j - i) (n - i))) := by
  refine opv_same rfl fun F X a hs => ?_
  obtain ⟨it, hi1, hi2, hi3, _⟩ := Y.szOk _ _ _ hz
  have e1 := opV_val hs (by simp [Op.operands]) hx
  have hlo := opt_val (q := lo) hs (fun p hp => by subst hp; simp [Op.operands]) hl
  have hhi := opt_val (q := hi) hs (fun p hp => by subst hp; simp [Op.operands]) hh
  refine ⟨_, ?_, .v _⟩
  have hu := Y.tyOk _ _ ht
  have hb := run_bounds (P := P) (isS := false) (w := X.w) hlo hhi (by omega) (by omega) (cap := n) (by omega)
  simp only [execOp, e1]
  refine run_val ?_
  simp only [Option.map_none, Instr.sliceAt, Sem.run_bind, run_underlying hu, Result.andThen_ok, Instr.sureAddr, Sem.run_pure, hb]
  by_cases hci : n = i
  · simp [sizeOf, typeInfo, hi1, hi2, offN, hci]
  · simp [sizeOf, typeInfo, hi1, hi2, offN, hci, add_off]
theorem opv_nilnil {σ : AS} {dd : Option Tmp} {op : BinOp} (hx : opV σ x = some (.v (.slice none 0 0))) (hy : opV σ y = some (.v (.slice none 0 0))) (ht : look Y.ty t = some (.slice e)) (neg : Bool) (hop : (op = .eql ∧ neg = false) ∨ (op = .neq ∧ neg = true)) : OpV P ⟨dd, .binOp op t x y yt, ty, pos, af, g⟩ σ (.v (.bool (true != neg))) := by
  refine opv_same rfl fun F X a hs => ⟨_, ?_, .v _⟩
  have e1 := opV_val hs (by simp [Op.operands]) hx
  have h2 := opV_val hs (by simp [Op.operands]) hy
  have ht := Y.tyOk _ _ ht
  simp only [execOp, e1, h2]
  refine run_val ?_
  have q := Lib.run_eql_slice_nil X.w t e none 0 0 0 0 ht
  rcases hop with ⟨rfl, rfl⟩ | ⟨rfl, rfl⟩
  · simp [eqGuard, q, go_sem]
  · have q' : (Op.equal t (.slice none 0 0) (.slice none 0 0)).run P X.w = .ok true X.w := by
      simp [Op.equal, Op.maxDepth, Lib.run_equalIn_slice_nil X.w 9999 t e none 0 0 0 0 ht]
    simp [eqGuard, binOp, go_sem, q']
theorem evPB_ok (hi : Inj ρ σ.h) (op : Op) : (evPB Y E σ op).ok fun u => OpV P ⟨d, op, ty, pos, af, g⟩ (σ.to E.toEnc ρ) (u.to E.toEnc ρ) := by
  unfold evPB
  split
  · split
    · rename_i k off n c ki i e hx hy ht
      split
      · rename_i hs
        obtain ⟨by_, hz⟩ := sz1_of hs
        intro j hj
        obtain ⟨h1, h2, h3, h4⟩ := idxN_some hj
        have := opv_index_box (P := P) (T := Y) (dd := d) (ty := ty) (pos := pos) (af := af) (g := g) (i := j) (opT_to (ρ := ρ) hx) (by rw [h3]; exact asI_to hy) ht hz h4
        rw [Nat.mul_one] at this
        exact this
      · trivial
    · rename_i k off ki i n e hx hy ht
      split
      · rename_i hs
        obtain ⟨by_, hz⟩ := sz1_of hs
        intro j hj
        obtain ⟨h1, h2, h3, h4⟩ := idxN_some hj
        have := opv_index_arr (P := P) (Y := Y) (dd := d) (ty := ty) (pos := pos) (af := af) (g := g) (opT_to (ρ := ρ) hx) (asI_to hy) ht hz h1 h2
        rw [show i.toNat = j by omega] at this
        exact this
      · trivial
    · trivial
  · split
    · rename_i k o dsc hx ht
      split
      · rename_i ty' l h1 hb
        split
        · rename_i hl
          intro z hz
          have := opv_load_box (P := P) (T := Y) (d := d) (ty := ty) (pos := pos) (af := af) (g := g) (opT_to (ρ := ρ) hx) (look_row hi hl hb) (u := one E.toEnc ty' z) (by simp [hz]) ht h1 (one_notMp ty' z)
          rw [one_rd] at this
          exact this
        · trivial
      · trivial
    · trivial
  · split
    · rename_i k off n c e hx ht
      split
      · rename_i i j hs hl hh
        obtain ⟨by_, hz⟩ := sz1_of hs
        intro p hp
        obtain ⟨h1, h2, h3, h4⟩ := subN_some hp
        subst h1 h2
        exact opv_slice_bsl (P := P) (Y := Y) (opT_to (ρ := ρ) hx) ht hz (bndT_to hl) (bndT_to hh) h3 h4
      · trivial
    · rename_i k off n e hx ht
      split
      · rename_i i j hs hl hh
        obtain ⟨by_, hz⟩ := sz1_of hs
        intro p hp
        obtain ⟨h1, h2, h3, h4⟩ := subN_some hp
        subst h1 h2
        exact opv_slice_arr (P := P) (Y := Y) (opT_to (ρ := ρ) hx) ht hz (bndT_to hl) (bndT_to hh) h3 h4
      · trivial
    · trivial
  · split
    · rename_i e k off n c ht ht2 hx
      split
      · rename_i l he hb
        intro s hs
        unfold fullC at hs
        split at hs
        · rename_i hn
          cases hs
          obtain ⟨hn0, hn⟩ := hn
          subst hn0 hn
          have hb' := look_row (ty := .byte) hi rfl hb
          exact opv_box_str (P := P) (T := Y) (L := l) (opT_to (ρ := ρ) hx) hb' ht he ht2
        · cases hs
      · trivial
    · trivial
  · rename_i xs ats
    split
    · rename_i x t hxs ha
      have hxs' : xs = #[x] := by cases xs; simp at hxs; subst hxs; rfl
      subst hxs'
      split
      · rename_i e k off n c ht hx
        exact opv_len_nil (T := Y) (opT_to (ρ := ρ) hx) ha ht
      · trivial
    · trivial
  · split
    · rename_i hx hy
      split
      · rename_i e ht; exact opv_nilnil (opT_to (ρ := ρ) hx) (opT_to (ρ := ρ) hy) ht false (.inl ⟨rfl, rfl⟩)
      · rename_i e ht; exact opv_nilnil (opT_to (ρ := ρ) hx) (opT_to (ρ := ρ) hy) ht true (.inr ⟨rfl, rfl⟩)
      · trivial
    · trivial
  · trivial
theorem evP_ok (hi : Inj ρ σ.h) (hG : GOk P Y E G) (op : Op) : (evP Y E G σ op ty).ok fun u => OpV P ⟨d, op, ty, pos, af, g⟩ (σ.to E.toEnc ρ) (u.to E.toEnc ρ) := by
  have h := evPB_ok (Y := Y) (E := E) (d := d) (ty := ty) (pos := pos) (af := af) (g := g) hi op
  unfold evP
  split
  · exact evP0_ok hi hG op
  · exact h
end
end Go.Proofs.YtgmlkhfjhogdbaaGreat

/- Typed abstract values: operations that turn something; the operations of a region. -/
namespace Go.Proofs.YtgmlkhfjhogdbaaGreat
open Go.RowKit P
set_option linter.unusedSimpArgs false
set_option linter.unusedVariables false

/-- What may come, by choices and by what there is. -/
inductive Tree (L : Type) : Type 1 where
  | leaf (x : L)
  | cond (b : Bool) (t f : Tree L)
  | bnd {α : Type} (o : Option α) (k : α → Tree L)
  | sm {α : Type} (x : PR α) (k : α → Tree L) (p : Value → Tree L)
  | nl {α : Type} (l : List α) (t f : Tree L)
  | fail
def Tree.holds {L : Type} (K : L → Prop) : Tree L → Prop
  | .leaf x => K x
  | .cond b t f => (b = true → t.holds K) ∧ (b = false → f.holds K)
  | .bnd o k => ∃ z, o = some z ∧ (k z).holds K
  | .sm x k p => (∀ z, x = .ok z → (k z).holds K) ∧ ∀ v, x = .pan v → (p v).holds K
  | .nl l t f => (l = [] → t.holds K) ∧ f.holds K
  | .fail => False
def Tree.bind {L M : Type} (f : L → Tree M) : Tree L → Tree M
  | .leaf x => f x
  | .cond b s t => .cond b (s.bind f) (t.bind f)
  | .bnd o k => .bnd o fun z => (k z).bind f
  | .sm x k p => .sm x (fun z => (k z).bind f) fun v => (p v).bind f
  | .nl l s t => .nl l (s.bind f) (t.bind f)
  | .fail => .fail
theorem holds_bind {L M : Type} {f : L → Tree M} {K : M → Prop} : ∀ {t : Tree L}, (t.bind f).holds K → t.holds fun x => (f x).holds K
  | .leaf x, h => h
  | .cond b s t, h => ⟨fun e => holds_bind (h.1 e), fun e => holds_bind (h.2 e)⟩
  | .bnd o k, ⟨z, h1, h2⟩ => ⟨z, h1, holds_bind h2⟩
  | .sm x k p, h => ⟨fun z e => holds_bind (h.1 z e), fun v e => holds_bind (h.2 v e)⟩
  | .nl l s t, h => ⟨fun e => holds_bind (h.1 e), holds_bind h.2⟩
  | .fail, h => h
theorem Tree.holds.mono {L : Type} {K K' : L → Prop} (hk : ∀ x, K x → K' x) : ∀ {t : Tree L}, t.holds K → t.holds K'
  | .leaf x, h => hk x h
  | .cond b s t, h => ⟨fun e => (h.1 e).mono hk, fun e => (h.2 e).mono hk⟩
  | .bnd o k, ⟨z, h1, h2⟩ => ⟨z, h1, h2.mono hk⟩
  | .sm x k p, h => ⟨fun z e => (h.1 z e).mono hk, fun v e => (h.2 v e).mono hk⟩
  | .nl l s t, h => ⟨fun e => (h.1 e).mono hk, h.2.mono hk⟩
  | .fail, h => h

/-- What is told of a value is told of it. -/
def LeV (u u' : AV) : Prop := Le1 u u' ∨ ((∀ X v, Rel X u v → Rel X u' v) ∧ own1 (some u') = none)
theorem LeV.rel {u u' : AV} (h : LeV u u') {X : GW} {v : Value} (hr : Rel X u v) : Rel X u' v := by
  rcases h with h | h
  · exact h.rel hr
  · exact h.1 X v hr
theorem SimE.le3 {F : Nat → Prop} {X : GW} {σ σ' : AS} {tm : Array Value} (h : SimE F X σ tm) (hn : σ'.n = σ.n) (ht : ∀ t u', look σ'.t t = some u' → ∃ u, look σ.t t = some u ∧ LeV u u') (hh : ∀ k cs', look σ'.h k = some cs' → ∃ cs, look σ.h k = some cs ∧ LeL cs cs') (he : ∀ p ∈ σ'.e, p ∈ σ.e) : SimE F X σ' tm := by
  have heq : EqsOk σ'.e tm X.w := fun p hp => h.eqm p (he p hp)
  refine ⟨h.toSim.reown hn (fun t u hu => ?_) (fun k cs hk => ?_) heq.look id (fun r sz l ho => ?_) (fun _ _ hne _ _ => hne), heq⟩
  · obtain ⟨u0, h1, h2⟩ := ht t u hu
    exact h2.rel (h.slot t u0 h1)
  · obtain ⟨cs0, h1, h2⟩ := hh k cs hk
    rcases h.box k cs0 h1 with ⟨_, b1, b2, arr, e, fr, b3, b4, b5, b6⟩ | ⟨l, rfl, hmk⟩
    case inr =>
      cases h2 with
      | cons hu hr =>
        cases hr
        cases hu
        exact .inr ⟨l, rfl, hmk⟩
    refine CellsOk.box ⟨b1, b2, arr, e, fr, b3, by rw [b4]; exact h2.length, b5, fun o u x hu hx => ?_⟩
    obtain ⟨u0, k1, k2⟩ := h2.get o u hu
    exact k2.rel (b6 o u0 x k1 hx)
  · cases r with
    | s t =>
      simp only [AS.own] at ho
      cases hlk : look σ'.t t with
      | none => rw [hlk] at ho; cases ho
      | some u =>
        rw [hlk] at ho
        obtain ⟨u0, h1, h2⟩ := ht t u hlk
        rcases h2 with h2 | h2
        · rcases h2.own ho with h3 | ⟨h3, h4⟩
          · right; simp only [id, AS.own]; rw [h1]; exact ⟨h3, trivial⟩
          · left
            subst h3
            have := h.slot t _ h1
            refine ⟨?_, h4⟩
            simp only [rootV]
            generalize tm.getD t undef = y at this
            cases this; rfl
        · rw [h2.2] at ho; cases ho
    | c k o =>
      simp only [AS.own] at ho
      cases hlk : look σ'.h k with
      | none => rw [hlk] at ho; cases ho
      | some cs =>
        rw [hlk] at ho
        simp only at ho
        obtain ⟨cs0, h1, h2⟩ := hh k cs hlk
        cases hc : cs[o]? with
        | none => rw [hc] at ho; cases ho
        | some u =>
          rw [hc] at ho
          obtain ⟨u0, k1, k2⟩ := h2.get o u hc
          rcases k2.own ho with h3 | ⟨h3, h4⟩
          · right; simp only [id, AS.own]; rw [h1]; simp only; rw [k1]; exact ⟨h3, trivial⟩
          · left
            subst h3
            obtain ⟨b1, b2, arr, e, fr, b3, b4, b5, b6⟩ := (h.box k cs0 h1).at k1 rfl
            have hlt := (List.getElem?_eq_some_iff.1 k1).1
            have hx : arr[o]? = some arr[o] := Array.getElem?_eq_getElem (by omega)
            have := b6 o _ _ k1 hx
            refine ⟨?_, h4⟩
            simp only [rootV, World.cell?, b3]
            rw [hx]
            generalize arr[o] = y at this
            cases this; rfl
theorem SimE.le2 {F : Nat → Prop} {X : GW} {σ σ' : AS} {tm : Array Value} (h : SimE F X σ tm) (hn : σ'.n = σ.n) (ht : ∀ t u', look σ'.t t = some u' → ∃ u, look σ.t t = some u ∧ Le1 u u') (hh : ∀ k cs', look σ'.h k = some cs' → ∃ cs, look σ.h k = some cs ∧ LeL cs cs') (he : ∀ p ∈ σ'.e, p ∈ σ.e) : SimE F X σ' tm :=
  h.le3 hn (fun t u' hu => let ⟨u, h1, h2⟩ := ht t u' hu; ⟨u, h1, .inl h2⟩) hh he
/-- A contract, handed what tells more. -/
theorem ACalls.args {P : Program} {f : FuncId} {us us' : List AV} {H : List (Nat × List AV)} {post : AOut → List (Nat × List AV) → Prop} (hl : us.length = us'.length) (hr : ∀ (i : Nat) u u', us[i]? = some u → us'[i]? = some u' → LeV u u') (h : ACalls P f us' H post) : ACalls P f us H post := by
  refine ⟨h.1, fun F X vs hs => h.2 F X vs ?_⟩
  refine hs.le3 hl.symm (fun t u' hu => ?_) (fun k cs' hk => ⟨cs', hk, LeL.refl _⟩) (fun p hp => hp)
  obtain ⟨_, h2⟩ := look_slotsOf us' 0 t u' hu
  have hlt := (List.getElem?_eq_some_iff.1 h2).1
  have hlt' : t < us.length := by omega
  have e : us[t]? = some us[t] := List.getElem?_eq_getElem hlt'
  refine ⟨us[t], ?_, hr t _ _ e h2⟩
  have key : ∀ (us : List AV) (k t : Nat) (u : AV), us[t]? = some u → look (slotsOf k us) (k + t) = some u := by
    intro us
    induction us with
    | nil => intro k t u h; simp at h
    | cons a us ih =>
      intro k t u h
      simp only [slotsOf, look_cons]
      cases t with
      | zero => simp at h; subst h; simp
      | succ t =>
        rw [if_neg (by omega), show k + (t + 1) = (k + 1) + t by omega]
        exact ih (k + 1) t u (by simpa using h)
  simpa using key us 0 t _ e

section
variable {E : Env} {ρ : Nat → Nat}
def TS.rootT {T : Nat → Type} (σ : TS T) (s : Nat) : Option Root := match look σ.t s with
  | some (.a (.own _ _)) => some (.s s)
  | some (.a (.d (.sl _) _)) => look σ.e s
  | _ => none
theorem rootT_to {σ : TS E.T} {s : Nat} {r : Root} (h : σ.rootT s = some r) : rootOf (σ.to E.toEnc ρ) s = some (r.to ρ) := by
  unfold TS.rootT at h
  unfold rootOf
  split at h
  · rename_i t l hl; cases h; simp only [TS.to, look_tTo, hl]; rfl
  · rename_i t l hl; simp only [TS.to, look_tTo, hl, look_eTo, h]; rfl
  · cases h
theorem rootT_none {σ : TS E.T} {s : Nat} (h : σ.rootT s = none) {u : TV E.T} (hu : look σ.t s = some u) : rootOf (σ.to E.toEnc ρ) s = none ∨ ∃ v, u = .a (.raw v) := by
  unfold TS.rootT at h
  unfold rootOf
  rw [hu] at h
  simp only [TS.to, look_tTo, hu, look_eTo]
  cases u with
  | a x =>
    cases x with
    | d t x =>
      cases t with
      | sl t => left; show Option.map (Root.to ρ) (look σ.e s) = none; rw [show look σ.e s = none from h]; rfl
      | ptr t => left; cases x <;> rfl
      | _ => left; rfl
    | own t l => cases h
    | raw v => right; exact ⟨v, rfl⟩
    | _ => left; rfl
  | _ => left; rfl
def TS.mvT {T : Nat → Type} (σ : TS T) (d s : Nat) (u : TV T) : TS T := match σ.rootT s with
  | some r => match r.in d with
    | true => σ.put d u.rd
    | false => (σ.put d u.rd).alias d r
  | none => σ.put d u.rd
theorem mvT_to {σ : TS E.T} {d s : Nat} {u : TV E.T} (hu : look σ.t s = some u) (hr : ∀ v, u ≠ .a (.raw v)) : (σ.to E.toEnc ρ).mv d s (u.to E.toEnc ρ) = (σ.mvT d s u).to E.toEnc ρ := by
  unfold AS.mv TS.mvT
  cases h : σ.rootT s with
  | none =>
    rcases rootT_none (ρ := ρ) h hu with h1 | ⟨v, h1⟩
    · rw [h1]; simp only [put_to, TV.rd_to]
    · exact absurd h1 (hr v)
  | some r =>
    rw [rootT_to h]
    simp only [root_in]
    cases r.in d
    · simp only [alias_to, put_to, TV.rd_to]
    · simp only [put_to, TV.rd_to]
theorem mvT_h {T : Nat → Type} (σ : TS T) (d s : Nat) (u : TV T) : (σ.mvT d s u).h = σ.h := by
  unfold TS.mvT
  split
  · split <;> rfl
  · rfl
def firstAlT (d : Nat) : List (Nat × Root) → Option Nat
  | [] => none
  | (x, .s t) :: r => match Nat.beq t d, Nat.beq x d with | true, false => some x | _, _ => firstAlT d r
  | (_, .c _ _) :: r => firstAlT d r
theorem firstAl_eTo (d : Nat) : ∀ (e : List (Nat × Root)), firstAl d (eTo ρ e) = firstAlT d e
  | [] => rfl
  | (x, .s t) :: r => by
    have := firstAl_eTo d r
    show (match Nat.beq t d, Nat.beq x d with | true, false => some x | _, _ => firstAl d (eTo ρ r)) = (match Nat.beq t d, Nat.beq x d with | true, false => some x | _, _ => firstAlT d r)
    rw [this]
  | (x, .c k o) :: r => firstAl_eTo d r
def TS.freeT {T : Nat → Type} (σ : TS T) (d : Nat) : TS T := match firstAlT d σ.e with
  | some x => σ.hand x d
  | none => σ
theorem own_none_hand {σ : AS} {x : Nat} {r : Root} (h : σ.own r = none) : σ.hand x r = σ := by unfold AS.hand; rw [h]
theorem hand_to' (σ : TS E.T) (x t : Nat) (hr : ∀ v, look σ.t t ≠ some (.a (.raw v))) : (σ.hand x t).to E.toEnc ρ = (σ.to E.toEnc ρ).hand x (.s t) := by
  by_cases h : ∃ ty l, look σ.t t = some (.a (.own ty l))
  · obtain ⟨ty, l, hl⟩ := h
    exact hand_to σ hl
  · have h1 : σ.hand x t = σ := by
      unfold TS.hand
      split
      · rename_i ty l hl; exact absurd ⟨ty, l, hl⟩ h
      · rfl
    rw [h1, own_none_hand]
    simp only [AS.own, TS.to, look_tTo]
    cases hl : look σ.t t with
    | none => rfl
    | some u =>
      cases u with
      | a x =>
        cases x with
        | d t x => exact one_plain _ _ _
        | own t l => exact absurd ⟨t, l, hl⟩ h
        | raw v => exact absurd hl (hr v)
        | _ => rfl
      | _ => rfl
theorem freeT_h {T : Nat → Type} (σ : TS T) (d : Nat) : (σ.freeT d).h = σ.h := by
  unfold TS.freeT
  split
  · unfold TS.hand; split <;> rfl
  · rfl
theorem hand_raw {σ : AS} {x t : Nat} {v : Value} (h : look σ.t t = some (.v v)) : σ.hand x (.s t) = σ := own_none_hand (by simp only [AS.own, h]; rfl)
theorem freeT_to (σ : TS E.T) (d : Nat) : (σ.freeT d).to E.toEnc ρ = (σ.to E.toEnc ρ).free d := by
  unfold TS.freeT AS.free
  have : firstAl d (σ.to E.toEnc ρ).e = firstAlT d σ.e := firstAl_eTo d σ.e
  rw [this]
  cases hx : firstAlT d σ.e with
  | some x =>
    simp only
    by_cases hr : ∃ v, look σ.t d = some (.a (.raw v))
    · obtain ⟨v, hv⟩ := hr
      have h1 : σ.hand x d = σ := by unfold TS.hand; rw [hv]
      rw [h1]
      exact (hand_raw (v := v) (by simp only [TS.to, look_tTo, hv]; rfl)).symm
    · exact hand_to' σ x d fun v hv => hr ⟨v, hv⟩
  | none => rfl
def dropCT (e : List (Nat × Root)) : List (Nat × Root) := e.filter fun p => match p.2 with | .s _ => true | .c _ _ => false
theorem dropC_eTo (e : List (Nat × Root)) : (eTo ρ e).filter (fun p => match p.2 with | .s _ => true | .c _ _ => false) = eTo ρ (dropCT e) := by
  unfold eTo dropCT
  rw [List.filter_map]
  congr 1
  apply List.filter_congr
  intro p _
  obtain ⟨a, b⟩ := p
  cases b <;> rfl
def TS.dropC {T : Nat → Type} (σ : TS T) : TS T := { n := σ.n, t := σ.t, h := σ.h, e := dropCT σ.e }
theorem dropC_to (σ : TS E.T) : σ.dropC.to E.toEnc ρ = (σ.to E.toEnc ρ).dropC := congrArg (AS.mk _ _ _) (dropC_eTo σ.e).symm
def TS.setc {T : Nat → Type} (σ : TS T) (k : Nat) (cs : List (TA T)) : TS T := { n := σ.n, t := σ.t, h := (k, .cs cs) :: σ.h, e := dropCT σ.e }
theorem setc_to (σ : TS E.T) (k : Nat) (cs : List (TA E.T)) : (σ.setc k cs).to E.toEnc ρ = (σ.to E.toEnc ρ).setc (ρ k) (cs.map (TA.to E.toEnc ρ)) := congrArg (AS.mk _ _ _) (dropC_eTo σ.e).symm
theorem inj_cons {T : Nat → Type} {h : List (Nat × TB T)} {k : Nat} {b b' : TB T} (hi : Inj ρ h) (hb : look h k = some b) : Inj ρ ((k, b') :: h) := hi.sub fun p hp => by
  rcases List.mem_cons.1 hp with rfl | hp
  · exact ⟨_, look_mem hb, rfl⟩
  · exact ⟨p, hp, rfl⟩

/-! ### New boxes -/
def TA.noId {T : Nat → Type} (d : Nat) : TA T → Bool
  | .box i _ => !Nat.beq i d
  | .mpr i => !Nat.beq i d
  | .fnb _ l => l.all fun i => !Nat.beq i d
  | .bsl i _ _ _ => !Nat.beq i d
  | _ => true
def TC.noId {T : Nat → Type} (d : Nat) : TC T → Bool
  | .a x => x.noId d
  | .ag l => l.all (TA.noId d)
def TV.noId {T : Nat → Type} (d : Nat) : TV T → Bool
  | .a x => x.noId d
  | .ag l => l.all (TA.noId d)
  | .el l => l.all (TA.noId d)
  | .tu l => l.all (TC.noId d)
  | .fn _ l => l.all (TA.noId d)
  | .ifc _ x => x.noId d
def TB.noId {T : Nat → Type} (d : Nat) : TB T → Bool
  | .cs l => l.all (TA.noId d)
  | .smap _ _ => true
  | .row _ _ => true
def Root.noId (d : Nat) : Root → Bool
  | .s _ => true
  | .c k _ => !Nat.beq k d
def TS.noId {T : Nat → Type} (d : Nat) (σ : TS T) : Bool := σ.t.all (fun p => p.2.noId d) && σ.h.all (fun p => !Nat.beq p.1 d && p.2.noId d) && σ.e.all fun p => p.2.noId d
def upd (ρ : Nat → Nat) (d k : Nat) : Nat → Nat := fun i => if i = d then k else ρ i
theorem upd_ne {d k i : Nat} (h : (!Nat.beq i d) = true) : upd ρ d k i = ρ i := by
  unfold upd
  rw [if_neg]
  rintro rfl
  rw [Nat.beq_refl] at h; cases h
theorem TA.upd_to {d k : Nat} {x : TA E.T} (h : x.noId d = true) : x.to E.toEnc (upd ρ d k) = x.to E.toEnc ρ := by
  cases x with
  | box i o => simp only [TA.to, upd_ne (ρ := ρ) (k := k) h]
  | mpr i => simp only [TA.to, upd_ne (ρ := ρ) (k := k) h]
  | bsl i off n c => simp only [TA.to, upd_ne (ρ := ρ) (k := k) h]
  | fnb f l => simp only [TA.to]; rw [List.map_congr_left fun i hi => by rw [upd_ne (ρ := ρ) (k := k) (List.all_eq_true.1 h i hi)]]
  | _ => rfl
theorem mapTA_upd {d k : Nat} {l : List (TA E.T)} (h : l.all (TA.noId d) = true) : l.map (TA.to E.toEnc (upd ρ d k)) = l.map (TA.to E.toEnc ρ) :=
  List.map_congr_left fun x hx => TA.upd_to (List.all_eq_true.1 h x hx)
theorem TC.upd_to {d k : Nat} {x : TC E.T} (h : x.noId d = true) : x.to E.toEnc (upd ρ d k) = x.to E.toEnc ρ := by
  cases x with
  | a x => exact TA.upd_to h
  | ag l => simp only [TC.to]; rw [mapTA_upd h]
theorem TV.upd_to {d k : Nat} {x : TV E.T} (h : x.noId d = true) : x.to E.toEnc (upd ρ d k) = x.to E.toEnc ρ := by
  cases x with
  | a x => exact TA.upd_to h
  | ag l => simp only [TV.to]; rw [mapTA_upd h]
  | el l => simp only [TV.to]; rw [mapTA_upd h]
  | tu l => simp only [TV.to]; rw [List.map_congr_left fun x hx => TC.upd_to (List.all_eq_true.1 h x hx)]
  | fn f l => simp only [TV.to]; rw [mapTA_upd h]
  | ifc t x => simp only [TV.to]; rw [TC.upd_to h]
theorem TB.upd_to {d k : Nat} {x : TB E.T} (h : x.noId d = true) : x.to E.toEnc (upd ρ d k) = x.to E.toEnc ρ := by
  cases x with
  | cs l => exact mapTA_upd h
  | smap t l => rfl
  | row t l => rfl
theorem TS.upd_to {d k : Nat} {σ : TS E.T} (h : σ.noId d = true) : σ.to E.toEnc (upd ρ d k) = σ.to E.toEnc ρ := by
  unfold TS.noId at h
  simp only [Bool.and_eq_true] at h
  obtain ⟨⟨h1, h2⟩, h3⟩ := h
  unfold TS.to
  congr 1
  · exact List.map_congr_left fun p hp => by rw [TV.upd_to (List.all_eq_true.1 h1 p hp)]
  · exact List.map_congr_left fun p hp => by
      have := List.all_eq_true.1 h2 p hp
      simp only [Bool.and_eq_true] at this
      rw [TB.upd_to this.2, upd_ne (ρ := ρ) this.1]
  · exact List.map_congr_left fun p hp => by
      have := List.all_eq_true.1 h3 p hp
      obtain ⟨a, b⟩ := p
      cases b with
      | s t => rfl
      | c k o => simp only [Root.to, upd_ne (ρ := ρ) this]
def TS.boxT {T : Nat → Type} (σ : TS T) (d : Nat) (cs : List (TA T)) : TS T := { n := σ.n, t := σ.t, h := (d, .cs cs) :: σ.h, e := σ.e }
def TS.boxM {T : Nat → Type} (σ : TS T) (d : Nat) (t : Ty) (l : List (List UInt8 × Den T t)) : TS T := { n := σ.n, t := σ.t, h := (d, .smap t l) :: σ.h, e := σ.e }
def TS.boxR {T : Nat → Type} (σ : TS T) (d : Nat) (t : Ty) (l : List (Den T t)) : TS T := { n := σ.n, t := σ.t, h := (d, .row t l) :: σ.h, e := σ.e }
def TS.setr {T : Nat → Type} (σ : TS T) (k : Nat) (t : Ty) (l : List (Den T t)) : TS T := { n := σ.n, t := σ.t, h := (k, .row t l) :: σ.h, e := dropCT σ.e }
def TS.setm {T : Nat → Type} (σ : TS T) (k : Nat) (t : Ty) (l : List (List UInt8 × Den T t)) : TS T := { n := σ.n, t := σ.t, h := (k, .smap t l) :: σ.h, e := dropCT σ.e }
theorem setm_to (σ : TS E.T) (k : Nat) (t : Ty) (l : List (List UInt8 × Den E.T t)) : (σ.setm k t l).to E.toEnc ρ = (σ.to E.toEnc ρ).setc (ρ k) [smap (l.map fun p => (p.1, one E.toEnc t p.2))] := congrArg (AS.mk _ _ _) (dropC_eTo σ.e).symm
theorem setr_to (σ : TS E.T) (k : Nat) (t : Ty) (l : List (Den E.T t)) : (σ.setr k t l).to E.toEnc ρ = (σ.to E.toEnc ρ).setc (ρ k) ((TB.row t l : TB E.T).to E.toEnc ρ) := congrArg (AS.mk _ _ _) (dropC_eTo σ.e).symm
theorem boxT_inj {σ : TS E.T} {d k : Nat} {cs : List (TA E.T)} (hi : Inj ρ σ.h) (hn : σ.noId d = true) (hk : FreshK k (σ.to E.toEnc ρ).h) : Inj (upd ρ d k) (σ.boxT d cs).h := by
  unfold TS.noId at hn
  simp only [Bool.and_eq_true] at hn
  have h2 := List.all_eq_true.1 hn.1.2
  have hne : ∀ p ∈ σ.h, upd ρ d k p.1 = ρ p.1 := fun p hp => by
    have := h2 p hp
    simp only [Bool.and_eq_true] at this
    exact upd_ne this.1
  have hd : upd ρ d k d = k := by unfold upd; rw [if_pos rfl]
  have hfr : ∀ p ∈ σ.h, ρ p.1 ≠ k := fun p hp => hk (ρ p.1, p.2.to E.toEnc ρ) (List.mem_map.2 ⟨p, hp, rfl⟩)
  intro p hp q hq e
  rcases List.mem_cons.1 hp with rfl | hp
  · rcases List.mem_cons.1 hq with rfl | hq
    · rfl
    · simp only [hd] at e; rw [hne q hq] at e; exact absurd e.symm (hfr q hq)
  · rcases List.mem_cons.1 hq with rfl | hq
    · simp only [hd] at e; rw [hne p hp] at e; exact absurd e (hfr p hp)
    · rw [hne p hp, hne q hq] at e; exact hi p hp q hq e
/-- The zero cells of a type, nil told as what it is. -/
def zeroC {T : Nat → Type} : List Ty → List Value → List (TA T)
  | .sl t :: ts, .slice none 0 0 :: vs => .own t [] :: zeroC ts vs
  | _ :: ts, v :: vs => atomT v :: zeroC ts vs
  | [], vs => vs.map atomT
  | _ :: _, [] => []
theorem zeroC_to : ∀ (ts : List Ty) (vs : List Value), LeL (vs.map AV.v) ((zeroC ts vs).map (TA.to E.toEnc ρ))
  | [], vs => by
    simp only [zeroC, List.map_map]
    induction vs with
    | nil => exact .nil
    | cons v vs ih => exact .cons (by show Le1 (AV.v v) ((atomT v).to E.toEnc ρ); rw [atomT_to]; exact .refl _) ih
  | t :: ts, [] => by cases t <;> exact .nil
  | t :: ts, v :: vs => by
    unfold zeroC
    split
    · rename_i h1 h2; cases h1; cases h2; exact .cons (.nil _ _) (zeroC_to _ _)
    · rename_i h1 h2; cases h1; cases h2; exact .cons (by rw [atomT_to]; exact .refl _) (zeroC_to _ _)
    · rename_i h2; cases h2
    · rename_i h2; cases h2
end
/-- nil, told as an empty list of its own. -/
def nilC {T : Nat → Type} : List Ty → List (TA T) → List (TA T)
  | .sl t :: ts, .raw (.slice none 0 0) :: vs => .own t [] :: nilC ts vs
  | _ :: ts, v :: vs => v :: nilC ts vs
  | [], vs => vs
  | _ :: _, [] => []
theorem nilC_to {E : Env} {ρ : Nat → Nat} : ∀ (ts : List Ty) (vs : List (TA E.T)), LeL (vs.map (TA.to E.toEnc ρ)) ((nilC ts vs).map (TA.to E.toEnc ρ))
  | [], vs => by unfold nilC; exact LeL.refl _
  | t :: ts, [] => by cases t <;> exact .nil
  | t :: ts, v :: vs => by
    unfold nilC
    split
    · rename_i h1 h2; cases h1; cases h2; exact .cons (.nil _ _) (nilC_to _ _)
    · rename_i h1 h2; cases h1; cases h2; exact .cons (.refl _) (nilC_to _ _)
    · rename_i h2; cases h2
    · rename_i h2; cases h2
/-! ### Which boxes are named -/
def TA.ids {T : Nat → Type} (p : Nat → Bool) : TA T → Bool
  | .box i _ => p i
  | .mpr i => p i
  | .fnb _ l => l.all p
  | .bsl i _ _ _ => p i
  | _ => true
def TC.ids {T : Nat → Type} (p : Nat → Bool) : TC T → Bool
  | .a x => x.ids p
  | .ag l => l.all (TA.ids p)
def TV.ids {T : Nat → Type} (p : Nat → Bool) : TV T → Bool
  | .a x => x.ids p
  | .ag l => l.all (TA.ids p)
  | .el l => l.all (TA.ids p)
  | .tu l => l.all (TC.ids p)
  | .fn _ l => l.all (TA.ids p)
  | .ifc _ x => x.ids p
def TB.ids {T : Nat → Type} (p : Nat → Bool) : TB T → Bool
  | .cs l => l.all (TA.ids p)
  | .smap _ _ => true
  | .row _ _ => true
def hIds {T : Nat → Type} (p : Nat → Bool) (h : List (Nat × TB T)) : Bool := h.all fun q => p q.1 && q.2.ids p
section
variable {E : Env} {ρ ρ' : Nat → Nat} {p : Nat → Bool}
theorem TA.ids_to (hp : ∀ i, p i = true → ρ' i = ρ i) {x : TA E.T} (h : x.ids p = true) : x.to E.toEnc ρ' = x.to E.toEnc ρ := by
  cases x with
  | box i o => simp only [TA.to, hp i h]
  | mpr i => simp only [TA.to, hp i h]
  | bsl i off n c => simp only [TA.to, hp i h]
  | fnb f l => simp only [TA.to]; rw [List.map_congr_left fun i hi => by rw [hp i (List.all_eq_true.1 h i hi)]]
  | _ => rfl
theorem mapTA_ids (hp : ∀ i, p i = true → ρ' i = ρ i) {l : List (TA E.T)} (h : l.all (TA.ids p) = true) : l.map (TA.to E.toEnc ρ') = l.map (TA.to E.toEnc ρ) :=
  List.map_congr_left fun x hx => TA.ids_to hp (List.all_eq_true.1 h x hx)
theorem TC.ids_to (hp : ∀ i, p i = true → ρ' i = ρ i) {x : TC E.T} (h : x.ids p = true) : x.to E.toEnc ρ' = x.to E.toEnc ρ := by
  cases x with
  | a x => exact TA.ids_to hp h
  | ag l => simp only [TC.to]; rw [mapTA_ids hp h]
theorem TV.ids_to (hp : ∀ i, p i = true → ρ' i = ρ i) {x : TV E.T} (h : x.ids p = true) : x.to E.toEnc ρ' = x.to E.toEnc ρ := by
  cases x with
  | a x => exact TA.ids_to hp h
  | ag l => simp only [TV.to]; rw [mapTA_ids hp h]
  | el l => simp only [TV.to]; rw [mapTA_ids hp h]
  | tu l => simp only [TV.to]; rw [List.map_congr_left fun x hx => TC.ids_to hp (List.all_eq_true.1 h x hx)]
  | fn f l => simp only [TV.to]; rw [mapTA_ids hp h]
  | ifc t x => simp only [TV.to]; rw [TC.ids_to hp h]
theorem TB.ids_to (hp : ∀ i, p i = true → ρ' i = ρ i) {x : TB E.T} (h : x.ids p = true) : x.to E.toEnc ρ' = x.to E.toEnc ρ := by
  cases x with
  | cs l => exact mapTA_ids hp h
  | smap t l => rfl
  | row t l => rfl
theorem hIds_to (hp : ∀ i, p i = true → ρ' i = ρ i) {h : List (Nat × TB E.T)} (hh : hIds p h = true) : hTo E.toEnc ρ' h = hTo E.toEnc ρ h :=
  List.map_congr_left fun q hq => by
    have := List.all_eq_true.1 hh q hq
    simp only [Bool.and_eq_true] at this
    rw [TB.ids_to hp this.2, hp _ this.1]
end
/-- Boxes that were handed in have great names; these stay as they are. -/
def big (i : Nat) : Bool := Nat.ble 100000 i
def Agr (ρ ρ' : Nat → Nat) : Prop := ∀ i, big i = true → ρ' i = ρ i
theorem Agr.refl (ρ : Nat → Nat) : Agr ρ ρ := fun _ _ => rfl
theorem Agr.trans {ρ ρ' ρ'' : Nat → Nat} (h : Agr ρ ρ') (h' : Agr ρ' ρ'') : Agr ρ ρ'' := fun i hi => (h' i hi).trans (h i hi)
theorem Agr.upd {ρ : Nat → Nat} {d k : Nat} (h : Nat.ble d 99999 = true) : Agr ρ (upd ρ d k) := fun i hi => by
  have h1 := Nat.le_of_ble_eq_true h
  have h2 := Nat.le_of_ble_eq_true (show Nat.ble 100000 i = true from hi)
  unfold Go.Proofs.YtgmlkhfjhogdbaaGreat.upd
  rw [if_neg (by omega)]
/-! ### Boxes, by their names -/
theorem look_hTo_inv {E : Env} {ρ : Nat → Nat} : ∀ {L : List (Nat × TB E.T)} {k : Nat} {cs : List AV}, look (hTo E.toEnc ρ L) k = some cs → ∃ i b, ρ i = k ∧ look L i = some b ∧ b.to E.toEnc ρ = cs
  | [], _, _, h => by cases h
  | (j, b) :: r, k, cs, h => by
    simp only [hTo, List.map_cons, look_cons] at h
    split at h
    · rename_i e
      cases h
      exact ⟨j, b, e.symm, by rw [look_cons, if_pos rfl], rfl⟩
    · rename_i e
      obtain ⟨i, b', h1, h2, h3⟩ := look_hTo_inv (L := r) h
      exact ⟨i, b', h1, by rw [look_cons, if_neg (fun e2 => e (by rw [← h1, e2]))]; exact h2, h3⟩
def memN : List Nat → Nat → Bool
  | [], _ => false
  | k :: r, i => match Nat.beq i k with | true => true | false => memN r i
theorem memN_mem : ∀ {l : List Nat} {i : Nat}, memN l i = true ↔ i ∈ l
  | [], i => ⟨fun h => (by cases h), fun h => (by cases h)⟩
  | k :: r, i => by
    simp only [memN, List.mem_cons]
    split
    · rename_i e; exact ⟨fun _ => .inl (Nat.eq_of_beq_eq_true e), fun _ => rfl⟩
    · rename_i e
      rw [memN_mem (l := r)]
      exact ⟨.inr, fun h => h.resolve_left fun e2 => by subst e2; rw [Nat.beq_refl] at e; cases e⟩
def dropHH {T : Nat → Type} (ids : List Nat) : List (Nat × TB T) → List (Nat × TB T)
  | [] => []
  | (k, b) :: r => match memN ids k with
    | true => dropHH ids r
    | false => (k, b) :: dropHH ids r
theorem look_keepIn {T : Nat → Type} {h : List (Nat × TB T)} : ∀ {ids : List Nat} {i : Nat} {b : TB T}, look (keepHH h ids) i = some b → look h i = some b ∧ i ∈ ids
  | [], _, _, e => by cases e
  | k :: ks, i, b, e => by
    simp only [keepHH] at e
    split at e
    · rename_i b' hb
      rw [look_cons] at e
      split at e
      · rename_i e2; subst e2; cases e; exact ⟨hb, List.mem_cons_self⟩
      · exact ⟨(look_keepIn e).1, List.mem_cons_of_mem _ (look_keepIn e).2⟩
    · exact ⟨(look_keepIn e).1, List.mem_cons_of_mem _ (look_keepIn e).2⟩
theorem look_dropHH {T : Nat → Type} {ids : List Nat} : ∀ {h : List (Nat × TB T)} {i : Nat} {b : TB T}, look (dropHH ids h) i = some b → look h i = some b ∧ i ∉ ids
  | [], _, _, e => by cases e
  | (k, b') :: r, i, b, e => by
    simp only [dropHH] at e
    split at e
    · rename_i hk
      obtain ⟨h1, h2⟩ := look_dropHH (h := r) e
      refine ⟨?_, h2⟩
      rw [look_cons, if_neg]
      · exact h1
      · rintro rfl; exact h2 (memN_mem.1 hk)
    · rename_i hk
      rw [look_cons] at e ⊢
      split at e
      · rename_i e2
        subst e2
        exact ⟨by rw [if_pos rfl]; exact e, fun hm => by rw [memN_mem.2 hm] at hk; cases hk⟩
      · rename_i e2
        rw [if_neg e2]
        exact look_dropHH e
theorem dropHH_ids {T : Nat → Type} {ids : List Nat} : ∀ {h : List (Nat × TB T)}, ∀ p ∈ dropHH ids h, p ∈ h
  | [], p, hp => by cases hp
  | (k, b) :: r, p, hp => by
    simp only [dropHH] at hp
    split at hp
    · exact List.mem_cons_of_mem _ (dropHH_ids p hp)
    · rcases List.mem_cons.1 hp with rfl | hp
      · exact List.mem_cons_self
      · exact List.mem_cons_of_mem _ (dropHH_ids p hp)
end Go.Proofs.YtgmlkhfjhogdbaaGreat

/- Typed abstract values: a region's operations, in the text's order. -/
namespace Go.Proofs.YtgmlkhfjhogdbaaGreat
open Go.RowKit P
set_option linter.unusedSimpArgs false
set_option linter.unusedVariables false

def appC {α : Type} (by_ : Nat) (l m : List α) : Option (List α) := if (l.length + m.length) * by_ ≤ 140737488355328 then some (l ++ m) else none
/-- append to a slice without spare room -/
def appCl {α : Type} (by_ : Nat) (l m : List α) : Option (List α) := match m with
  | [] => none
  | _ :: _ => appC by_ l m
/-- What is appended. -/
def addT {T : Nat → Type} (t : Ty) : Option (TV T) → Option (List (Den T t))
  | some (.a (.d (.sl t') l)) => castD (.sl t') (.sl t) l
  | some (.a (.own t' l)) => castD (.sl t') (.sl t) l
  | some (.a (.d .str s)) => castD (.sl .byte) (.sl t) s
  | some (.a (.raw (.slice none 0 0))) => some []
  | _ => none
section
variable {E : Env}
/-- The captured boxes. -/
def cbs {T : Nat → Type} : List (TA T) → Option (List Nat)
  | [] => some []
  | .box i 0 :: r => match cbs r with
    | some l => some (i :: l)
    | none => none
  | _ => none
theorem cbs_to : ∀ {l : List (TA E.T)} {is : List Nat}, cbs l = some is → l = is.map fun i => .box i 0
  | [], is, h => by cases h; rfl
  | x :: r, is, h => by
    unfold cbs at h
    split at h
    · rename_i e; cases e
    · rename_i i r' e
      cases e
      split at h
      · rename_i l hl
        cases h
        rw [cbs_to hl]; rfl
      · cases h
    · cases h
end
/-- Cells that may be stored. -/
def TV.cs1 {T : Nat → Type} : TV T → Option (List (TA T))
  | .a x => match x.simple with
    | true => some [x.rd]
    | false => none
  | .ag l => match l.all (fun x => x.simple && x.plain) with
    | true => some l
    | false => none
  | .fn f l => match cbs l with
    | some is => some [.fnb f is]
    | none => none
  | _ => none
/-- What is put into a map. -/
def mval {T : Nat → Type} (t : Ty) : Option (TV T) → Option (Den T t)
  | some (.a (.d t' x)) => castD t' t x
  | some (.a .tt) => castD .bool t (true : Bool)
  | some (.a .ff) => castD .bool t (false : Bool)
  | _ => none
theorem mval_to {E : Env} {ρ : Nat → Nat} {σ : TS E.T} {t : Ty} {y : Operand} {x : Den E.T t} (h : mval t (opT σ y) = some x) : ∃ v, opV (σ.to E.toEnc ρ) y = some v ∧ v.rd = one E.toEnc t x := by
  cases hy : opT σ y with
  | none => rw [hy] at h; cases h
  | some u =>
    rw [hy] at h
    refine ⟨u.to E.toEnc ρ, opT_to hy, ?_⟩
    unfold mval at h
    split at h
    · rename_i t' x' e; cases e
      obtain ⟨e, rfl⟩ := castD_some h
      cases e
      exact one_rd _ _ _
    · rename_i e; cases e
      obtain ⟨e, rfl⟩ := castD_some h
      cases e; rfl
    · rename_i e; cases e
      obtain ⟨e, rfl⟩ := castD_some h
      cases e; rfl
    · cases h
def hasB : List Nat → Nat → Bool
  | [], _ => false
  | k :: r, i => match Nat.beq i k with | true => true | false => hasB r i
/-- Types of what is written in place, and what stands there first. -/
def byA : TypeDesc → Option Ty
  | .int .u8 => some .byte
  | d => mapTy d
def zeroA {T : Nat → Type} (t : Ty) (v : Value) : Option (Den T t) := match t with
  | .byte => match v with
    | .int .u8 n => if ((UInt8.ofNat n.toNat).toNat : Int) = n then some (UInt8.ofNat n.toNat) else none
    | _ => none
  | .int k => zeroM (.int k) v
  | .bool => zeroM .bool v
  | .str => zeroM .str v
  | _ => none
def zerosA {T : Nat → Type} (t : Ty) : List Value → Option (List (Den T t))
  | [] => some []
  | v :: vs => match zeroA t v, zerosA t vs with
    | some z, some zs => some (z :: zs)
    | _, _ => none
def plain1 {T : Nat → Type} : TV T → Bool
  | .a x => x.plain && x.simple
  | _ => false
def setA {α : Type} (l : List α) (o : Nat) (v : α) : Option (List α) := if o < l.length then some (l.set o v) else none
def apnA {α : Type} (l : List α) (n c : Nat) (m : List α) : Option (List α) := if n + m.length ≤ c ∧ n + m.length ≤ l.length then some (l.take n ++ m ++ l.drop (n + m.length)) else none
def makC (by_ : Nat) (n c : Int) : Option (Nat × Nat) := if 0 ≤ n ∧ n ≤ c ∧ (by_ : Int) * c ≤ 281474976710656 ∧ c ≤ 9223372036854775807 then some (n.toNat, c.toNat) else none
def isStrSl : TypeDesc → Bool
  | .string => true
  | .slice _ => true
  | _ => false
section
variable {P : Program} (Y : Tys P) (E : Env) (G : Gam E)
def pureT (σ : TS E.T) (d : Nat) (op : Op) (ty : TypeId) : Tree (TS E.T) :=
  match evP Y E G σ op ty with
  | .one u => .leaf (σ.put d u)
  | .opt o u => .bnd o fun z => .leaf (σ.put d (u z))
  | .bad => .fail
def appT (σ : TS E.T) (d : Nat) (t e : TypeId) (x y : Operand) (sz by_ : Nat) : Tree (TS E.T) :=
  match x with
  | .tmp s => match σ.rootT s with
    | some r => match σ.ownAt r with
      | some ⟨ty, l⟩ => match Nat.beq sz (csz E.toEnc ty), addT ty (opT σ y) with
        | true, some m => .bnd (appC by_ l m) fun r' => .leaf ((σ.lay r).dropC.put d (.a (.own ty r')))
        | _, _ => .fail
      | none => .fail
    | none => match look σ.t s, look E.et t with
      | some (.a (.raw (.slice none 0 0))), some (.sl ty) => match Nat.beq sz (csz E.toEnc ty), addT ty (opT σ y) with
        | true, some m => .bnd (appC by_ [] m) fun r' => .leaf (σ.dropC.put d (.a (.own ty r')))
        | _, _ => .fail
      | some (.a (.clip ty l)), _ => match Nat.beq sz (csz E.toEnc ty), addT ty (opT σ y) with
        | true, some m => .bnd (appCl by_ l m) fun r' => .leaf (σ.dropC.put d (.a (.own ty r')))
        | _, _ => .fail
      | _, _ => .fail
  | .const (.slice none 0 0) => match look E.et t with
    | some (.sl ty) => match Nat.beq sz (csz E.toEnc ty), addT ty (opT σ y) with
      | true, some m => .bnd (appC by_ [] m) fun r' => .leaf (σ.dropC.put d (.a (.own ty r')))
      | _, _ => .fail
    | _ => .fail
  | _ => .fail
def storeP (σ : TS E.T) (t : TypeId) (k o n : Nat) (y : Operand) : Tree (TS E.T) :=
  match look σ.h k, opT σ y with
  | some (.cs cs), some (.a (.raw (.slice none 0 0))) => match look E.et t with
    | some (.sl ty) => match Nat.beq n 1 && Nat.ble (o + 1) cs.length with
      | true => .leaf (σ.setc k (spl cs o [.own ty []]))
      | false => .fail
    | _ => .fail
  | some (.cs cs), some u => match u.cs1 with
    | some vs => match Nat.beq vs.length n && Nat.ble (o + n) cs.length with
      | true => .leaf (σ.setc k (spl cs o (nilC ((look E.ct t).getD []) vs)))
      | false => .fail
    | none => .fail
  | _, _ => .fail
def evOp0 (o : Oper) (σ : TS E.T) : Tree (TS E.T) :=
  match o.dst with
  | some d => match Nat.ble (d + 1) σ.n with
    | true => match o.op with
      | .move (.tmp s) => match look σ.t s with
        | some (.a (.raw _)) => pureT Y E G σ d o.op o.type
        | some u => .leaf (σ.mvT d s u)
        | none => .fail
      | .assign (.tmp s) => match look (σ.freeT d).t s with
        | some (.a (.raw _)) => pureT Y E G σ d o.op o.type
        | some u => .leaf ((σ.freeT d).mvT d s u)
        | none => .fail
      | .pick c x y => match opT σ c with
        | some (.a .tt) => match opT σ x with
          | some u => .leaf (σ.put d u.rd)
          | none => .fail
        | some (.a .ff) => match opT σ y with
          | some u => .leaf (σ.put d u.rd)
          | none => .fail
        | some (.a (.d .bool b)) => match opT σ x, opT σ y with
          | some u, some v => .cond b (.leaf (σ.put d u.rd)) (.leaf (σ.put d v.rd))
          | _, _ => .fail
        | _ => .fail
      | .alloc el => match look Y.zr el, σ.noId d && Nat.ble d 99999 with
        | some zv, true => .leaf ((σ.boxT d (zeroC ((look E.ct el).getD []) zv.cells.toList)).put d (.a (.box d 0)))
        | _, _ => .fail
      | .box el x => match opT σ x, σ.noId d && Nat.ble d 99999 with
        | some u, true => match u.cs1 with
          | some vs => .leaf ((σ.boxT d vs).put d (.a (.box d 0)))
          | none => .fail
        | _, _ => .fail
      | .load t x => match opT σ x, look Y.ty t with
        | some (.a (.box k p)), some dsc => match oneB dsc with
          | true => match look σ.h k with
            | some (.cs cs) => match cs[p]? with
              | some c => .leaf ((σ.put d (.a c.rd)).alias d (.c k p))
              | none => .fail
            | _ => .fail
          | false => pureT Y E G σ d o.op o.type
        | _, _ => pureT Y E G σ d o.op o.type
      | .makeMap t none => match look Y.ty t with
        | some (.map kt et) => match look Y.ty kt, (look Y.ty et).bind mapTy, σ.noId d && Nat.ble d 99999 with
          | some .string, some ty, true => .leaf ((σ.boxM d ty []).put d (.a (.mpr d)))
          | _, _, _ => .fail
        | _ => .fail
      | .call { callee := .builtin .append, args := xs, argTypes := ats } => match xs.toList, ats.toList with
        | [x, y], [t, u] => match look Y.ty t, look Y.ty u with
          | some (.slice e), some du => match look Y.sz e with
            | some (sz, by_) => match isStrSl du && Nat.ble 1 by_ with
              | true => appT E σ d t e x y sz by_
              | false => .fail
            | none => .fail
          | _, _ => .fail
        | _, _ => .fail
      | op => pureT Y E G σ d op o.type
    | false => .fail
  | none => match o.op with
    | .store t x y => match opT σ x, look Y.sz t with
      | some (.a (.box k p)), some (n, _) => match y with
        | .tmp s => match σ.rootT s with
          | some r => match σ.ownAt r with
            | some ⟨ty, l⟩ => match look (σ.lay r).h k with
              | some (.cs cs) => match Nat.beq n 1 && Nat.ble (p + 1) cs.length with
                | true => .leaf ((σ.lay r).setc k (spl cs p [.own ty l]))
                | false => .fail
              | _ => .fail
            | none => storeP E σ t k p n y
          | none => storeP E σ t k p n y
        | y => storeP E σ t k p n y
      | _, _ => .fail
    | .mapUpdate t x y z => match look Y.ty t, opT σ x, asS (opT σ y) with
      | some (.map kt _), some (.a (.mpr k)), some key => match look Y.ty kt, look σ.h k with
        | some .string, some (.smap ty l) => match mval ty (opT σ z) with
          | some v => .leaf (σ.setm k ty (mset l key v))
          | none => .fail
        | _, _ => .fail
      | _, _, _ => .fail
    | _ => .fail
/-! Boxes of elements that are written in place. -/
def evOpB (o : Oper) (σ : TS E.T) : Option (Tree (TS E.T)) :=
  match o.dst, o.op with
  | some d, .alloc el => match look Y.ty el with
    | some (.array _ e) => match (look Y.ty e).bind byA, look Y.zr el, (σ.noId d && Nat.ble d 99999) && Nat.ble (d + 1) σ.n with
      | some ty, some zv, true => match ty.lone, zerosA (T := E.T) ty zv.cells.toList with
        | true, some l => some (.leaf ((σ.boxR d ty l).put d (.a (.box d 0))))
        | _, _ => none
      | _, _, _ => none
    | _ => none
  | some d, .makeSlice t x y => match hasB G.mu d, look Y.ty t, asI (opT σ x), asI (opT σ y) with
    | true, some (.slice e), some (_, n), some (_, c) => match (look Y.ty e).bind byA, look Y.zr e, look Y.sz e, (σ.noId d && Nat.ble d 99999) && Nat.ble (d + 1) σ.n with
      | some ty, some zv, some (1, by_), true => match ty.lone, zerosA (T := E.T) ty zv.cells.toList with
        | true, some [z] => some (.bnd (makC by_ n c) fun p => .leaf ((σ.boxR d ty (List.replicate p.2 z)).put d (.a (.bsl d 0 p.1 p.2))))
        | _, _ => none
      | _, _, _, _ => none
    | _, _, _, _ => none
  | some d, .buildSlice t len ps => match hasB G.mu d, look Y.ty t, look E.et t, opTs σ (ps.toList.map (·.2)) with
    | true, some (.slice e), some (.sl ty), some us => match ty.lone && sz1 Y e, packAll E ty us, (σ.noId d && Nat.ble d 99999) && Nat.ble (d + 1) σ.n, partsOk ps.toList 0 && Nat.beq len ps.toList.length && Nat.ble (len * 1) 16777216 && us.all plain1 with
      | true, some xs, true, true => some (.leaf ((σ.boxR d ty xs).put d (.a (.bsl d 0 len len))))
      | _, _, _, _ => none
    | _, _, _, _ => none
  | some d, .load t x => match opT σ x with
    | some (.a (.box k _)) => match look σ.h k, Nat.ble (d + 1) σ.n with
      | some (.row _ _), true => some (pureT Y E G σ d o.op o.type)
      | _, _ => none
    | _ => none
  | some d, .call { callee := .builtin .append, args := ⟨[x, y]⟩, argTypes := ⟨[t, u]⟩ } => match opT σ x with
    | some (.a (.bsl k 0 n c)) => match look Y.ty t, look Y.ty u, look σ.h k with
      | some (.slice e), some du, some (.row ty l) => match ty.lone && sz1 Y e && isStrSl du && Nat.ble (d + 1) σ.n, addT ty (opT σ y) with
        | true, some m => some (.bnd (apnA l n c m) fun l' => .leaf ((σ.setr k ty l').put d (.a (.bsl k 0 (n + m.length) c))))
        | _, _ => none
      | _, _, _ => none
    | _ => none
  | none, .store t x y => match opT σ x with
    | some (.a (.box k p)) => match look σ.h k with
      | some (.row ty l) => match ty.lone && sz1 Y t, (opT σ y).bind TV.cs1 with
        | true, some [a] => match asD ty a with
          | some v => some (.bnd (setA l p v) fun l' => .leaf (σ.setr k ty l'))
          | none => none
        | _, _ => none
      | _ => none
    | _ => none
  | _, _ => none
def evOp (o : Oper) (σ : TS E.T) : Tree (TS E.T) := match evOpB Y E G o σ with
  | some t => t
  | none => evOp0 Y E G o σ
end
section
variable {P : Program} {Y : Tys P} {E : Env} {G : Gam E} {ρ : Nat → Nat} {σ : TS E.T} {Q : Exit → AS → Prop} {ks : List It} {l : List Oper} {k : Nat} {o : Oper} {rest : List Oper}
/-- Whence one goes on. -/
abbrev On (P : Program) (E : Env) (Q : Exit → AS → Prop) (ρ : Nat → Nat) (its : List It) (σ' : TS E.T) : Prop := ∀ ρ', Inj ρ' σ'.h → Agr ρ ρ' → ARun P Q its (σ'.to E.toEnc ρ')
/-- Whence one goes on, whatever is asked there. -/
abbrev OnE (E : Env) (R : AS → Prop) (A : (Nat → Nat) → Prop) (σ' : TS E.T) : Prop := ∀ ρ', Inj ρ' σ'.h → A ρ' → R (σ'.to E.toEnc ρ')
/-- Does an operation make a box? -/
def creO (mu : List Nat) (o : Oper) : Bool := match o.op with
  | .alloc _ | .box _ _ | .makeMap _ _ => true
  | _ => match o.dst with
    | some d => hasB mu d
    | none => false
def Low (R : AS → Prop) : Prop := ∀ σ σ' : AS, σ.n = σ'.n → SubS σ σ' → R σ' → R σ
section
variable {R : AS → Prop} {A : (Nat → Nat) → Prop}
theorem Low.low {σ σ' : AS} (h : Low R) (hr : R σ') (hs : SubS σ σ') (hn : σ.n = σ'.n) : R σ := h σ σ' hn hs hr
theorem low_arun {it : It} (hit : (match it with | .c _ => true | .o _ _ _ => true | _ => false) = true) : Low (fun τ => ARun P Q (it :: ks) τ) := fun _ _ _ hs h => ar_subO hit hs h
theorem eff_op {o : Oper} {σ : AS} {d : Nat} {u : AV} (hdst : o.dst = some d) (hd : Nat.ble (d + 1) σ.n = true) (h : OpV P o σ u) (hn : R (σ.put d u)) : EffOp P o σ R := fun F X a hs =>
  (h F X a (hs.r o.op)).mono fun x w' ⟨X', h1, h2, h3, h4, h5⟩ => ⟨X', σ.put d u, h1, hn, by rw [hdst]; exact hs.put_new (lt_of_ble hd) h2 h3 h4 h5, h2.ext hs.gb hs.fb⟩
theorem eff_move_sl {σ : AS} {d s : Nat} {u : AV} {ty : TypeId} {pos : String} {af : Array Edge} {g : Option (Nat × Bool)} (hd : Nat.ble (d + 1) σ.n = true) (hu : look σ.t s = some u) (hn : R (σ.mv d s u)) : EffOp P ⟨some d, .move (.tmp s), ty, pos, af, g⟩ σ R := fun F X a hs =>
  runs_value (x := a.eval (.tmp s)) (w' := X.w) rfl ⟨X, _, rfl, hn, hs.mv (lt_of_ble hd) hu, Ext.refl F X⟩
theorem eff_assign_sl {σ : AS} {d s : Nat} {u : AV} {ty : TypeId} {pos : String} {af : Array Edge} {g : Option (Nat × Bool)} (hd : Nat.ble (d + 1) σ.n = true) (hu : look (σ.free d).t s = some u) (hn : R ((σ.free d).mv d s u)) : EffOp P ⟨some d, .assign (.tmp s), ty, pos, af, g⟩ σ R := fun F X a hs =>
  runs_value (x := a.eval (.tmp s)) (w' := X.w) rfl ⟨X, _, rfl, hn, (hs.free d).mv (by rw [free_n]; exact lt_of_ble hd) hu, Ext.refl F X⟩
theorem eff_load_own {σ : AS} {d b o : Nat} {cs : List AV} {u : AV} {t ty : TypeId} {x : Operand} {pos : String} {af : Array Edge} {g : Option (Nat × Bool)} {T : Tys P} {dsc : TypeDesc} (hd : Nat.ble (d + 1) σ.n = true) (hx : opV σ x = some (.v (.pointer (some ⟨b, o, none⟩)))) (hb : look σ.h b = some cs) (hu : cs[o]? = some u) (h0 : look T.ty t = some dsc) (h1 : oneB dsc = true)
    (hm : u.isMp = false) (hn : R ((σ.put d u.rd).alias d (.c b o))) : EffOp P ⟨some d, .load t x, ty, pos, af, g⟩ σ R := by
  intro F X a hs
  have e1 := opV_val (hs.r (.load t x)) (by simp [Op.operands]) hx
  obtain ⟨b1, b2, arr, e, fr, b3, b4, b5, b6⟩ := (hs.box b cs hb).at hu hm
  have hlt := (List.getElem?_eq_some_iff.1 hu).1
  have hx : arr[o]? = some arr[o] := Array.getElem?_eq_getElem (by omega)
  have hc : X.w.cell? ⟨b, o, none⟩ = some arr[o] := by simp only [World.cell?, b3]; exact hx
  refine runs_value (x := arr[o]) (w' := X.w) (by simp only [execOp, e1]; exact run_val (run_load1 (T.tyOk _ _ h0) h1 hc)) ⟨X, _, rfl, hn, ?_, Ext.refl F X⟩
  have hput := hs.put_new (lt_of_ble hd) (New.refl X) hs.gb (b6 o u _ hu hx).rd (FreshOk.plain (plain_rd u))
  refine hput.alias ?_
  simp only [rootV]
  rw [getD_set_self (by rw [hs.size]; exact lt_of_ble hd), hc]
theorem pureT_eff {d : Nat} (hi : Inj ρ σ.h) (hG : GOk P Y E G) (hA0 : A ρ) (hdst : o.dst = some d) (hd : Nat.ble (d + 1) σ.n = true)
    (h : (pureT Y E G σ d o.op o.type).holds (OnE E R A)) : EffOp P o (σ.to E.toEnc ρ) R := by
  have hok := evP_ok (Y := Y) (σ := σ) (d := o.dst) (ty := o.type) (pos := o.pos) (af := o.after) (g := o.guard) hi hG o.op
  unfold pureT at h
  cases hp : evP Y E G σ o.op o.type with
  | one u =>
    rw [hp] at h hok
    refine eff_op hdst hd hok ?_
    rw [← put_to]
    exact h ρ hi hA0
  | opt q u =>
    rw [hp] at h hok
    obtain ⟨z, hz, h⟩ := h
    refine eff_op hdst hd (hok z hz) ?_
    rw [← put_to]
    exact h ρ hi hA0
  | bad => rw [hp] at h; cases h
theorem lay_inj (hi : Inj ρ σ.h) (r : Root) : Inj ρ (σ.lay r).h := hi.sub (lay_ids σ r)
theorem addT_to {t : Ty} {y : Operand} {m : List (Den E.T t)} (h : addT t (opT σ y) = some m) : ∃ v S, opV (σ.to E.toEnc ρ) y = some v ∧ addE (csz E.toEnc t) v = some (m.map (cells E.toEnc t), S) ∧ S := by
  have hone : ∀ (t : Ty) (m : List (Den E.T t)), RowsOne (m.map (cells E.toEnc t)) := fun t m r hr u hu => by
    obtain ⟨x, _, rfl⟩ := List.mem_map.1 hr
    exact (cellsT_one E.toEnc t x u hu).1
  cases hy : opT σ y with
  | none => rw [hy] at h; cases h
  | some u =>
    rw [hy] at h
    refine ⟨u.to E.toEnc ρ, ?_⟩
    rw [opT_to hy]
    have hrow : ∀ (l : List (Den E.T t)), (match Nat.beq (csz E.toEnc t) (csz E.toEnc t) with | true => some (l.map (cells E.toEnc t), RowsOne (l.map (cells E.toEnc t))) | false => none) = some (l.map (cells E.toEnc t), RowsOne (l.map (cells E.toEnc t))) := fun l => by rw [Nat.beq_refl]
    cases u with
    | a x =>
      cases x with
      | d t' x =>
        cases t' with
        | sl t' =>
          obtain ⟨e, rfl⟩ := castD_some (show castD (.sl t') (.sl t) x = some m from h)
          cases e
          exact ⟨_, rfl, hrow _, hone _ _⟩
        | str =>
          obtain ⟨e, rfl⟩ := castD_some (show castD (.sl .byte) (.sl t) x = some m from h)
          cases e
          exact ⟨True, rfl, rfl, trivial⟩
        | _ => cases h
      | own t' l =>
        obtain ⟨e, rfl⟩ := castD_some (show castD (.sl t') (.sl t) l = some m from h)
        cases e
        exact ⟨_, rfl, hrow _, hone _ _⟩
      | raw v =>
        cases v with
        | slice a n c =>
          cases a <;> cases n <;> cases c <;> first
            | (have h' : some [] = some m := h
               cases h'
               exact ⟨True, rfl, rfl, trivial⟩)
            | cases h
        | _ => cases h
      | _ => cases h
    | _ => cases h
theorem appC_some {α : Type} {by_ : Nat} {l m r : List α} (h : appC by_ l m = some r) : (l.length + m.length) * by_ ≤ 140737488355328 ∧ r = l ++ m := by
  unfold appC at h
  split at h
  · rename_i h0; cases h; exact ⟨h0, rfl⟩
  · cases h
theorem constT_noId {T : Nat → Type} (d : Nat) (v : Value) : (constT v : TV T).noId d = true := by
  cases v with
  | int k n =>
    cases k with
    | u8 => unfold constT; simp only; split <;> rfl
    | _ => rfl
  | bool b => cases b <;> rfl
  | agg xs => simp [constT, TV.noId, TA.noId]
  | tuple xs => simp [constT, TV.noId, TC.noId, TA.noId]
  | _ => rfl
theorem appT_eff {d : Nat} {x y : Operand} {t u e : TypeId} {du : TypeDesc} {sz by_ : Nat} (hi : Inj ρ σ.h) (hA0 : A ρ)
    (hop : o = ⟨some d, .call { callee := .builtin .append, args := #[x, y], argTypes := #[t, u] }, o.type, o.pos, o.after, o.guard⟩) (hd : Nat.ble (d + 1) σ.n = true) (ht : look Y.ty t = some (.slice e)) (hu : look Y.ty u = some du) (hnz : isStrSl du = true) (hz : look Y.sz e = some (sz, by_)) (hb : Nat.ble 1 by_ = true)
    (h : (appT E σ d t e x y sz by_).holds (OnE E R A)) : EffOp P o (σ.to E.toEnc ρ) R := by
  have nilCase : ∀ (ty : Ty), opV (σ.to E.toEnc ρ) x = some (.v (.slice none 0 0)) → (match Nat.beq sz (csz E.toEnc ty), addT ty (opT σ y) with
        | true, some m => Tree.bnd (appC by_ [] m) fun r' => .leaf (σ.dropC.put d (.a (.own ty r')))
        | _, _ => .fail).holds (OnE E R A) → EffOp P o (σ.to E.toEnc ρ) R := by
    intro ty hx hh
    split at hh
    · rename_i m hs hm
      obtain ⟨r', hr, hh⟩ := hh
      obtain ⟨h1, h2⟩ := appC_some hr
      obtain ⟨v, S, k1, k2, k3⟩ := addT_to (ρ := ρ) hm
      have hs' := beq_of hs
      subst hs'
      have heff := effTo_append_nil (P := P) (T := Y) (d := d) (ty := o.type) (pos := o.pos) (af := o.after) (g := o.guard) hx ht hu (by cases du <;> first | rfl | cases hnz) hz hb k1 k2 hd k3 (by simpa using h1)
      rw [hop]
      refine heff _ ?_
      have := hh ρ hi hA0
      rw [put_to, dropC_to, h2, List.nil_append] at this
      exact this
    · cases hh
  unfold appT at h
  split at h
  · rename_i s
    split at h
    · rename_i r hr
      split at h
      · rename_i ty L hown
        split at h
        · rename_i m hs hm
          obtain ⟨r', hr', h⟩ := h
          obtain ⟨h1, h2⟩ := appC_some hr'
          obtain ⟨v, S, k1, k2, k3⟩ := addT_to (ρ := ρ) hm
          have hs' := beq_of hs
          subst hs'
          have heff := effTo_append (P := P) (T := Y) (d := d) (ty := o.type) (pos := o.pos) (af := o.after) (g := o.guard) (rootT_to hr) (ownAt_to σ hi hown) ht hu (by cases du <;> first | rfl | cases hnz) hz hb k1 k2 hd k3 (by simpa using h1)
          rw [hop]
          refine heff _ ?_
          have := h ρ (lay_inj hi r) hA0
          rw [put_to, dropC_to, lay_to σ hi hown, h2] at this
          have e2 : (TV.a (TA.own ty (L ++ m)) : TV E.T).to E.toEnc ρ = .sl true (csz E.toEnc ty) (L.map (cells E.toEnc ty) ++ m.map (cells E.toEnc ty)) := by
            show AV.sl true _ (List.map _ (L ++ m)) = _
            rw [List.map_append]
          rw [e2] at this
          exact this
        · cases h
      · cases h
    · split at h
      · rename_i ty hx hty
        exact nilCase ty (opT_to (x := .tmp s) hx) h
      · rename_i ty L hx
        split at h
        · rename_i m hs hm
          obtain ⟨r', hr, hh⟩ := h
          have hr2 : m ≠ [] ∧ appC by_ L m = some r' := by
            unfold appCl at hr
            split at hr
            · cases hr
            · exact ⟨by simp, hr⟩
          obtain ⟨h1, h2⟩ := appC_some hr2.2
          obtain ⟨v, S, k1, k2, k3⟩ := addT_to (ρ := ρ) hm
          have hs' := beq_of hs
          subst hs'
          have heff := eff_append_cl (P := P) (T := Y) (σ := σ.to E.toEnc ρ) (d := d) (ty := o.type) (pos := o.pos) (af := o.after) (g := o.guard) (L := L.map (cells E.toEnc ty)) (m := m.map (cells E.toEnc ty)) (opT_to (x := .tmp s) hx) ht hu (by cases du <;> first | exact .inl rfl | exact .inr ⟨_, rfl⟩ | cases hnz) hz hb (addE_ok k1 k2 k3) (by simpa using h1) (by simpa using hr2.1) hd (R := R)
          rw [hop]
          refine heff ?_
          have := hh ρ hi hA0
          rw [put_to, dropC_to, h2] at this
          have e2 : (TV.a (TA.own ty (L ++ m)) : TV E.T).to E.toEnc ρ = .sl true (csz E.toEnc ty) (L.map (cells E.toEnc ty) ++ m.map (cells E.toEnc ty)) := by
            show AV.sl true _ (List.map _ (L ++ m)) = _
            rw [List.map_append]
          rw [e2] at this
          exact this
        · cases h
      · cases h
  · split at h
    · rename_i ty hty
      exact nilCase ty rfl h
    · cases h
  · cases h
theorem simple_one {x : TA E.T} (h : x.simple = true) : (x.to E.toEnc ρ).one = true := by
  cases x with
  | d t x =>
    cases t with
    | nam i => cases h
    | ptr t => cases x <;> rfl
    | _ => rfl
  | clip t l => cases h
  | raw v => cases v <;> first | rfl | cases h
  | _ => rfl
theorem simple_rd {x : TA E.T} (h : x.simple = true) : x.rd.simple = true := by
  cases x <;> first | exact h | rfl
theorem rd_plain (x : TA E.T) : x.rd.plain = true := by cases x <;> rfl
theorem simple_cells {x : TA E.T} (h : x.simple = true) : (x.to E.toEnc ρ).cells = [x.to E.toEnc ρ] ∧ (x.to E.toEnc ρ).okc = true := by
  cases x with
  | d t x =>
    cases t with
    | nam i => cases h
    | ptr t => cases x <;> exact ⟨rfl, rfl⟩
    | _ => exact ⟨rfl, rfl⟩
  | raw v => cases v <;> first | exact ⟨rfl, rfl⟩ | cases h
  | _ => exact ⟨rfl, rfl⟩
theorem cs1_to {u : TV E.T} {vs : List (TA E.T)} (h : u.cs1 = some vs) : (u.to E.toEnc ρ).okc = true ∧ (u.to E.toEnc ρ).rd.cells = vs.map (TA.to E.toEnc ρ) ∧ ((u.to E.toEnc ρ).rd.cells.all AV.one) = true ∧ ((u.to E.toEnc ρ).rd.cells.all fun u => (own1 (some u)).isNone) = true := by
  unfold TV.cs1 at h
  split at h
  · rename_i x
    split at h
    · rename_i hs
      cases h
      obtain ⟨h1, h2⟩ := simple_cells (ρ := ρ) hs
      obtain ⟨h3, h4⟩ := simple_cells (ρ := ρ) (simple_rd hs)
      have e : ((TV.a x : TV E.T).to E.toEnc ρ).rd.cells = [x.rd.to E.toEnc ρ] := by
        show (x.to E.toEnc ρ).rd.cells = _
        rw [← TA.rd_to, h3]
      refine ⟨h2, e, ?_, ?_⟩
      · rw [e]; simp only [List.all_cons, List.all_nil, Bool.and_true]; exact simple_one (simple_rd hs)
      · rw [e]; simp only [List.all_cons, List.all_nil, Bool.and_true, TA.plain_to _ _ (rd_plain x)]; rfl
    · cases h
  · rename_i l
    split at h
    · rename_i hs
      cases h
      refine ⟨rfl, rfl, ?_, ?_⟩
      · show (vs.map (TA.to E.toEnc ρ)).all AV.one = true
        rw [List.all_map, List.all_eq_true]
        intro x hx
        have := List.all_eq_true.1 hs x hx
        simp only [Bool.and_eq_true] at this
        exact simple_one this.1
      · show (vs.map (TA.to E.toEnc ρ)).all (fun u => (own1 (some u)).isNone) = true
        rw [List.all_map, List.all_eq_true]
        intro x hx
        have := List.all_eq_true.1 hs x hx
        simp only [Bool.and_eq_true] at this
        simp only [Function.comp, TA.plain_to _ _ this.2]; rfl
    · cases h
  · rename_i f l
    split at h
    · rename_i is hc
      cases h
      have e : (TV.fn f l : TV E.T).to E.toEnc ρ = (TA.fnb f is : TA E.T).to E.toEnc ρ := by
        rw [cbs_to hc]
        simp only [TV.to, TA.to, List.map_map]
        rfl
      rw [e]
      exact ⟨rfl, rfl, rfl, rfl⟩
    · cases h
  · cases h
theorem setc_inj {k : Nat} {b : TB E.T} (hi : Inj ρ σ.h) (hb : look σ.h k = some b) (cs : List (TA E.T)) : Inj ρ (σ.setc k cs).h := inj_cons hi hb
theorem storeP_eff {t : TypeId} {kk p n by_ : Nat} {x y : Operand} (hi : Inj ρ σ.h) (hR : Low R) (hA0 : A ρ) (hop : o = ⟨none, .store t x y, o.type, o.pos, o.after, o.guard⟩)
    (hx : opT σ x = some (.a (.box kk p))) (hz : look Y.sz t = some (n, by_)) (h : (storeP E σ t kk p n y).holds (OnE E R A)) : EffOp P o (σ.to E.toEnc ρ) R := by
  unfold storeP at h
  split at h
  · rename_i cs hb hy
    split at h
    · rename_i ty hty
      split at h
      · rename_i hc
        simp only [Bool.and_eq_true] at hc
        have hn := beq_of hc.1
        subst hn
        rw [hop]
        have heff := effTo_store (P := P) (T := Y) (ty := o.type) (pos := o.pos) (af := o.after) (g := o.guard) (u0 := .v (.slice none 0 0)) (opT_to (ρ := ρ) hx) (look_box hi hb) (opT_to (ρ := ρ) hy) rfl hz rfl rfl rfl (by simpa using hc.2) (notMpB cs)
        refine heff _ ?_
        refine hR.low (h ρ (setc_inj hi hb _) hA0) (fun F X tm hs => ?_) rfl
        refine hs.le2 rfl (fun t u' hu => ⟨u', hu, .refl _⟩) (fun q cs' hq => ?_) (fun p hp => ?_)
        · have e : ((σ.setc kk (spl cs p [.own ty []])).to E.toEnc ρ).h = (ρ kk, (spl cs p [.own ty []]).map (TA.to E.toEnc ρ)) :: hTo E.toEnc ρ σ.h := rfl
          rw [e, look_cons] at hq
          have e2 : ((σ.to E.toEnc ρ).setc (ρ kk) (splice (cs.map (TA.to E.toEnc ρ)) p (AV.rd (.v (.slice none 0 0))).cells)).h = (ρ kk, splice (cs.map (TA.to E.toEnc ρ)) p [.v (.slice none 0 0)]) :: hTo E.toEnc ρ σ.h := rfl
          rw [e2, look_cons]
          split at hq
          · rename_i e3
            rw [if_pos e3]
            cases hq
            refine ⟨_, rfl, ?_⟩
            rw [map_spl]
            unfold splice
            exact ((LeL.refl _).append (.cons (.nil _ _) .nil)).append (LeL.refl _)
          · rename_i e3
            rw [if_neg e3]
            exact ⟨cs', hq, LeL.refl _⟩
        · rw [setc_to] at hp; exact hp
      · cases h
    · cases h
  · rename_i cs u hnn hb hy
    split at h
    · rename_i vs hvs
      split at h
      · rename_i hc
        simp only [Bool.and_eq_true] at hc
        obtain ⟨c1, c2, c3, c4⟩ := cs1_to (ρ := ρ) hvs
        rw [hop]
        have heff := effTo_store (P := P) (T := Y) (ty := o.type) (pos := o.pos) (af := o.after) (g := o.guard) (opT_to (ρ := ρ) hx) (look_box hi hb) (opT_to (ρ := ρ) hy) c1 hz (by rw [c2, List.length_map]; exact hc.1) c3 c4 (by simpa using hc.2) (notMpB cs)
        refine heff _ ?_
        have hle := nilC_to (E := E) (ρ := ρ) ((look E.ct t).getD []) vs
        refine hR.low (h ρ (setc_inj hi hb _) hA0) (fun F X tm hs => ?_) rfl
        refine hs.le2 rfl (fun t u' hu => ⟨u', hu, .refl _⟩) (fun q cs' hq => ?_) (fun pp hp => ?_)
        · have e : ((σ.setc kk (spl cs p (nilC ((look E.ct t).getD []) vs))).to E.toEnc ρ).h = (ρ kk, (spl cs p (nilC ((look E.ct t).getD []) vs)).map (TA.to E.toEnc ρ)) :: hTo E.toEnc ρ σ.h := rfl
          rw [e, look_cons] at hq
          have e2 : ((σ.to E.toEnc ρ).setc (ρ kk) (splice (cs.map (TA.to E.toEnc ρ)) p (u.to E.toEnc ρ).rd.cells)).h = (ρ kk, splice (cs.map (TA.to E.toEnc ρ)) p (u.to E.toEnc ρ).rd.cells) :: hTo E.toEnc ρ σ.h := rfl
          rw [e2, look_cons]
          split at hq
          · rename_i e3
            rw [if_pos e3]
            cases hq
            refine ⟨_, rfl, ?_⟩
            rw [map_spl, c2]
            unfold splice
            rw [hle.length]
            exact ((LeL.refl _).append hle).append (LeL.refl _)
          · rename_i e3
            rw [if_neg e3]
            exact ⟨cs', hq, LeL.refl _⟩
        · rw [setc_to] at hp; exact hp
      · cases h
    · cases h
  · cases h
theorem evOp0_eff (hi : Inj ρ σ.h) (hG : GOk P Y E G) (hR : Low R) (hA0 : A ρ) (hA1 : creO G.mu o = true → ∀ d b, Nat.ble d 99999 = true → A (upd ρ d b)) (h : (evOp0 Y E G o σ).holds (OnE E R A)) : EffOp P o (σ.to E.toEnc ρ) R := by
  obtain ⟨dst, op, ty, pos, af, g⟩ := o
  unfold evOp0 at h
  simp only at h
  split at h
  · rename_i d
    split at h
    · rename_i hd
      split at h
      · rename_i s
        split at h
        · exact pureT_eff (Y := Y) hi hG hA0 rfl hd h
        · rename_i u hn hu
          refine eff_move_sl hd (u := u.to E.toEnc ρ) (by simp only [TS.to, look_tTo, hu]; rfl) ?_
          have := h ρ (by rw [mvT_h]; exact hi) hA0
          rw [← mvT_to hu (fun v e => hn v e)] at this
          exact this
        · cases h
      · rename_i s
        split at h
        · exact pureT_eff (Y := Y) hi hG hA0 rfl hd h
        · rename_i u hn hu
          refine eff_assign_sl hd (u := u.to E.toEnc ρ) (by rw [← freeT_to]; simp only [TS.to, look_tTo, hu]; rfl) ?_
          have := h ρ (by rw [mvT_h, freeT_h]; exact hi) hA0
          rw [← mvT_to hu (fun v e => hn v e), freeT_to] at this
          exact this
        · cases h
      · rename_i c x y
        split at h
        · rename_i hc
          split at h
          · rename_i u hu
            refine eff_op rfl hd (opv_pickt (b := true) (opT_to hc) rfl (opT_to hu)) ?_
            have := h ρ hi hA0
            rw [put_to, TV.rd_to] at this
            exact this
          · cases h
        · rename_i hc
          split at h
          · rename_i u hu
            refine eff_op rfl hd (opv_pickf (b := false) (opT_to hc) rfl (opT_to hu)) ?_
            have := h ρ hi hA0
            rw [put_to, TV.rd_to] at this
            exact this
          · cases h
        · rename_i b hc
          split at h
          · rename_i u v hu hv
            cases hb : b with
            | true =>
              refine eff_op rfl hd (opv_pickt (b := b) (opT_to hc) hb (opT_to hu)) ?_
              have := h.1 hb ρ hi hA0
              rw [put_to, TV.rd_to] at this
              exact this
            | false =>
              refine eff_op rfl hd (opv_pickf (b := b) (opT_to hc) hb (opT_to hv)) ?_
              have := h.2 hb ρ hi hA0
              rw [put_to, TV.rd_to] at this
              exact this
          · cases h
        · cases h
      · rename_i el
        split at h
        · rename_i zv hz hn'
          simp only [Bool.and_eq_true] at hn'
          obtain ⟨hn, hnb⟩ := hn'
          refine eff_alloc (T := Y) hz hd fun b hb => ?_
          have := h (upd ρ d b) (boxT_inj hi hn hb) (hA1 rfl d b hnb)
          refine hR.low this (fun F X tm hs => ?_) rfl
          rw [put_to]
          have e : ((σ.boxT d (zeroC ((look E.ct el).getD []) zv.cells.toList)).to E.toEnc (upd ρ d b)) = (σ.to E.toEnc ρ).box b ((zeroC ((look E.ct el).getD []) zv.cells.toList).map (TA.to E.toEnc (upd ρ d b))) := by
            have h1 := TS.upd_to (ρ := ρ) (k := b) hn
            unfold TS.to at h1
            injection h1 with _ h2 h3 h4
            have hdd : upd ρ d b d = b := by unfold upd; rw [if_pos rfl]
            unfold TS.to TS.boxT AS.box
            simp only [hTo, List.map_cons, hdd]
            simp only [hTo] at h3
            rw [h2, h3, h4]; rfl
          have e2 : (TV.a (TA.box d 0) : TV E.T).to E.toEnc (upd ρ d b) = .v (.pointer (some ⟨b, 0, none⟩)) := by
            show AV.v (.pointer (some ⟨upd ρ d b d, 0, none⟩)) = _
            unfold upd; rw [if_pos rfl]
          rw [e, e2]
          refine hs.le2 rfl (fun t u' hu => ⟨u', hu, .refl _⟩) (fun q cs' hq => ?_) (fun p hp => hp)
          simp only [AS.put, AS.box, look_cons] at hq ⊢
          split at hq
          · rename_i e3
            rw [if_pos e3]
            cases hq
            exact ⟨_, rfl, zeroC_to _ _⟩
          · rename_i e3
            rw [if_neg e3]
            exact ⟨cs', hq, LeL.refl _⟩
        · cases h
      · rename_i el x
        split at h
        · rename_i u hx hn'
          simp only [Bool.and_eq_true] at hn'
          obtain ⟨hn, hnb⟩ := hn'
          split at h
          · rename_i vs hvs
            obtain ⟨c1, c2, c3, c4⟩ := cs1_to (ρ := ρ) hvs
            refine eff_boxB (opT_to (ρ := ρ) hx) c1 c4 hd fun b hb => ?_
            have := h (upd ρ d b) (boxT_inj hi hn hb) (hA1 rfl d b hnb)
            rw [put_to] at this
            have hnv : vs.all (TA.noId d) = true ∨ True := .inr trivial
            have e2 : (TV.a (TA.box d 0) : TV E.T).to E.toEnc (upd ρ d b) = .v (.pointer (some ⟨b, 0, none⟩)) := by
              show AV.v (.pointer (some ⟨upd ρ d b d, 0, none⟩)) = _
              unfold upd; rw [if_pos rfl]
            have hvu : vs.map (TA.to E.toEnc (upd ρ d b)) = vs.map (TA.to E.toEnc ρ) := by
              refine mapTA_upd ?_
              have hu : u.noId d = true := by
                cases x with
                | tmp t =>
                  simp only [opT] at hx
                  unfold TS.noId at hn
                  simp only [Bool.and_eq_true] at hn
                  exact List.all_eq_true.1 hn.1.1 _ (look_mem hx)
                | const v => cases hx; exact constT_noId d v
                | func f => cases hx; rfl
                | global g => cases hx; rfl
              unfold TV.cs1 at hvs
              split at hvs
              · rename_i x0
                split at hvs
                · cases hvs
                  simp only [List.all_cons, List.all_nil, Bool.and_true]
                  cases x0 <;> first | exact hu | rfl
                · cases hvs
              · split at hvs
                · cases hvs; exact hu
                · cases hvs
              · rename_i f l
                split at hvs
                · rename_i is hc
                  cases hvs
                  have hu' : l.all (TA.noId d) = true := hu
                  rw [cbs_to hc] at hu'
                  simp only [List.all_map] at hu'
                  simp only [List.all_cons, List.all_nil, Bool.and_true]
                  exact hu'
                · cases hvs
              · cases hvs
            have e : ((σ.boxT d vs).to E.toEnc (upd ρ d b)) = (σ.to E.toEnc ρ).box b (vs.map (TA.to E.toEnc ρ)) := by
              have h1 := TS.upd_to (ρ := ρ) (k := b) hn
              unfold TS.to at h1
              injection h1 with _ h2 h3 h4
              have hdd : upd ρ d b d = b := by unfold upd; rw [if_pos rfl]
              unfold TS.to TS.boxT AS.box
              simp only [hTo, List.map_cons, hdd]
              simp only [hTo] at h3
              rw [h2, h3, h4, ← hvu]; rfl
            rw [e, e2, ← c2] at this
            exact this
          · cases h
        · cases h
      · rename_i t x
        split at h
        · rename_i kk p dsc hx h0
          split at h
          · rename_i h1
            split at h
            · rename_i cs hb
              split at h
              · rename_i c hc
                have := h ρ hi hA0
                rw [alias_to, put_to] at this
                refine eff_load_own (T := Y) hd (opT_to (ρ := ρ) hx) (look_box hi hb) (u := c.to E.toEnc ρ) (by simp [hc]) h0 h1 (TA.to_notMp _ _ _) ?_
                have e : (TV.a c.rd : TV E.T).to E.toEnc ρ = (c.to E.toEnc ρ).rd := TA.rd_to _ _ _
                rw [e] at this
                exact this
              · cases h
            · cases h
          · exact pureT_eff (Y := Y) hi hG hA0 rfl hd h
        · exact pureT_eff (Y := Y) hi hG hA0 rfl hd h
      · rename_i t
        split at h
        · rename_i kt et h0
          split at h
          · rename_i ty' hk het hn'
            simp only [Bool.and_eq_true] at hn'
            obtain ⟨hn, hnb⟩ := hn'
            refine eff_makemap_s (T := Y) rfl h0 hk hd fun b hb => ?_
            have := h (upd ρ d b) ((boxT_inj (cs := []) hi hn hb).sub fun p hp => by
              rcases List.mem_cons.1 hp with rfl | hp
              · exact ⟨_, List.mem_cons_self, rfl⟩
              · exact ⟨p, List.mem_cons_of_mem _ hp, rfl⟩) (hA1 rfl d b hnb)
            rw [put_to] at this
            have e : ((σ.boxM d ty' []).to E.toEnc (upd ρ d b)) = (σ.to E.toEnc ρ).box b [smap []] := by
              have h1 := TS.upd_to (ρ := ρ) (k := b) hn
              unfold TS.to at h1
              injection h1 with _ h2 h3 h4
              have hdd : upd ρ d b d = b := by unfold upd; rw [if_pos rfl]
              unfold TS.to TS.boxM AS.box
              simp only [hTo, List.map_cons, hdd]
              simp only [hTo] at h3
              rw [h2, h3, h4]; rfl
            have e2 : (TV.a (TA.mpr d) : TV E.T).to E.toEnc (upd ρ d b) = .v (.map (some b)) := by
              show AV.v (.map (some (upd ρ d b d))) = _
              unfold upd; rw [if_pos rfl]
            rw [e, e2] at this
            exact this
          · cases h
        · cases h
      · rename_i xs ats
        split at h
        · rename_i x y t u hxs hats
          have hxs' : xs = #[x, y] := by cases xs; simp at hxs; subst hxs; rfl
          have hats' : ats = #[t, u] := by cases ats; simp at hats; subst hats; rfl
          subst hxs' hats'
          split at h
          · rename_i e du ht hu
            split at h
            · rename_i sz by_ hz
              split at h
              · rename_i hc
                simp only [Bool.and_eq_true] at hc
                exact appT_eff (Y := Y) hi hA0 rfl hd ht hu hc.1 hz hc.2 h
              · cases h
            · cases h
          · cases h
        · cases h
      · exact pureT_eff (Y := Y) hi hG hA0 rfl hd h
    · cases h
  · split at h
    · rename_i t x y
      split at h
      · rename_i kk p n by_ hx hz
        split at h
        · rename_i s
          split at h
          · rename_i r hr
            split at h
            · rename_i ty' L hown
              split at h
              · rename_i cs hb
                split at h
                · rename_i hc
                  simp only [Bool.and_eq_true] at hc
                  have hn := beq_of hc.1
                  subst hn
                  have hi' := lay_inj (σ := σ) hi r
                  have hlk : look ((σ.to E.toEnc ρ).lay (r.to ρ)).h (ρ kk) = some (cs.map (TA.to E.toEnc ρ)) := by
                    rw [← lay_to σ hi hown]; exact look_hTo E.toEnc hi' hb
                  have heff := effTo_store_own (P := P) (T := Y) (ty := ty) (pos := pos) (af := af) (g := g) (opT_to (ρ := ρ) hx) (rootT_to hr) (ownAt_to σ hi hown) hlk hz (by simpa using hc.2) (notMpB cs)
                  refine heff _ ?_
                  have := h ρ (setc_inj hi' hb _) hA0
                  rw [setc_to, map_spl, lay_to σ hi hown] at this
                  exact this
                · cases h
              · cases h
            · exact storeP_eff (Y := Y) hi hR hA0 rfl hx hz h
          · exact storeP_eff (Y := Y) hi hR hA0 rfl hx hz h
        · exact storeP_eff (Y := Y) hi hR hA0 rfl hx hz h
      · cases h
    · rename_i t x y z
      split at h
      · rename_i kt et kk key h0 hx hy
        split at h
        · rename_i ty' l hk hb
          split at h
          · rename_i v hv
            obtain ⟨u, hu1, hu2⟩ := mval_to (ρ := ρ) hv
            have hb' : look (σ.to E.toEnc ρ).h (ρ kk) = some [smap (l.map fun p => (p.1, one E.toEnc ty' p.2))] := look_hTo E.toEnc hi hb
            refine eff_mapset_s (T := Y) (opT_to (ρ := ρ) hx) hb' (asS_to hy) hu1 h0 hk ?_
            rw [hu2, lset_map]
            have := h ρ (inj_cons hi hb) hA0
            rw [setm_to] at this
            exact this
          · cases h
        · cases h
      · cases h
    · cases h
/-! ### Boxes of elements that are written in place -/
theorem zeroA_to {t : Ty} {v : Value} {z : Den E.T t} (h : zeroA t v = some z) : AV.v v = one E.toEnc t z := by
  cases t with
  | byte =>
    cases v with
    | int k n =>
      cases k with
      | u8 =>
        simp only [zeroA] at h
        split at h
        · rename_i hn
          cases h
          show _ = AV.v (.int .u8 ((UInt8.ofNat n.toNat).toNat : Int))
          rw [hn]
        · cases h
      | _ => cases h
    | _ => cases h
  | int k =>
    have h' : zeroM (.int k) v = some z := h
    cases v with
    | int k' n => exact (zeroM_to (E := E.toEnc) h').1
    | _ => cases h'
  | bool =>
    have h' : zeroM .bool v = some z := h
    cases v with
    | bool b => exact (zeroM_to (E := E.toEnc) h').1
    | _ => cases h'
  | str =>
    have h' : zeroM .str v = some z := h
    cases v with
    | string b => exact (zeroM_to (E := E.toEnc) h').1
    | _ => cases h'
  | _ => cases h
theorem zerosA_to {t : Ty} : ∀ {vs : List Value} {zs : List (Den E.T t)}, zerosA t vs = some zs → vs.map AV.v = zs.map (one E.toEnc t)
  | [], _, h => by cases h; rfl
  | v :: vs, zs, h => by
    simp only [zerosA] at h
    split at h
    · rename_i z zs' hz hzs
      cases h
      rw [List.map_cons, List.map_cons, zeroA_to hz, zerosA_to hzs]
    · cases h
theorem boxR_to {d b : Nat} {t : Ty} {l : List (Den E.T t)} (hl : t.lone = true) (hn : σ.noId d = true) : (σ.boxR d t l).to E.toEnc (upd ρ d b) = (σ.to E.toEnc ρ).box b (l.map (one E.toEnc t)) := by
  have h1 := TS.upd_to (ρ := ρ) (k := b) hn
  unfold TS.to at h1
  injection h1 with _ h2 h3 h4
  have hdd : upd ρ d b d = b := by unfold upd; rw [if_pos rfl]
  unfold TS.to TS.boxR AS.box
  simp only [hTo, List.map_cons, hdd]
  simp only [hTo] at h3
  rw [h2, h3, h4, flat_lone hl]
theorem boxR_inj {d k : Nat} {t : Ty} {l : List (Den E.T t)} (hi : Inj ρ σ.h) (hn : σ.noId d = true) (hk : FreshK k (σ.to E.toEnc ρ).h) : Inj (upd ρ d k) (σ.boxR d t l).h :=
  (boxT_inj (cs := []) hi hn hk).sub fun p hp => by
    rcases List.mem_cons.1 hp with rfl | hp
    · exact ⟨_, List.mem_cons_self, rfl⟩
    · exact ⟨p, List.mem_cons_of_mem _ hp, rfl⟩
theorem box_at (d b : Nat) : (TV.a (TA.box d 0) : TV E.T).to E.toEnc (upd ρ d b) = .v (.pointer (some ⟨b, 0, none⟩)) := by
  show AV.v (.pointer (some ⟨upd ρ d b d, 0, none⟩)) = _
  unfold upd; rw [if_pos rfl]
theorem bsl_at (d b n c : Nat) : (TV.a (TA.bsl d 0 n c) : TV E.T).to E.toEnc (upd ρ d b) = .v (.slice (some ⟨b, 0, none⟩) n c) := by
  show AV.v (.slice (some ⟨upd ρ d b d, 0, none⟩) n c) = _
  unfold upd; rw [if_pos rfl]
theorem made_one (v : Value) (m : Nat) : (madeCells #[v] m).toList = List.replicate m v := by
  have : madeCells #[v] m = Array.replicate m v := by
    apply Array.ext
    · simp [madeCells]
    · intro j h1 h2
      have hm : j % 1 = 0 := Nat.mod_one j
      simp [madeCells, hm]
  rw [this]; simp
theorem makC_some {by_ : Nat} {n c : Int} {p : Nat × Nat} (h : makC by_ n c = some p) : n = (p.1 : Int) ∧ c = (p.2 : Int) ∧ p.1 ≤ p.2 ∧ by_ * p.2 ≤ 281474976710656 ∧ p.2 ≤ 9223372036854775807 := by
  unfold makC at h
  split at h
  · rename_i hc
    cases h
    obtain ⟨h1, h2, h3, h4⟩ := hc
    have e : ((by_ * c.toNat : Nat) : Int) = (by_ : Int) * c := by rw [Int.natCast_mul, Int.toNat_of_nonneg (by omega)]
    refine ⟨?_, ?_, ?_, ?_, ?_⟩ <;> simp only <;> omega
  · cases h
theorem map_set_one {t : Ty} {l : List (Den E.T t)} {o : Nat} {v : Den E.T t} (h : o < l.length) : splice (l.map (one E.toEnc t)) o [one E.toEnc t v] = (l.set o v).map (one E.toEnc t) := by
  unfold splice
  rw [← List.map_take, List.length_singleton, ← List.map_drop, List.set_eq_take_append_cons_drop, if_pos h]
  simp
theorem flat_ones {R : List (List AV)} {t : Ty} {xs : List (Den E.T t)} (hl : t.lone = true) (h : LeR R (xs.map (cells E.toEnc t))) : LeL R.flatten (xs.map (one E.toEnc t)) := by
  induction xs generalizing R with
  | nil => cases h; exact .nil
  | cons x xs ih =>
    rw [List.map_cons] at h ⊢
    cases h with
    | cons h1 h2 =>
      rw [cells_lone E.toEnc hl] at h1
      rw [List.flatten_cons]
      exact LeL.append h1 (ih h2)
theorem csz_one {t : Ty} (h : t.lone = true) : csz E.toEnc t = 1 := by cases t <;> first | rfl | cases h
theorem flat_cells {t : Ty} (h : t.lone = true) (l : List (Den E.T t)) : (l.map (cells E.toEnc t)).flatten = l.map (one E.toEnc t) := flat_lone (ρ := id) h l
theorem evOpB_eff {t : Tree (TS E.T)} (hi : Inj ρ σ.h) (hG : GOk P Y E G) (hR : Low R) (hA0 : A ρ) (hA1 : creO G.mu o = true → ∀ d b, Nat.ble d 99999 = true → A (upd ρ d b)) (ht : evOpB Y E G o σ = some t) (h : t.holds (OnE E R A)) : EffOp P o (σ.to E.toEnc ρ) R := by
  obtain ⟨dst, op, ty, pos, af, g⟩ := o
  unfold evOpB at ht
  simp only at ht
  split at ht
  · rename_i d el
    split at ht
    · rename_i an e ha
      split at ht
      · rename_i ty' zv hb hz hn'
        simp only [Bool.and_eq_true] at hn'
        obtain ⟨⟨hn, hnb⟩, hd⟩ := hn'
        split at ht
        · rename_i L hlo hzs
          cases ht
          refine eff_alloc (T := Y) hz hd fun b hb => ?_
          have := h (upd ρ d b) (boxR_inj hi hn hb) (hA1 rfl d b hnb)
          rw [put_to, boxR_to hlo hn, box_at] at this
          rw [zerosA_to hzs]
          exact this
        · cases ht
      · cases ht
    · cases ht
  · rename_i d t0 x y
    split at ht
    · rename_i e kx n ky c hmu h0 hx hy
      split at ht
      · rename_i ty' zv by_ hb hz hs hn'
        simp only [Bool.and_eq_true] at hn'
        obtain ⟨⟨hn, hnb⟩, hd⟩ := hn'
        split at ht
        · rename_i z hlo hzs
          cases ht
          obtain ⟨p, hp, h⟩ := h
          obtain ⟨e1, e2, e3, e4, e5⟩ := makC_some hp
          subst e1 e2
          refine eff_make_box (T := Y) (asI_to hx) (asI_to hy) e3 h0 hs hz e4 e5 hd fun b hb => ?_
          have := h (upd ρ d b) (boxR_inj hi hn hb) (hA1 hmu d b hnb)
          rw [put_to, boxR_to hlo hn, bsl_at] at this
          have hc := zerosA_to (E := E) hzs
          have hcz : ∃ v, zv.cells = #[v] := by
            have hlen := congrArg List.length hc
            simp at hlen
            exact ⟨zv.cells[0], by apply Array.ext; · simp [hlen]
                                   · intro j h1 h2; simp at h2; subst h2; simp⟩
          obtain ⟨v, hv⟩ := hcz
          rw [hv] at hc ⊢
          rw [Nat.mul_one, made_one, List.map_replicate]
          simp only [List.map_cons, List.map_nil, List.cons.injEq, and_true] at hc
          rw [hc]
          rw [List.map_replicate] at this
          exact this
        · cases ht
      · cases ht
    · cases ht
  · rename_i d t0 len ps
    split at ht
    · rename_i e ty' us hmu h0 het hx
      split at ht
      · rename_i xs hlo' hp hn' hc'
        simp only [Bool.and_eq_true] at hn' hlo' hc'
        obtain ⟨⟨hn, hnb⟩, hd⟩ := hn'
        obtain ⟨hlo, hs⟩ := hlo'
        obtain ⟨⟨⟨c1, c2⟩, c3⟩, c4⟩ := hc'
        obtain ⟨by_, hz⟩ := sz1_of hs
        cases ht
        obtain ⟨m1, m2⟩ := packAll_to (ρ := ρ) hp
        have pl : ∀ u ∈ us, ∃ x, u = TV.a x ∧ x.plain = true ∧ x.simple = true := fun u hu => by
          have := List.all_eq_true.1 c4 u hu
          unfold plain1 at this
          split at this
          · rename_i x; rw [Bool.and_eq_true] at this; exact ⟨x, rfl, this.1, this.2⟩
          · cases this
        refine eff_build_box (T := Y) (sz := 1) rfl h0 hz c1 c2 (opTs_to (ρ := ρ) hx) ?_ ?_ c3 hd fun b hb => ?_
        · rw [List.all_eq_true]
          intro u hu
          obtain ⟨u0, hu0, rfl⟩ := List.mem_map.1 hu
          obtain ⟨x, rfl, p1, p2⟩ := pl u0 hu0
          obtain ⟨q1, q2⟩ := simple_cells (E := E) (ρ := ρ) p2
          show ((x.to E.toEnc ρ).okc && Nat.beq (x.to E.toEnc ρ).cells.length 1) = true
          rw [q1, q2]; rfl
        · intro u hu
          obtain ⟨r, hr, hu⟩ := List.mem_flatten.1 hu
          obtain ⟨u1, hu1, rfl⟩ := List.mem_map.1 hr
          obtain ⟨u0, hu0, rfl⟩ := List.mem_map.1 hu1
          obtain ⟨x, rfl, p1, p2⟩ := pl u0 hu0
          obtain ⟨q1, q2⟩ := simple_cells (E := E) (ρ := ρ) p2
          have hu' : u ∈ (x.to E.toEnc ρ).cells := hu
          rw [q1, List.mem_singleton] at hu'
          subst hu'
          exact TA.plain_to _ _ p1
        · have := h (upd ρ d b) (boxR_inj hi hn hb) (hA1 hmu d b hnb)
          rw [put_to, boxR_to hlo hn, bsl_at] at this
          refine hR.low this (fun F X tm hs => ?_) rfl
          refine hs.le2 rfl (fun t u' hu => ⟨u', hu, .refl _⟩) (fun q cs' hq => ?_) (fun p hp => hp)
          simp only [AS.put, AS.box, look_cons] at hq ⊢
          split at hq
          · rename_i e3
            rw [if_pos e3]
            cases hq
            exact ⟨_, rfl, flat_ones hlo m1⟩
          · rename_i e3
            rw [if_neg e3]
            exact ⟨cs', hq, LeL.refl _⟩
      · cases ht
    · cases ht
  · rename_i d t0 x
    split at ht
    · rename_i kk p hx
      split at ht
      · rename_i hd
        cases ht
        exact pureT_eff (Y := Y) hi hG hA0 rfl hd h
      · cases ht
    · cases ht
  · rename_i d x y t0 u
    split at ht
    · rename_i kk n c hx
      split at ht
      · rename_i e du ty' L h0 hu hb
        split at ht
        · rename_i m hc hm
          simp only [Bool.and_eq_true] at hc
          obtain ⟨⟨⟨hlo, hs⟩, hnz⟩, hd⟩ := hc
          obtain ⟨by_, hz⟩ := sz1_of hs
          cases ht
          obtain ⟨l', hl', h⟩ := h
          unfold apnA at hl'
          split at hl'
          · rename_i hr
            cases hl'
            obtain ⟨v, S, k1, k2, k3⟩ := addT_to (ρ := ρ) hm
            rw [csz_one hlo] at k2
            have hlk := look_row (ρ := ρ) hi hlo hb
            refine eff_append_box (T := Y) (m := m.map (cells E.toEnc ty')) (opT_to (ρ := ρ) hx) hlk (isMpB_ne fun u hu => by obtain ⟨z, _, rfl⟩ := List.mem_map.1 hu; exact one_notMp ty' z) h0 hu (by cases du <;> first | exact .inl rfl | exact .inr ⟨_, rfl⟩ | cases hnz) hz (addE_ok k1 k2 k3) (by simpa using hr.1) (by simpa using hr.2) hd (fun u hu => by
              rw [flat_cells hlo] at hu
              obtain ⟨z, _, rfl⟩ := List.mem_map.1 hu
              exact one_plain _ _ z) ?_
            have := h ρ (inj_cons hi hb) hA0
            rw [put_to, setr_to, flat_lone hlo] at this
            rw [flat_cells hlo, List.length_map]
            have e1 : splice (L.map (one E.toEnc ty')) n (m.map (one E.toEnc ty')) = (L.take n ++ m ++ L.drop (n + m.length)).map (one E.toEnc ty') := by
              unfold splice
              rw [List.map_append, List.map_append, List.map_take, List.map_drop, List.length_map]
            rw [e1]
            exact this
          · cases hl'
        · cases ht
      · cases ht
    · cases ht
  · rename_i t0 x y
    split at ht
    · rename_i kk p hx
      split at ht
      · rename_i ty' L hb
        split at ht
        · rename_i a hc hy
          split at ht
          · rename_i v hv
            cases ht
            simp only [Bool.and_eq_true] at hc
            obtain ⟨hlo, hs⟩ := hc
            obtain ⟨by_, hz⟩ := sz1_of hs
            obtain ⟨u, hu, hcs⟩ := Option.bind_eq_some_iff.1 hy
            obtain ⟨c1, c2, c3, c4⟩ := cs1_to (ρ := ρ) hcs
            obtain ⟨l', hl', h⟩ := h
            unfold setA at hl'
            split at hl'
            · rename_i hlt
              cases hl'
              have hlk := look_row (ρ := ρ) hi hlo hb
              have heff := effTo_store (P := P) (T := Y) (ty := ty) (pos := pos) (af := af) (g := g) (opT_to (ρ := ρ) hx) hlk (opT_to (ρ := ρ) hu) c1 hz (by rw [c2]; rfl) c3 c4 (by rw [List.length_map]; exact Nat.ble_eq_true_of_le hlt) (isMpB_ne fun u hu => by obtain ⟨z, _, rfl⟩ := List.mem_map.1 hu; exact one_notMp ty' z)
              refine heff _ ?_
              have := h ρ (inj_cons hi hb) hA0
              rw [setr_to, flat_lone hlo, ← map_set_one hlt] at this
              refine hR.low this (fun F X tm hs => ?_) rfl
              refine hs.le2 rfl (fun t u' hu => ⟨u', hu, .refl _⟩) (fun q cs' hq => ?_) (fun p hp => hp)
              simp only [AS.setc, look_cons] at hq ⊢
              split at hq
              · rename_i e3
                rw [if_pos e3]
                cases hq
                refine ⟨_, rfl, ?_⟩
                rw [c2]
                have hle : Le1 (a.to E.toEnc ρ) (one E.toEnc ty' v) := by
                  have h1 := asD_to E.toEnc ρ hv
                  rw [TA.rd_to] at h1
                  exact (le1_rd _).trans h1
                unfold splice
                exact LeL.append (LeL.append (LeL.refl _) (.cons hle .nil)) (LeL.refl _)
              · rename_i e3
                rw [if_neg e3]
                exact ⟨cs', hq, LeL.refl _⟩
            · cases hl'
          · cases ht
        · cases ht
      · cases ht
    · cases ht
  · cases ht
theorem evOp_eff (hi : Inj ρ σ.h) (hG : GOk P Y E G) (hR : Low R) (hA0 : A ρ) (hA1 : creO G.mu o = true → ∀ d b, Nat.ble d 99999 = true → A (upd ρ d b)) (h : (evOp Y E G o σ).holds (OnE E R A)) : EffOp P o (σ.to E.toEnc ρ) R := by
  unfold evOp at h
  split at h
  · rename_i t ht; exact evOpB_eff (Y := Y) hi hG hR hA0 hA1 ht h
  · exact evOp0_eff (Y := Y) hi hG hR hA0 hA1 h
end
theorem evOp_ok (hi : Inj ρ σ.h) (hG : GOk P Y E G) (ho : l[k]? = some o) (hw : wantedA l (σ.to E.toEnc ρ) o = some true) (h : (evOp Y E G o σ).holds (On P E Q ρ (.o l (k + 1) rest :: ks))) : ARun P Q (.o l k (o :: rest) :: ks) (σ.to E.toEnc ρ) :=
  ar_eff ho hw (evOp_eff (Y := Y) (R := fun τ => ARun P Q (.o l (k + 1) rest :: ks) τ) hi hG (low_arun rfl) (A := Agr ρ) (Agr.refl ρ) (fun _ d b hn => Agr.upd hn) h)
end
end Go.Proofs.YtgmlkhfjhogdbaaGreat
