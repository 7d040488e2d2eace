/- The layer of abstract values: what a value reads as, whatever memory it lies in. -/
import Derived.WalkKit
import Derived.Test.YtophpbihcfdkcaaP
namespace Go.Proofs.Ytophpbihcfdkcaa
open Go.RowKit P
set_option linter.unusedSimpArgs false
set_option linter.unusedVariables false

/-- Abstract values: a plain value; a slice that reads as a list of elements of 'sz' cells each (own: its row may be appended to); a struct's cells; a tuple; an address behind which cells read so for good; a closure; an interface value. -/
inductive AV where
  | v (x : Value)
  | sl (own : Bool) (sz : Nat) (l : List (List AV))
  | ag (cs : List AV)
  | tu (us : List AV)
  | el (cs : List AV)
  | fn (f : FuncId) (caps : List AV)
  | ifc (t : TypeId) (u : AV)
  | mp (l : List (Value × AV))

/-- A world, and how many first cells of each block stay as they are. -/
structure GW where
  w : World
  g : Nat → Option Nat

inductive Rel (X : GW) : AV → Value → Prop
  | v (x : Value) : Rel X (.v x) x
  | nil (o : Bool) (sz : Nat) : Rel X (.sl o sz []) (.slice none 0 0)
  | sl (o : Bool) (sz : Nat) (l : List (List AV)) (b off cap n : Nat) (c : Nat → Nat → Value) (hg : X.g b = some n) (hn : off + l.length * sz ≤ n) (hc : l.length ≤ cap)
      (hs : ∀ (i : Nat) (r : List AV), l[i]? = some r → r.length = sz)
      (hm : ∀ (i j : Nat) (r : List AV) (u : AV), l[i]? = some r → r[j]? = some u → X.w.cell? ⟨b, off + i * sz + j, none⟩ = some (c i j))
      (hr : ∀ (i j : Nat) (r : List AV) (u : AV), l[i]? = some r → r[j]? = some u → Rel X u (c i j)) : Rel X (.sl o sz l) (.slice (some ⟨b, off, none⟩) l.length cap)
  | ag (us : List AV) (xs : Array Value) (hl : us.length = xs.size) (hr : ∀ (i : Nat) (u : AV) (x : Value), us[i]? = some u → xs[i]? = some x → Rel X u x) : Rel X (.ag us) (.agg xs)
  | tu (us : List AV) (xs : Array Value) (hl : us.length = xs.size) (hr : ∀ (i : Nat) (u : AV) (x : Value), us[i]? = some u → xs[i]? = some x → Rel X u x) : Rel X (.tu us) (.tuple xs)
  | el (us : List AV) (b off n : Nat) (c : Nat → Value) (hg : X.g b = some n) (hn : off + us.length ≤ n)
      (hm : ∀ (j : Nat) (u : AV), us[j]? = some u → X.w.cell? ⟨b, off + j, none⟩ = some (c j)) (hr : ∀ (j : Nat) (u : AV), us[j]? = some u → Rel X u (c j)) : Rel X (.el us) (.pointer (some ⟨b, off, none⟩))
  | fn (f : FuncId) (us : List AV) (xs : Array Value) (hl : us.length = xs.size) (hr : ∀ (i : Nat) (u : AV) (x : Value), us[i]? = some u → xs[i]? = some x → Rel X u x) : Rel X (.fn f us) (.func (.func f) #[] xs)
  | ifc (t : TypeId) (u : AV) (x : Value) (hr : Rel X u x) : Rel X (.ifc t u) (.iface t x)

/-- What stays as it is does. -/
def Pres (X X' : GW) : Prop := ∀ b n, X.g b = some n → ∃ n', n ≤ n' ∧ X'.g b = some n' ∧ ∀ j, j < n → X'.w.cell? ⟨b, j, none⟩ = X.w.cell? ⟨b, j, none⟩
theorem Pres.refl (X : GW) : Pres X X := fun b n h => ⟨n, Nat.le_refl _, h, fun _ _ => rfl⟩
theorem Pres.trans {X Y Z : GW} (h : Pres X Y) (k : Pres Y Z) : Pres X Z := fun b n hb => by
  obtain ⟨n1, h1, h2, h3⟩ := h b n hb
  obtain ⟨n2, k1, k2, k3⟩ := k b n1 h2
  exact ⟨n2, by omega, k2, fun j hj => (k3 j (by omega)).trans (h3 j hj)⟩

theorem Rel.mono {X X' : GW} {u : AV} {x : Value} (h : Rel X u x) (hp : Pres X X') : Rel X' u x := by
  induction h with
  | v x => exact .v x
  | nil o sz => exact .nil o sz
  | sl o sz l b off cap n c hg hn hc hs hm hr ih =>
    obtain ⟨n', h1, h2, h3⟩ := hp b n hg
    refine .sl o sz l b off cap n' c h2 (by omega) hc hs (fun i j r u hi hj => ?_) ih
    rw [h3 _ ?_]; exact hm i j r u hi hj
    have hi' := (List.getElem?_eq_some_iff.1 hi).1
    have hj' := (List.getElem?_eq_some_iff.1 hj).1
    have hsz := hs i r hi
    have : i * sz + sz ≤ l.length * sz := by rw [← Nat.succ_mul]; exact Nat.mul_le_mul_right _ hi'
    omega
  | ag us xs hl hr ih => exact .ag us xs hl ih
  | tu us xs hl hr ih => exact .tu us xs hl ih
  | el us b off n c hg hn hm hr ih =>
    obtain ⟨n', h1, h2, h3⟩ := hp b n hg
    refine .el us b off n' c h2 (by omega) (fun j u hj => ?_) ih
    have hj' := (List.getElem?_eq_some_iff.1 hj).1
    rw [h3 _ (by omega)]; exact hm j u hj
  | fn f us xs hl hr ih => exact .fn f us xs hl ih
  | ifc t u x hr ih => exact .ifc t u x ih

/-- Where an owner may stand: a slot, a cell of a box. -/
inductive Root where
  | s (t : Nat)
  | c (k o : Nat)
  deriving DecidableEq

structure AS where
  n : Nat
  t : List (Nat × AV)
  h : List (Nat × List AV)
  e : List (Nat × Root)

def look {α : Type} : List (Nat × α) → Nat → Option α
  | [], _ => none
  | (k, a) :: r, i => match Nat.beq i k with | true => some a | false => look r i
theorem look_nil {α : Type} (i : Nat) : look ([] : List (Nat × α)) i = none := rfl
theorem look_cons {α : Type} (k : Nat) (a : α) (r : List (Nat × α)) (i : Nat) : look ((k, a) :: r) i = if i = k then some a else look r i := by
  simp only [look]
  by_cases h : i = k
  · subst h; rw [if_pos rfl, Nat.beq_refl]
  · rw [if_neg h]
    cases hb : Nat.beq i k
    · rfl
    · exact absurd (Nat.eq_of_beq_eq_true hb) h

def own1 : Option AV → Option (Nat × List (List AV))
  | some (.sl true sz l) => some (sz, l)
  | _ => none
def AS.own (σ : AS) : Root → Option (Nat × List (List AV))
  | .s t => own1 (look σ.t t)
  | .c k o => match look σ.h k with | some cs => own1 cs[o]? | _ => none
def rootV (tm : Array Value) (w : World) : Root → Option Value
  | .s t => some (tm.getD t undef)
  | .c k o => w.cell? ⟨k, o, none⟩

/-- The row of an owner. -/
def OwnOk (F : Nat → Prop) (X : GW) (sz : Nat) (l : List (List AV)) (x : Value) : Prop :=
  (x = .slice none 0 0 ∧ l = []) ∨ ∃ b cap cs e fr, x = .slice (some ⟨b, 0, none⟩) l.length cap ∧ X.g b = some (l.length * sz) ∧ X.w.heap[b]? = some (.cells cs e fr) ∧ cs.size = cap * sz ∧
    (∀ j, l.length * sz ≤ j → j < cs.size → X.w.frozen? ⟨b, j, none⟩ = false) ∧ ¬ F b
/-- A box of cells. -/
def CellsOk (F : Nat → Prop) (X : GW) (k : Nat) (cs : List AV) : Prop :=
  X.g k = none ∧ ¬ F k ∧ ∃ (arr : Array Value) (e : TypeId) (fr : Nat × Nat), X.w.heap[k]? = some (.cells arr e fr) ∧ arr.size = cs.length ∧ (∀ o, X.w.frozen? ⟨k, o, none⟩ = false) ∧ ∀ (o : Nat) u x, cs[o]? = some u → arr[o]? = some x → Rel X u x

/-- A map. -/
def MapOk (F : Nat → Prop) (X : GW) (k : Nat) (l : List (Value × AV)) : Prop :=
  X.g k = none ∧ ¬ F k ∧ ∃ (es : Array MapEntry) (clock : Nat), X.w.heap[k]? = some (.map es clock) ∧ es.size = l.length ∧ ∀ (i : Nat) (e : MapEntry) p, l[i]? = some p → es[i]? = some e → e.key = p.1 ∧ Rel X p.2 e.val
def AV.isMp : AV → Bool
  | .mp _ => true
  | _ => false
def isMpB : List AV → Bool
  | [.mp _] => true
  | _ => false
/-- A box: cells, or a map. -/
def BoxOk (F : Nat → Prop) (X : GW) (k : Nat) (cs : List AV) : Prop := (isMpB cs = false ∧ CellsOk F X k cs) ∨ ∃ l, cs = [.mp l] ∧ MapOk F X k l
theorem isMpB_true {cs : List AV} (h : isMpB cs = true) : ∃ l, cs = [.mp l] := by
  match cs, h with
  | [.mp l], _ => exact ⟨l, rfl⟩
theorem CellsOk.box {F : Nat → Prop} {X : GW} {k : Nat} {cs : List AV} (h : CellsOk F X k cs) : BoxOk F X k cs := by
  cases hm : isMpB cs with
  | false => exact .inl ⟨hm, h⟩
  | true =>
    obtain ⟨l, rfl⟩ := isMpB_true hm
    obtain ⟨h1, h2, arr, e, fr, h3, h4, h5, h6⟩ := h
    have hlt : 0 < arr.size := by rw [h4]; simp
    have := h6 0 (.mp l) _ rfl (Array.getElem?_eq_getElem hlt)
    cases this
theorem BoxOk.gn {F : Nat → Prop} {X : GW} {k : Nat} {cs : List AV} (h : BoxOk F X k cs) : X.g k = none := by
  rcases h with ⟨_, h⟩ | ⟨l, _, h⟩
  · exact h.1
  · exact h.1
theorem BoxOk.nF {F : Nat → Prop} {X : GW} {k : Nat} {cs : List AV} (h : BoxOk F X k cs) : ¬ F k := by
  rcases h with ⟨_, h⟩ | ⟨l, _, h⟩
  · exact h.2.1
  · exact h.2.1
theorem BoxOk.cells {F : Nat → Prop} {X : GW} {k : Nat} {cs : List AV} (h : BoxOk F X k cs) (hm : isMpB cs = false) : CellsOk F X k cs := by
  rcases h with ⟨_, h⟩ | ⟨l, rfl, h⟩
  · exact h
  · cases hm
theorem BoxOk.at {F : Nat → Prop} {X : GW} {k o : Nat} {cs : List AV} {u : AV} (h : BoxOk F X k cs) (hu : cs[o]? = some u) (hm : u.isMp = false) : CellsOk F X k cs := by
  rcases h with ⟨_, h⟩ | ⟨l, rfl, h⟩
  · exact h
  · cases o with
    | zero => simp at hu; subst hu; cases hm
    | succ o => simp at hu
theorem BoxOk.own {F : Nat → Prop} {X : GW} {k o : Nat} {cs : List AV} {q : Nat × List (List AV)} (h : BoxOk F X k cs) (hu : own1 cs[o]? = some q) : CellsOk F X k cs := by
  cases hc : cs[o]? with
  | none => rw [hc] at hu; cases hu
  | some u =>
    refine h.at hc ?_
    rw [hc] at hu
    cases u with
    | mp l => simp [own1] at hu
    | _ => rfl
theorem BoxOk.map {F : Nat → Prop} {X : GW} {k : Nat} {l : List (Value × AV)} (h : BoxOk F X k [.mp l]) : MapOk F X k l := by
  rcases h with ⟨h, _⟩ | ⟨l', h1, h2⟩
  · cases h
  · cases h1; exact h2

structure Sim (F : Nat → Prop) (X : GW) (σ : AS) (tm : Array Value) : Prop where
  size : tm.size = σ.n
  gb : ∀ b n, X.g b = some n → b < X.w.heap.size
  fb : ∀ b, F b → b < X.w.heap.size
  slot : ∀ t u, look σ.t t = some u → Rel X u (tm.getD t undef)
  box : ∀ k cs, look σ.h k = some cs → BoxOk F X k cs
  eqs : ∀ x r, look σ.e x = some r → rootV tm X.w r = some (tm.getD x undef)
  own : ∀ r sz l, σ.own r = some (sz, l) → ∃ x, rootV tm X.w r = some x ∧ OwnOk F X sz l x
  disj : ∀ r r' sz l sz' l' a n c a' n' c', r ≠ r' → σ.own r = some (sz, l) → σ.own r' = some (sz', l') → rootV tm X.w r = some (.slice (some a) n c) → rootV tm X.w r' = some (.slice (some a') n' c') → a.block ≠ a'.block

/-- What becomes of the world: what is foreign is as it was. -/
structure Ext (F : Nat → Prop) (X X' : GW) : Prop where
  os : X'.w.os = X.w.os
  tape : X'.w.tape = X.w.tape
  output : X'.w.output = X.w.output
  size : X.w.heap.size ≤ X'.w.heap.size
  frame : ∀ b, F b → X'.w.heap[b]? = X.w.heap[b]? ∧ X'.g b = X.g b
  pres : Pres X X'
theorem Ext.refl (F : Nat → Prop) (X : GW) : Ext F X X := ⟨rfl, rfl, rfl, Nat.le_refl _, fun _ _ => ⟨rfl, rfl⟩, Pres.refl X⟩
theorem Ext.trans {F : Nat → Prop} {X Y Z : GW} (h : Ext F X Y) (k : Ext F Y Z) : Ext F X Z :=
  ⟨k.os.trans h.os, k.tape.trans h.tape, k.output.trans h.output, Nat.le_trans h.size k.size, fun b hb => ⟨(k.frame b hb).1.trans (h.frame b hb).1, (k.frame b hb).2.trans (h.frame b hb).2⟩, h.pres.trans k.pres⟩
theorem Ext.mono {F F' : Nat → Prop} {X Y : GW} (h : Ext F X Y) (hf : ∀ b, F' b → F b) : Ext F' X Y := ⟨h.os, h.tape, h.output, h.size, fun b hb => h.frame b (hf b hb), h.pres⟩

/-- Nothing that was there has turned. -/
structure New (X X' : GW) : Prop where
  os : X'.w.os = X.w.os
  tape : X'.w.tape = X.w.tape
  output : X'.w.output = X.w.output
  size : X.w.heap.size ≤ X'.w.heap.size
  old : ∀ b, b < X.w.heap.size → X'.w.heap[b]? = X.w.heap[b]? ∧ X'.g b = X.g b
theorem New.refl (X : GW) : New X X := ⟨rfl, rfl, rfl, Nat.le_refl _, fun _ _ => ⟨rfl, rfl⟩⟩
theorem New.trans {X Y Z : GW} (h : New X Y) (k : New Y Z) : New X Z :=
  ⟨k.os.trans h.os, k.tape.trans h.tape, k.output.trans h.output, Nat.le_trans h.size k.size, fun b hb => ⟨(k.old b (Nat.lt_of_lt_of_le hb h.size)).1.trans (h.old b hb).1, (k.old b (Nat.lt_of_lt_of_le hb h.size)).2.trans (h.old b hb).2⟩⟩
theorem cell_of_heap {w w' : World} {b j : Nat} (h : w'.heap[b]? = w.heap[b]?) : w'.cell? ⟨b, j, none⟩ = w.cell? ⟨b, j, none⟩ := by simp only [World.cell?, h]
theorem frozen_of_heap {w w' : World} {b j : Nat} (h : w'.heap[b]? = w.heap[b]?) : w'.frozen? ⟨b, j, none⟩ = w.frozen? ⟨b, j, none⟩ := by simp only [World.frozen?, h]
theorem New.pres {X X' : GW} (h : New X X') (hg : ∀ b n, X.g b = some n → b < X.w.heap.size) : Pres X X' := fun b n hb => by
  obtain ⟨h1, h2⟩ := h.old b (hg b n hb)
  exact ⟨n, Nat.le_refl _, h2.trans hb, fun j _ => cell_of_heap h1⟩
theorem New.ext {F : Nat → Prop} {X X' : GW} (h : New X X') (hg : ∀ b n, X.g b = some n → b < X.w.heap.size) (hF : ∀ b, F b → b < X.w.heap.size) : Ext F X X' :=
  ⟨h.os, h.tape, h.output, h.size, fun b hb => h.old b (hF b hb), h.pres hg⟩

theorem cell_lt {w : World} {b j : Nat} {x : Value} (h : w.cell? ⟨b, j, none⟩ = some x) : b < w.heap.size := by
  unfold World.cell? at h
  cases hb : w.heap[b]? with
  | none => rw [hb] at h; cases h
  | some o => exact (Array.getElem?_eq_some_iff.1 hb).1

theorem OwnOk.keep {F F' : Nat → Prop} {X X' : GW} {sz : Nat} {l : List (List AV)} {x : Value} (h : OwnOk F X sz l x) (hk : ∀ b n c, x = .slice (some ⟨b, 0, none⟩) n c → X'.w.heap[b]? = X.w.heap[b]? ∧ X'.g b = X.g b ∧ ¬ F' b) : OwnOk F' X' sz l x := by
  rcases h with h | ⟨b, cap, cs, e, fr, h1, h2, h3, h4, h5, h6⟩
  · exact .inl h
  · obtain ⟨k1, k2, k3⟩ := hk _ _ _ h1
    exact .inr ⟨b, cap, cs, e, fr, h1, k2.trans h2, k1.trans h3, h4, fun j a1 a2 => (frozen_of_heap k1).trans (h5 j a1 a2), k3⟩
theorem BoxOk.keep {F F' : Nat → Prop} {X X' : GW} {k : Nat} {cs : List AV} (h : BoxOk F X k cs) (hk : X'.w.heap[k]? = X.w.heap[k]? ∧ X'.g k = X.g k ∧ ¬ F' k) (hp : Pres X X') : BoxOk F' X' k cs := by
  rcases h with ⟨_, h1, h2, arr, e, fr, h3, h4, h5, h6⟩ | ⟨l, rfl, h1, h2, es, ck, h3, h4, h5⟩
  · exact CellsOk.box ⟨hk.2.1.trans h1, hk.2.2, arr, e, fr, hk.1.trans h3, h4, fun o => (frozen_of_heap hk.1).trans (h5 o), fun o u x hu hx => (h6 o u x hu hx).mono hp⟩
  · exact .inr ⟨l, rfl, hk.2.1.trans h1, hk.2.2, es, ck, hk.1.trans h3, h4, fun i e p hp1 he => ⟨(h5 i e p hp1 he).1, (h5 i e p hp1 he).2.mono hp⟩⟩
theorem BoxOk.lt {F : Nat → Prop} {X : GW} {k : Nat} {cs : List AV} (h : BoxOk F X k cs) : k < X.w.heap.size := by
  rcases h with ⟨_, _, _, arr, e, fr, h3, _⟩ | ⟨_, _, _, _, es, ck, h3, _⟩
  · exact (Array.getElem?_eq_some_iff.1 h3).1
  · exact (Array.getElem?_eq_some_iff.1 h3).1
theorem OwnOk.lt {F : Nat → Prop} {X : GW} {sz : Nat} {l : List (List AV)} {x : Value} (h : OwnOk F X sz l x) {b n c} (hx : x = .slice (some ⟨b, 0, none⟩) n c) : b < X.w.heap.size ∧ ¬ F b := by
  rcases h with ⟨h, _⟩ | ⟨b', cap, cs, e, fr, h1, h2, h3, h4, h5, h6⟩
  · rw [h] at hx; cases hx
  · rw [h1] at hx; cases hx
    exact ⟨(Array.getElem?_eq_some_iff.1 h3).1, h6⟩

theorem own_c_box {σ : AS} {k o sz : Nat} {l : List (List AV)} (h : σ.own (.c k o) = some (sz, l)) : ∃ cs, look σ.h k = some cs ∧ own1 cs[o]? = some (sz, l) := by
  simp only [AS.own] at h
  split at h
  · rename_i cs hc; exact ⟨cs, hc, h⟩
  · cases h

/-- The state's frame, whatever is made anew. -/
theorem Sim.new {F : Nat → Prop} {X X' : GW} {σ : AS} {tm : Array Value} (h : Sim F X σ tm) (hn : New X X') (hg : ∀ b n, X'.g b = some n → b < X'.w.heap.size) : Sim F X' σ tm := by
  have hp := hn.pres h.gb
  have hroot : ∀ r x, rootV tm X.w r = some x → rootV tm X'.w r = some x := by
    intro r x hr
    cases r with
    | s t => exact hr
    | c k o =>
      simp only [rootV] at hr ⊢
      rw [cell_of_heap (hn.old k (cell_lt hr)).1]; exact hr
  have hback : ∀ r sz l, σ.own r = some (sz, l) → rootV tm X'.w r = rootV tm X.w r := by
    intro r sz l ho
    obtain ⟨x, hx, _⟩ := h.own r sz l ho
    rw [hx]; exact hroot r x hx
  refine ⟨h.size, hg, fun b hb => Nat.lt_of_lt_of_le (h.fb b hb) hn.size, fun t u hu => (h.slot t u hu).mono hp, fun k cs hk => ?_, fun x r hx => hroot r _ (h.eqs x r hx), fun r sz l ho => ?_, fun r r' sz l sz' l' a n c a' n' c' hne ho ho' hr hr' => ?_⟩
  · have hb := h.box k cs hk
    exact hb.keep ⟨(hn.old k hb.lt).1, (hn.old k hb.lt).2, hb.nF⟩ hp
  · obtain ⟨x, hx, hok⟩ := h.own r sz l ho
    refine ⟨x, hroot r x hx, hok.keep fun b n c hxe => ?_⟩
    have := hok.lt hxe
    exact ⟨(hn.old b this.1).1, (hn.old b this.1).2, this.2⟩
  · rw [hback r sz l ho] at hr
    rw [hback r' sz' l' ho'] at hr'
    exact h.disj r r' sz l sz' l' a n c a' n' c' hne ho ho' hr hr'

end Go.Proofs.Ytophpbihcfdkcaa
