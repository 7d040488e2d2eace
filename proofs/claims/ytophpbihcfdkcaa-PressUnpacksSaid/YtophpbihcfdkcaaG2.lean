/- The layer of abstract values: states, and what may be done to them. -/
import Derived.Test.YtophpbihcfdkcaaG1
namespace Go.Proofs.Ytophpbihcfdkcaa
open Go.RowKit P
set_option linter.unusedSimpArgs false
set_option linter.unusedVariables false

/-- Does a place stand in slot d? -/
def Root.in (d : Nat) : Root → Bool
  | .s t => t == d
  | .c _ _ => false

/-- What is owned by a value just made. -/
def FreshOk (F : Nat → Prop) (B : Nat) (X' : GW) (u : AV) (x : Value) : Prop :=
  ∀ sz l, own1 (some u) = some (sz, l) → OwnOk F X' sz l x ∧ ∀ a n c, x = .slice (some a) n c → B ≤ a.block
def AV.plain (u : AV) : Prop := own1 (some u) = none
theorem FreshOk.plain {F : Nat → Prop} {B : Nat} {X' : GW} {u : AV} {x : Value} (h : u.plain) : FreshOk F B X' u x :=
  fun sz l hp => by rw [h] at hp; cases hp
theorem plain_v (x : Value) : (AV.v x).plain := rfl
theorem plain_ag (us : List AV) : (AV.ag us).plain := rfl
theorem plain_tu (us : List AV) : (AV.tu us).plain := rfl
theorem plain_el (us : List AV) : (AV.el us).plain := rfl
theorem plain_fn (f : FuncId) (us : List AV) : (AV.fn f us).plain := rfl
theorem plain_ifc (t : TypeId) (u : AV) : (AV.ifc t u).plain := rfl
theorem plain_sl (sz : Nat) (l : List (List AV)) : (AV.sl false sz l).plain := rfl

/-- As a reader sees it. -/
def AV.rd : AV → AV
  | .sl _ sz l => .sl false sz l
  | u => u
theorem Rel.own {X : GW} {o o' : Bool} {sz : Nat} {l : List (List AV)} {x : Value} (h : Rel X (.sl o sz l) x) : Rel X (.sl o' sz l) x := by
  cases h with
  | nil o sz => exact .nil _ _
  | sl o sz l b off cap n c hg hn hc hs hm hr => exact .sl _ _ l b off cap n c hg hn hc hs hm hr
theorem Rel.rd {X : GW} {u : AV} {x : Value} (h : Rel X u x) : Rel X u.rd x := by
  cases u with
  | sl o sz l => exact h.own
  | _ => exact h
theorem plain_rd (u : AV) : u.rd.plain := by cases u <;> rfl

/-- A state whose owners are owners of another one's. -/
theorem Sim.reown {F : Nat → Prop} {X : GW} {σ σ' : AS} {tm : Array Value} (h : Sim F X σ tm) (hn : σ'.n = σ.n) (hslot : ∀ t u, look σ'.t t = some u → Rel X u (tm.getD t undef))
    (hbox : ∀ k cs, look σ'.h k = some cs → BoxOk F X k cs) (heqs : ∀ x r, look σ'.e x = some r → rootV tm X.w r = some (tm.getD x undef))
    (f : Root → Root) (hf : ∀ r sz l, σ'.own r = some (sz, l) → (rootV tm X.w r = some (.slice none 0 0) ∧ l = []) ∨ (σ.own (f r) = some (sz, l) ∧ rootV tm X.w r = rootV tm X.w (f r)))
    (hinj : ∀ r r', r ≠ r' → σ'.own r ≠ none → σ'.own r' ≠ none → f r ≠ f r') : Sim F X σ' tm := by
  refine ⟨by rw [hn]; exact h.size, h.gb, h.fb, hslot, hbox, heqs, fun r sz l ho => ?_, fun r r' sz l sz' l' a n c a' n' c' hne ho ho' hr hr' => ?_⟩
  · rcases hf r sz l ho with ⟨h1, h2⟩ | ⟨h1, h2⟩
    · exact ⟨_, h1, .inl ⟨rfl, h2⟩⟩
    · rw [h2]; exact h.own _ _ _ h1
  · rcases hf r sz l ho with ⟨h1, h2⟩ | ⟨h1, h2⟩
    · rw [h1] at hr; cases hr
    · rcases hf r' sz' l' ho' with ⟨k1, k2⟩ | ⟨k1, k2⟩
      · rw [k1] at hr'; cases hr'
      · rw [h2] at hr; rw [k2] at hr'
        exact h.disj (f r) (f r') sz l sz' l' a n c a' n' c' (hinj r r' hne (by rw [ho]; simp) (by rw [ho']; simp)) h1 k1 hr hr'

theorem getD_set_self {tm : Array Value} {d : Nat} {x : Value} (h : d < tm.size) : (tm.setIfInBounds d x).getD d undef = x := by simp [h]
theorem getD_set_ne {tm : Array Value} {d t : Nat} {x : Value} (h : t ≠ d) : (tm.setIfInBounds d x).getD t undef = tm.getD t undef := by
  simp only [Array.getD_eq_getD_getElem?, Array.getElem?_setIfInBounds]; rw [if_neg (fun e => h e.symm)]

theorem look_mem {α : Type} : ∀ {l : List (Nat × α)} {x : Nat} {a : α}, look l x = some a → (x, a) ∈ l
  | [], _, _, h => by cases h
  | (k, b) :: r, x, a, h => by
    simp only [look_cons] at h
    split at h
    · rename_i e; subst e; cases h; exact List.mem_cons_self
    · exact List.mem_cons_of_mem _ (look_mem h)
/-- The alias facts, as facts of a list. -/
def EqsOk (e : List (Nat × Root)) (tm : Array Value) (w : World) : Prop := ∀ p ∈ e, rootV tm w p.2 = some (tm.getD p.1 undef)
theorem EqsOk.look {e : List (Nat × Root)} {tm : Array Value} {w : World} (h : EqsOk e tm w) : ∀ x r, look e x = some r → rootV tm w r = some (tm.getD x undef) := fun _ _ hx => h _ (look_mem hx)

structure SimE (F : Nat → Prop) (X : GW) (σ : AS) (tm : Array Value) : Prop extends Sim F X σ tm where
  eqm : EqsOk σ.e tm X.w

theorem rootV_new {X X' : GW} (hn : New X X') {tm : Array Value} {r : Root} {x : Value} (h : rootV tm X.w r = some x) : rootV tm X'.w r = some x := by
  cases r with
  | s t => exact h
  | c k o =>
    simp only [rootV] at h ⊢
    rw [cell_of_heap (hn.old k (cell_lt h)).1]; exact h
theorem SimE.new {F : Nat → Prop} {X X' : GW} {σ : AS} {tm : Array Value} (h : SimE F X σ tm) (hn : New X X') (hg : ∀ b n, X'.g b = some n → b < X'.w.heap.size) : SimE F X' σ tm :=
  ⟨h.toSim.new hn hg, fun p hp => rootV_new hn (h.eqm p hp)⟩

/-- Slot d is written. -/
def AS.put (σ : AS) (d : Nat) (u : AV) : AS := { n := σ.n, t := (d, u) :: σ.t, h := σ.h, e := σ.e.filter fun p => !(p.1 == d) && !p.2.in d }

theorem rootV_set {tm : Array Value} {w : World} {d : Nat} {x : Value} {r : Root} (h : r.in d = false) : rootV (tm.setIfInBounds d x) w r = rootV tm w r := by
  cases r with
  | s t => simp only [Root.in, beq_eq_false_iff_ne] at h; simp only [rootV]; rw [getD_set_ne h]
  | c k o => rfl
theorem in_at {d : Nat} {r : Root} (h : r.in d = true) : r = .s d := by
  cases r with
  | s t => simp only [Root.in, beq_iff_eq] at h; rw [h]
  | c k o => cases h
theorem own_put_ne {σ : AS} {d : Nat} {u : AV} {r : Root} (h : r.in d = false) : (σ.put d u).own r = σ.own r := by
  cases r with
  | s t => simp only [Root.in, beq_eq_false_iff_ne] at h; simp only [AS.own, AS.put, look_cons]; rw [if_neg h]
  | c k o => rfl
theorem own_put_at {σ : AS} {d : Nat} {u : AV} : (σ.put d u).own (.s d) = own1 (some u) := by simp [AS.own, AS.put, look_cons]

/-- A slot is written with what is apart from all owners, or owns nothing. -/
theorem SimE.put' {F : Nat → Prop} {X : GW} {σ : AS} {tm : Array Value} (h : SimE F X σ tm) {d : Nat} {u : AV} {x : Value} (hd : d < σ.n) (hr : Rel X u x) (hok : ∀ sz l, own1 (some u) = some (sz, l) → OwnOk F X sz l x)
    (hlow : ∀ r sz l sz' l' a n c a' n' c', σ.own r = some (sz, l) → own1 (some u) = some (sz', l') → rootV tm X.w r = some (.slice (some a) n c) → x = .slice (some a') n' c' → a.block ≠ a'.block) : SimE F X (σ.put d u) (tm.setIfInBounds d x) := by
  have hd' : d < tm.size := by rw [h.size]; exact hd
  have heq : EqsOk (σ.put d u).e (tm.setIfInBounds d x) X.w := by
    intro p hp
    simp only [AS.put, List.mem_filter, Bool.and_eq_true, Bool.not_eq_true', beq_eq_false_iff_ne] at hp
    rw [rootV_set hp.2.2, getD_set_ne hp.2.1]
    exact h.eqm p hp.1
  refine ⟨⟨by simp [AS.put, h.size], h.gb, h.fb, fun t u' hu => ?_, h.box, heq.look, fun r sz l ho => ?_, fun r r' sz l sz' l' a n c a' n' c' hne ho ho' hr1 hr2 => ?_⟩, heq⟩
  · simp only [AS.put, look_cons] at hu
    split at hu
    · rename_i e; subst e; cases hu; rw [getD_set_self hd']; exact hr
    · rename_i e; rw [getD_set_ne e]; exact h.slot t u' hu
  · by_cases hin : r.in d = true
    · obtain rfl := in_at hin
      rw [own_put_at] at ho
      exact ⟨x, by simp only [rootV]; rw [getD_set_self hd'], hok sz l ho⟩
    · simp only [Bool.not_eq_true] at hin
      rw [own_put_ne hin] at ho
      rw [rootV_set hin]; exact h.own r sz l ho
  · have key : ∀ r r' sz l sz' l' a n c a' n' c', r ≠ r' → (σ.put d u).own r = some (sz, l) → (σ.put d u).own r' = some (sz', l') → rootV (tm.setIfInBounds d x) X.w r = some (.slice (some a) n c) → rootV (tm.setIfInBounds d x) X.w r' = some (.slice (some a') n' c') → r.in d = true → a'.block ≠ a.block := by
      intro r r' sz l sz' l' a n c a' n' c' hne ho ho' hr1 hr2 hin
      obtain rfl := in_at hin
      rw [own_put_at] at ho
      simp only [rootV] at hr1; rw [getD_set_self hd'] at hr1
      have hin' : r'.in d = false := by
        cases hc : r'.in d
        · rfl
        · exact absurd (in_at hc).symm hne
      rw [own_put_ne hin'] at ho'
      rw [rootV_set hin'] at hr2
      exact hlow r' sz' l' sz l a' n' c' a n c ho' ho hr2 (Option.some.inj hr1)
    cases hin : r.in d
    · cases hin' : r'.in d
      · rw [own_put_ne hin] at ho; rw [own_put_ne hin'] at ho'
        rw [rootV_set hin] at hr1; rw [rootV_set hin'] at hr2
        exact h.disj r r' sz l sz' l' a n c a' n' c' hne ho ho' hr1 hr2
      · exact key r' r sz' l' sz l a' n' c' a n c (fun e => hne e.symm) ho' ho hr2 hr1 hin'
    · exact (key r r' sz l sz' l' a n c a' n' c' hne ho ho' hr1 hr2 hin).symm
/-- A slot is written with what is new, or owns nothing. -/
theorem SimE.put {F : Nat → Prop} {X : GW} {σ : AS} {tm : Array Value} (h : SimE F X σ tm) {d : Nat} {u : AV} {x : Value} {B : Nat} (hd : d < σ.n) (hr : Rel X u x) (hfr : FreshOk F B X u x)
    (hB : ∀ r sz l b n c, σ.own r = some (sz, l) → rootV tm X.w r = some (.slice (some ⟨b, 0, none⟩) n c) → b < B) : SimE F X (σ.put d u) (tm.setIfInBounds d x) := by
  refine h.put' hd hr (fun sz l ho => (hfr sz l ho).1) fun r sz l sz' l' a n c a' n' c' ho hu hrv hx => ?_
  have h4 := (hfr sz' l' hu).2 a' n' c' hx
  obtain ⟨y, k1, k2⟩ := h.own r sz l ho
  rw [hrv] at k1; cases k1
  rcases k2 with ⟨k2, _⟩ | ⟨b, cap, cs, e, fr, k2, _⟩
  · cases k2
  · cases k2
    have := hB r sz l _ _ _ ho hrv
    simp only; omega
/-- One block turns, of which nobody holds the end, and which is no box. -/
theorem SimE.turn {F : Nat → Prop} {X X' : GW} {σ : AS} {tm : Array Value} (h : SimE F X σ tm) (b : Nat) (hheap : ∀ c, c ≠ b → c < X.w.heap.size → X'.w.heap[c]? = X.w.heap[c]? ∧ X'.g c = X.g c) (hs : X.w.heap.size ≤ X'.w.heap.size) (hp : Pres X X') (hg : ∀ b n, X'.g b = some n → b < X'.w.heap.size)
    (hno : ∀ r sz l a n c, σ.own r = some (sz, l) → rootV tm X.w r = some (.slice (some a) n c) → a.block ≠ b) (hbox : ∀ k cs, look σ.h k = some cs → k ≠ b) (hal : ∀ p ∈ σ.e, ∀ o, p.2 ≠ .c b o) : SimE F X' σ tm := by
  have hroot : ∀ r x, rootV tm X.w r = some x → (∀ o, r ≠ .c b o) → rootV tm X'.w r = some x := by
    intro r x hr hne
    cases r with
    | s t => exact hr
    | c k o =>
      simp only [rootV] at hr ⊢
      rw [cell_of_heap (hheap k (fun e => hne o (by rw [e])) (cell_lt hr)).1]; exact hr
  have hownne : ∀ r sz l, σ.own r = some (sz, l) → ∀ o, r ≠ .c b o := by
    intro r sz l ho o e
    subst e
    obtain ⟨cs, hc, _⟩ := own_c_box ho
    exact hbox b cs hc rfl
  have hback : ∀ r sz l, σ.own r = some (sz, l) → rootV tm X'.w r = rootV tm X.w r := by
    intro r sz l ho
    obtain ⟨x, hx, _⟩ := h.own r sz l ho
    rw [hx]; exact hroot r x hx (hownne r sz l ho)
  have heq : EqsOk σ.e tm X'.w := fun p hp => hroot p.2 _ (h.eqm p hp) (hal p hp)
  refine ⟨⟨h.size, hg, fun b hb => Nat.lt_of_lt_of_le (h.fb b hb) hs, fun t u hu => (h.slot t u hu).mono hp, fun k cs hk => ?_, heq.look, fun r sz l ho => ?_, fun r r' sz l sz' l' a n c a' n' c' hne ho ho' hr hr' => ?_⟩, heq⟩
  · have hb := h.box k cs hk
    have := hheap k (hbox k cs hk) hb.lt
    exact hb.keep ⟨this.1, this.2, hb.nF⟩ hp
  · obtain ⟨x, hx, hok⟩ := h.own r sz l ho
    refine ⟨x, hroot r x hx (hownne r sz l ho), hok.keep fun c n q hxe => ?_⟩
    have h1 := hok.lt hxe
    have h2 := hheap c (hno r sz l _ _ _ ho (by rw [hx, hxe])) h1.1
    exact ⟨h2.1, h2.2, h1.2⟩
  · rw [hback r sz l ho] at hr
    rw [hback r' sz' l' ho'] at hr'
    exact h.disj r r' sz l sz' l' a n c a' n' c' hne ho ho' hr hr'
theorem SimE.own_lt {F : Nat → Prop} {X : GW} {σ : AS} {tm : Array Value} (h : SimE F X σ tm) {r sz l b n c} (ho : σ.own r = some (sz, l)) (hr : rootV tm X.w r = some (.slice (some ⟨b, 0, none⟩) n c)) : b < X.w.heap.size := by
  obtain ⟨y, h1, h2⟩ := h.own r sz l ho
  rw [hr] at h1; cases h1
  exact (h2.lt rfl).1
theorem SimE.put_new {F : Nat → Prop} {X X' : GW} {σ : AS} {tm : Array Value} (h : SimE F X σ tm) {d : Nat} {u : AV} {x : Value} (hd : d < σ.n) (hn : New X X') (hg : ∀ b n, X'.g b = some n → b < X'.w.heap.size) (hr : Rel X' u x) (hfr : FreshOk F X.w.heap.size X' u x) :
    SimE F X' (σ.put d u) (tm.setIfInBounds d x) := by
  refine (h.new hn hg).put hd hr hfr fun r sz l b n c ho hrv => ?_
  obtain ⟨y, h1, h2⟩ := h.own r sz l ho
  rw [rootV_new hn h1] at hrv; cases hrv
  exact (h2.lt rfl).1

/-- An alias is noted. -/
def AS.alias (σ : AS) (d : Nat) (r : Root) : AS := { n := σ.n, t := σ.t, h := σ.h, e := (d, r) :: σ.e }
theorem SimE.alias {F : Nat → Prop} {X : GW} {σ : AS} {tm : Array Value} (h : SimE F X σ tm) {d : Nat} {r : Root} (hr : rootV tm X.w r = some (tm.getD d undef)) : SimE F X (σ.alias d r) tm := by
  have heq : EqsOk (σ.alias d r).e tm X.w := by
    intro p hp
    rcases List.mem_cons.1 hp with rfl | hp
    · exact hr
    · exact h.eqm p hp
  exact ⟨⟨h.size, h.gb, h.fb, h.slot, h.box, heq.look, h.own, h.disj⟩, heq⟩

/-- What stands at a place, as a reader sees it from now on. -/
def AS.lay (σ : AS) : Root → AS
  | .s t => { n := σ.n, t := (match look σ.t t with | some u => (t, u.rd) :: σ.t | none => σ.t), h := σ.h, e := σ.e }
  | .c k o => { n := σ.n, t := σ.t, h := (match look σ.h k with | some cs => (k, (match cs[o]? with | some u => cs.set o u.rd | none => cs)) :: σ.h | none => σ.h), e := σ.e }

theorem lay_own_self {σ : AS} (r : Root) : (σ.lay r).own r = none := by
  cases r with
  | s t =>
    simp only [AS.own, AS.lay]
    cases h : Go.Proofs.Ytophpbihcfdkcaa.look σ.t t with
    | none => simp only; rw [h]; rfl
    | some u => simp only [look_cons, if_true]; exact plain_rd u
  | c k o =>
    simp only [AS.own, AS.lay]
    cases h : Go.Proofs.Ytophpbihcfdkcaa.look σ.h k with
    | none => simp only; rw [h]
    | some cs =>
      simp only [look_cons, if_true]
      cases hc : cs[o]? with
      | none => simp only; rw [hc]; rfl
      | some u =>
        simp only
        rw [List.getElem?_set_self (List.getElem?_eq_some_iff.1 hc).1]
        exact plain_rd u
theorem lay_own_ne {σ : AS} {r r' : Root} (h : r' ≠ r) : (σ.lay r).own r' = σ.own r' := by
  cases r with
  | s t =>
    cases r' with
    | c k o => rfl
    | s t' =>
      have hne : t' ≠ t := fun e => h (by rw [e])
      simp only [AS.own, AS.lay]
      cases hl : Go.Proofs.Ytophpbihcfdkcaa.look σ.t t with
      | none => rfl
      | some u => simp only [look_cons]; rw [if_neg hne]
  | c k o =>
    cases r' with
    | s t => rfl
    | c k' o' =>
      simp only [AS.own, AS.lay]
      cases hl : Go.Proofs.Ytophpbihcfdkcaa.look σ.h k with
      | none => rfl
      | some cs =>
        simp only [look_cons]
        by_cases hk : k' = k
        · subst hk
          rw [if_pos rfl, hl]
          simp only
          cases hc : cs[o]? with
          | none => rfl
          | some u =>
            simp only
            rw [List.getElem?_set_ne (fun e => h (by rw [e]))]
        · rw [if_neg hk]
theorem SimE.lay {F : Nat → Prop} {X : GW} {σ : AS} {tm : Array Value} (h : SimE F X σ tm) (r : Root) : SimE F X (σ.lay r) tm := by
  refine ⟨h.toSim.reown (by cases r <;> rfl) (fun t u hu => ?_) (fun k cs hk => ?_) (by cases r <;> exact h.eqs) id (fun r' sz l ho => .inr ⟨?_, rfl⟩) (fun r1 r2 hne _ _ => hne), by cases r <;> exact h.eqm⟩
  · cases r with
    | c k o => exact h.slot t u hu
    | s t' =>
      simp only [AS.lay] at hu
      cases hl : Go.Proofs.Ytophpbihcfdkcaa.look σ.t t' with
      | none => rw [hl] at hu; exact h.slot t u hu
      | some u0 =>
        rw [hl] at hu
        simp only [look_cons] at hu
        split at hu
        · rename_i e; subst e; cases hu; exact (h.slot t u0 hl).rd
        · exact h.slot t u hu
  · cases r with
    | s t => exact h.box k cs hk
    | c k' o =>
      simp only [AS.lay] at hk
      cases hl : Go.Proofs.Ytophpbihcfdkcaa.look σ.h k' with
      | none => rw [hl] at hk; exact h.box k cs hk
      | some cs0 =>
        rw [hl] at hk
        simp only [look_cons] at hk
        split at hk
        · rename_i e
          subst e
          cases hk
          rcases h.box k cs0 hl with ⟨_, b1, b2, arr, e, fr, b3, b4, b5, b6⟩ | ⟨l, rfl, hmk⟩
          case inr =>
            cases o with
            | zero => exact .inr ⟨l, rfl, hmk⟩
            | succ o => exact .inr ⟨l, rfl, hmk⟩
          cases hc : cs0[o]? with
          | none => exact CellsOk.box ⟨b1, b2, arr, e, fr, b3, b4, b5, b6⟩
          | some u0 =>
            refine CellsOk.box ⟨b1, b2, arr, e, fr, b3, by simpa using b4, b5, fun o' u x hu hx => ?_⟩
            simp only at hu
            by_cases ho : o' = o
            · subst ho
              rw [List.getElem?_set_self (List.getElem?_eq_some_iff.1 hc).1] at hu
              cases hu
              exact (b6 o' u0 x hc hx).rd
            · rw [List.getElem?_set_ne (fun e => ho e.symm)] at hu
              exact b6 o' u x hu hx
        · exact h.box k cs hk
  · by_cases e : r' = r
    · subst e; rw [lay_own_self] at ho; cases ho
    · rw [lay_own_ne e] at ho; exact ho

/-- What place r owns is owned by slot x from now on, which holds the same. -/
def AS.hand (σ : AS) (x : Nat) (r : Root) : AS :=
  match σ.own r with
  | some (sz, l) => { n := σ.n, t := (x, .sl true sz l) :: (σ.lay r).t, h := (σ.lay r).h, e := σ.e.filterMap fun p => if p.1 == x then none else if p.2 = r then some (p.1, .s x) else if p.2.in x then none else some p }
  | none => σ

end Go.Proofs.Ytophpbihcfdkcaa
