/- The layer of abstract values: code, run over abstract states. -/
import Derived.Test.YtophpbihcfdkcaaG3
namespace Go.Proofs.Ytophpbihcfdkcaa
open Go.RowKit P
set_option linter.unusedSimpArgs false
set_option linter.unusedVariables false

/-- What an operation leaves. -/
def runsUpon (P : Program) (R : Value → World → Prop) : Result Next → Prop
  | .ok (.value x) w' => R x w'
  | .ok .skip w' => R undef w'
  | .ok (.enter f args) w' => Calls P f args w' fun
    | .returned x, w'' => R x w''
    | _, _ => False
  | _ => False
def Runs (P : Program) (o : Oper) (a : Act) (w : World) (R : Value → World → Prop) : Prop := runsUpon P R ((execOp a.eval o).run P w)
theorem Runs.wp {P : Program} {o : Oper} {a : Act} {w : World} {R : Value → World → Prop} (h : Runs P o a w R) {next : Act → World → Prop} {Q : Exit → Act → World → Prop} (hn : ∀ x w', R x w' → next (a.put o.dst x) w') : o.wp P a w next Q := by
  unfold Runs at h
  unfold Oper.wp
  generalize (execOp a.eval o).run P w = r at h
  cases r with
  | halt x w' => exact h.elim
  | ok n w' =>
    cases n <;> simp only [runsUpon] at h <;> simp only [Oper.upon]
    case value x => exact hn _ _ h
    case skip => exact hn _ _ h
    case enter f args =>
      refine h.mono fun e w'' he => ?_
      cases e with
      | returned x => exact hn _ _ he
      | panicked c => exact he.elim
      | outgrown => exact he.elim
theorem Runs.mono {P : Program} {o : Oper} {a : Act} {w : World} {R R' : Value → World → Prop} (h : Runs P o a w R) (hr : ∀ x w', R x w' → R' x w') : Runs P o a w R' := by
  unfold Runs at *
  generalize (execOp a.eval o).run P w = r at *
  cases r with
  | halt x w' => exact h.elim
  | ok n w' =>
    cases n <;> simp only [runsUpon] at *
    case value x => exact hr _ _ h
    case skip => exact hr _ _ h
    case enter f args =>
      refine h.mono fun e w'' he => ?_
      cases e with
      | returned x => exact hr _ _ he
      | panicked c => exact he.elim
      | outgrown => exact he.elim
theorem runs_value {P : Program} {o : Oper} {a : Act} {w w' : World} {x : Value} {R : Value → World → Prop} (h : (execOp a.eval o).run P w = .ok (.value x) w') (hR : R x w') : Runs P o a w R := by unfold Runs; rw [h]; exact hR

/-- What a reader of o's operands may lean on. -/
structure SimR (F : Nat → Prop) (X : GW) (σ : AS) (o : Op) (tm : Array Value) : Prop where
  gb : ∀ b n, X.g b = some n → b < X.w.heap.size
  fb : ∀ b, F b → b < X.w.heap.size
  slot : ∀ t u, Operand.tmp t ∈ o.operands.toList → look σ.t t = some u → Rel X u (tm.getD t undef)
  box : ∀ k cs, look σ.h k = some cs → BoxOk F X k cs
theorem SimE.r {F : Nat → Prop} {X : GW} {σ : AS} {tm : Array Value} (h : SimE F X σ tm) (o : Op) : SimR F X σ o tm := ⟨h.gb, h.fb, fun t u _ hu => h.slot t u hu, h.box⟩

/-- An operation that turns nothing that is there, and yields u. -/
def OpV (P : Program) (o : Oper) (σ : AS) (u : AV) : Prop :=
  ∀ F X a, SimR F X σ o.op a.tmps → Runs P o a X.w fun x w' => ∃ X' : GW, X'.w = w' ∧ New X X' ∧ (∀ b n, X'.g b = some n → b < X'.w.heap.size) ∧ Rel X' u x ∧ FreshOk F X.w.heap.size X' u x

def PostA (F : Nat → Prop) (X : GW) (Q : Exit → AS → Prop) (e : Exit) (a' : Act) (w' : World) : Prop :=
  a'.defers = [] ∧ ∃ (X' : GW) (σ' : AS), X'.w = w' ∧ Q e σ' ∧ SimE F X' σ' a'.tmps ∧ Ext F X X'
theorem PostA.ext {F : Nat → Prop} {X Y : GW} {Q : Exit → AS → Prop} {e : Exit} {a' : Act} {w' : World} (h : PostA F Y Q e a' w') (hx : Ext F X Y) : PostA F X Q e a' w' :=
  let ⟨h1, X', σ', h2, h3, h4, h5⟩ := h
  ⟨h1, X', σ', h2, h3, h4, hx.trans h5⟩
theorem PostA.mono {F : Nat → Prop} {X : GW} {Q Q' : Exit → AS → Prop} {e : Exit} {a' : Act} {w' : World} (h : PostA F X Q e a' w') (hq : ∀ e σ, Q e σ → Q' e σ) : PostA F X Q' e a' w' :=
  let ⟨h1, X', σ', h2, h3, h4, h5⟩ := h
  ⟨h1, X', σ', h2, hq _ _ h3, h4, h5⟩

/-- The code c, begun in the abstract state σ. -/
def Awp (P : Program) (c : Code) (Q : Exit → AS → Prop) (σ : AS) : Prop :=
  ∀ F X a, SimE F X σ a.tmps → a.defers = [] → c.wp P (PostA F X Q) a X.w
/-- The operations l from number k on. -/
def Aops (P : Program) (l : List Oper) (k : Nat) (Q : Exit → AS → Prop) (σ : AS) : Prop :=
  ∀ F X a, SimE F X σ a.tmps → a.defers = [] → wpOps P l.toArray (PostA F X Q) (List.range' k (l.length - k)) a X.w

inductive It where
  | c (c : Code)
  | b (id : Nat)
  | l (I : AS → Prop)
  | o (l : List Oper) (k : Nat) (rest : List Oper)
/-- What is left to be run, behind the ending e. -/
def Stk (P : Program) (Q : Exit → AS → Prop) : List It → Exit → AS → Prop
  | [], e, σ => Q e σ
  | .c c :: ks, e, σ => match e with | .normal => Awp P c (Stk P Q ks) σ | e => Stk P Q ks e σ
  | .b id :: ks, e, σ => match e with | .exit id' => if id' = id then Stk P Q ks .normal σ else Stk P Q ks (.exit id') σ | e => Stk P Q ks e σ
  | .l I :: ks, e, σ => match e with | .normal => I σ | e => Stk P Q ks e σ
  | .o l k _ :: ks, e, σ => match e with | .normal => Aops P l k (Stk P Q ks) σ | e => Stk P Q ks e σ
def ARun (P : Program) (Q : Exit → AS → Prop) (ks : List It) (σ : AS) : Prop := Stk P Q ks .normal σ

section
variable {P : Program} {Q : Exit → AS → Prop} {ks : List It} {σ : AS}

theorem Awp.mono {c : Code} {R R' : Exit → AS → Prop} (h : Awp P c R σ) (hq : ∀ e σ, R e σ → R' e σ) : Awp P c R' σ :=
  fun F X a hs hd => wp_mono (h F X a hs hd) fun _ _ _ hp => hp.mono hq
theorem ar_nil (h : Q .normal σ) : ARun P Q [] σ := h
theorem ar_sub {c : Code} {σ' : AS} (h : ARun P Q (.c c :: ks) σ') (hs : ∀ F X tm, SimE F X σ tm → SimE F X σ' tm) : ARun P Q (.c c :: ks) σ := fun F X a hsim hd => h F X a (hs _ _ _ hsim) hd
theorem ar_keep {c : Code} (K : List Nat) (h : ARun P Q (.c c :: ks) (σ.keep K)) : ARun P Q (.c c :: ks) σ := ar_sub h fun _ _ _ hs => hs.keep K
theorem ar_le {c : Code} {σ' : AS} (hl : Le σ σ') (h : ARun P Q (.c c :: ks) σ') : ARun P Q (.c c :: ks) σ := ar_sub h fun _ _ _ hs => hs.le hl
theorem ar_skip (h : ARun P Q ks σ) : ARun P Q (.c .skip :: ks) σ := fun F X a hs hd => wp_skip ⟨hd, X, σ, rfl, h, hs, Ext.refl F X⟩
theorem ar_label {l : Nat} (h : ARun P Q ks σ) : ARun P Q (.c (.label l) :: ks) σ := fun F X a hs hd => wp_label ⟨hd, X, σ, rfl, h, hs, Ext.refl F X⟩
theorem ar_ret (h : Stk P Q ks .ret σ) : ARun P Q (.c .ret :: ks) σ := fun F X a hs hd => wp_ret ⟨hd, X, σ, rfl, h, hs, Ext.refl F X⟩
theorem ar_exit {id : Nat} (h : Stk P Q ks (.exit id) σ) : ARun P Q (.c (.exit id) :: ks) σ := fun F X a hs hd => wp_exit ⟨hd, X, σ, rfl, h, hs, Ext.refl F X⟩
theorem ar_seq {x y : Code} (h : ARun P Q (.c x :: .c y :: ks) σ) : ARun P Q (.c (.seq x y) :: ks) σ := by
  intro F X a hs hd
  refine wp_seq (wp_mono (h F X a hs hd) fun e a' w' hp => ?_)
  obtain ⟨h1, X', σ', h2, h3, h4, h5⟩ := hp
  cases e with
  | normal =>
    subst h2
    exact wp_mono (h3 F X' a' h4 h1) fun e2 a2 w2 hp2 => hp2.ext h5
  | _ => exact ⟨h1, X', σ', h2, h3, h4, h5⟩
theorem ar_block {id : Nat} {c : Code} (h : ARun P Q (.c c :: .b id :: ks) σ) : ARun P Q (.c (.block id c) :: ks) σ := by
  intro F X a hs hd
  refine wp_block (wp_mono (h F X a hs hd) fun e a' w' hp => ?_)
  obtain ⟨h1, X', σ', h2, h3, h4, h5⟩ := hp
  cases e with
  | exit id' =>
    simp only [Exit.inBlock]
    by_cases e : id' = id
    · subst e
      simp only [Stk, if_true] at h3 ⊢
      exact ⟨h1, X', σ', h2, h3, h4, h5⟩
    · simp only [Stk, if_neg e] at h3 ⊢
      exact ⟨h1, X', σ', h2, h3, h4, h5⟩
  | _ => exact ⟨h1, X', σ', h2, h3, h4, h5⟩
theorem ar_blk {id : Nat} (h : ARun P Q ks σ) : ARun P Q (.b id :: ks) σ := h
theorem stk_code {c : Code} {e : Exit} (hne : e ≠ .normal) (h : Stk P Q ks e σ) : Stk P Q (.c c :: ks) e σ := by
  cases e with
  | normal => exact absurd rfl hne
  | _ => exact h
theorem act_eval {F : Nat → Prop} {X : GW} {a : Act} (hs : SimE F X σ a.tmps) {t : Nat} {u : AV} (h : look σ.t t = some u) : Rel X u (a.eval (.tmp t)) := hs.slot t u h
theorem ar_cond {t : Nat} {b : Bool} {x y : Code} (hc : look σ.t t = some (.v (.bool b))) (h : ARun P Q (.c (if b then x else y) :: ks) σ) : ARun P Q (.c (.cond (.tmp t) x y) :: ks) σ := by
  intro F X a hs hd
  have h1 := act_eval hs hc
  have h2 : a.eval (.tmp t) = .bool b := by generalize a.eval (.tmp t) = z at h1; cases h1; rfl
  exact wp_cond h2 (h F X a hs hd)
theorem ar_cond_true {t : Nat} {b : Bool} {x y : Code} (hc : look σ.t t = some (.v (.bool b))) (hb : b = true) (h : ARun P Q (.c x :: ks) σ) : ARun P Q (.c (.cond (.tmp t) x y) :: ks) σ := ar_cond hc (by subst hb; exact h)
theorem ar_cond_false {t : Nat} {b : Bool} {x y : Code} (hc : look σ.t t = some (.v (.bool b))) (hb : b = false) (h : ARun P Q (.c y :: ks) σ) : ARun P Q (.c (.cond (.tmp t) x y) :: ks) σ := ar_cond hc (by subst hb; exact h)
theorem ar_cond_split {t : Nat} {b : Bool} {x y : Code} (hc : look σ.t t = some (.v (.bool b))) (h1 : b = true → ARun P Q (.c x :: ks) σ) (h2 : b = false → ARun P Q (.c y :: ks) σ) : ARun P Q (.c (.cond (.tmp t) x y) :: ks) σ := ar_cond hc (by
  cases b
  · exact h2 rfl
  · exact h1 rfl)

/-- A loop: the states st y, so long as Pr y; each round lowers μ. -/
theorem ar_loop {α : Type} {c : Code} (st : α → AS) (Pr : α → Prop) (μ : α → Nat) (y0 : α) (h0 : Le σ (st y0)) (hp : Pr y0)
    (round : ∀ y, Pr y → ARun P Q (.c c :: .l (fun σ' => ∃ y', Le σ' (st y') ∧ Pr y' ∧ μ y' < μ y) :: ks) (st y)) : ARun P Q (.c (.loop c) :: ks) σ := by
  intro F X a hs hd b k cs
  have key : ∀ n y a w, μ y = n → a.defers = [] → Pr y → (∃ X' : GW, X'.w = w ∧ SimE F X' (st y) a.tmps ∧ Ext F X X') →
      ∃ e a' w', PostA F X (Stk P Q ks) e a' w' ∧ Arrives P (lone (b.at a (.code c :: .inLoop c :: k)) cs w) b k cs e a' w' := by
    intro n
    induction n using Nat.strongRecOn with
    | _ n ih =>
      rintro y a w hn hd hp ⟨X1, rfl, hs1, hx1⟩
      obtain ⟨e, a₁, w₁, hq, harr⟩ := round y hp F X1 a hs1 hd b (.inLoop c :: k) cs
      obtain ⟨k1, X2, σ2, k2, k3, k4, k5⟩ := hq
      cases e with
      | normal =>
        obtain ⟨y', l1, l2, l3⟩ := k3
        obtain ⟨e₂, a₂, w₂, hq₂, harr₂⟩ := ih (μ y') (hn ▸ l3) y' a₁ w₁ rfl k1 l2 ⟨X2, k2, k4.le l1, hx1.trans k5⟩
        exact ⟨e₂, a₂, w₂, hq₂, .of_steps (Steps.trans harr (.one step_inLoop)) harr₂⟩
      | _ => exact ⟨_, a₁, w₁, ⟨k1, X2, σ2, k2, k3, k4, hx1.trans k5⟩, .pass (x := .inLoop c) rfl (fun _ _ => .inl (by simp)) harr⟩
  obtain ⟨e, a', w', hq, harr⟩ := key _ y0 a X.w rfl hd hp ⟨X, rfl, hs.le h0, Ext.refl F X⟩
  exact ⟨e, a', w', hq, .of_steps (.one step_loop) harr⟩

/-! ### Regions -/
theorem ar_region {id : Nat} {l : List Oper} (h : ARun P Q (.o l 0 l :: ks) σ) : ARun P Q (.c (.region id l.toArray false) :: ks) σ := by
  intro F X a hs hd
  refine wp_region ?_
  have := h F X a hs hd
  rw [Nat.sub_zero, ← List.range_eq_range'] at this
  simpa using this
theorem ar_end {l : List Oper} {k : Nat} (hk : k = l.length) (h : ARun P Q ks σ) : ARun P Q (.o l k [] :: ks) σ := by
  intro F X a hs hd
  subst hk
  rw [Nat.sub_self]
  exact ⟨hd, X, σ, rfl, h, hs, Ext.refl F X⟩

def wantedA (l : List Oper) (σ : AS) (o : Oper) : Option Bool :=
  match o.guard with
  | none => some true
  | some (j, want) => match (l[j]?).bind (·.dst) with
    | some d => if d < σ.n then (match look σ.t d with | some (.v (.bool b)) => some (b == want) | _ => none) else none
    | none => none
theorem wanted_of {l : List Oper} {o : Oper} {b : Bool} {F : Nat → Prop} {X : GW} {tm : Array Value} (hs : SimE F X σ tm) (h : wantedA l σ o = some b) : Region.wanted o (yielded l.toArray tm) = b := by
  unfold wantedA at h
  unfold Region.wanted
  cases hg : o.guard with
  | none => rw [hg] at h; cases h; rfl
  | some p =>
    obtain ⟨j, want⟩ := p
    rw [hg] at h
    simp only at h ⊢
    cases hj : (l[j]?).bind (·.dst) with
    | none => rw [hj] at h; cases h
    | some d =>
      rw [hj] at h
      simp only at h
      split at h
      · rename_i hd
        cases hlk : look σ.t d with
        | none => rw [hlk] at h; cases h
        | some u =>
          rw [hlk] at h
          have hr := hs.slot d u hlk
          have hd' : d < tm.size := by rw [hs.size]; exact hd
          have hy : yielded l.toArray tm j = match tm.getD d undef with | .bool b => some b | _ => none := by
            unfold yielded
            have : ((l.toArray)[j]?).bind (·.dst) = some d := by simpa using hj
            rw [this]
            simp [hd']
            cases tm[d] <;> rfl
          rw [hy]
          cases u with
          | v x =>
            cases x with
            | bool b' =>
              simp only [Option.some.injEq] at h
              generalize tm.getD d undef = z at hr
              cases hr
              subst h
              cases b' <;> cases want <;> rfl
            | _ => cases h
          | _ => cases h
      · cases h

theorem range'_cons {k n : Nat} (h : k < n) : List.range' k (n - k) = k :: List.range' (k + 1) (n - (k + 1)) := by
  obtain ⟨m, rfl⟩ : ∃ m, n = k + (m + 1) := ⟨n - k - 1, by omega⟩
  rw [show k + (m + 1) - k = m + 1 by omega, show k + (m + 1) - (k + 1) = m by omega]
  rfl
theorem upon_mono {o : Oper} {a : Act} {next next' : Act → World → Prop} {R R' : Exit → Act → World → Prop} {r : Result Next} (hn : ∀ a w, next a w → next' a w) (hR : ∀ e a w, R e a w → R' e a w) (h : o.upon P a next R r) : o.upon P a next' R' r := by
  cases r with
  | halt x w =>
    cases x <;> simp only [Oper.upon] at h ⊢ <;> exact hR _ _ _ h
  | ok n w =>
    cases n <;> simp only [Oper.upon] at h ⊢
    case value x => exact hn _ _ h
    case skip => exact hn _ _ h
    case defer d => exact hn _ _ h
    case row r args => exact h.mono fun v w' hv => hn _ _ hv
    case enter f args =>
      refine h.mono fun e w' he => ?_
      cases e with
      | returned v => exact hn _ _ he
      | panicked c => exact hR _ _ _ he
      | outgrown => obtain ⟨a0, w0, h0⟩ := he; exact ⟨a0, w0, hR _ _ _ h0⟩
theorem wpOps_mono' {ops : Array Oper} {R R' : Exit → Act → World → Prop} (hR : ∀ e a w, R e a w → R' e a w) : ∀ (l : List Nat) (a : Act) (w : World), wpOps P ops R l a w → wpOps P ops R' l a w
  | [], a, w, h => hR _ _ _ h
  | i :: rest, a, w, h => by
    simp only [wpOps] at h ⊢
    cases ho : ops[i]? with
    | none => rw [ho] at h; exact wpOps_mono' hR rest a w h
    | some o =>
      rw [ho] at h
      simp only at h ⊢
      split
      · rename_i hw
        rw [if_pos hw] at h
        rcases h with h | ⟨h, a0, w0, h0⟩
        · exact .inl (upon_mono (fun a w h => wpOps_mono' hR rest a w h) hR h)
        · exact .inr ⟨h, a0, w0, hR _ _ _ h0⟩
      · rename_i hw
        rw [if_neg hw] at h
        exact wpOps_mono' hR rest _ w h
/-- An operation, told by what becomes of world and frame. -/
def EffOp (P : Program) (o : Oper) (σ : AS) (R : AS → Prop) : Prop :=
  ∀ F X a, SimE F X σ a.tmps → Runs P o a X.w fun x w' => ∃ (X' : GW) (σ' : AS), X'.w = w' ∧ R σ' ∧ SimE F X' σ' (a.put o.dst x).tmps ∧ Ext F X X'
theorem put_defers (a : Act) (d : Option Tmp) (x : Value) : (a.put d x).defers = a.defers := by cases d <;> rfl
theorem ar_eff {l : List Oper} {k : Nat} {o : Oper} {rest : List Oper} (ho : l[k]? = some o) (hw : wantedA l σ o = some true) (h : EffOp P o σ (fun σ' => ARun P Q (.o l (k + 1) rest :: ks) σ')) : ARun P Q (.o l k (o :: rest) :: ks) σ := by
  intro F X a hs hd
  have hk : k < l.length := (List.getElem?_eq_some_iff.1 ho).1
  rw [range'_cons hk]
  have ho' : (l.toArray)[k]? = some o := by simpa using ho
  simp only [wpOps, ho']
  rw [if_pos (wanted_of hs hw)]
  left
  refine (h F X a hs).wp fun x w' hx => ?_
  obtain ⟨X', σ', h1, h2, h3, h4⟩ := hx
  subst h1
  exact wpOps_mono' (fun _ _ _ hp => hp.ext h4) _ _ _ (h2 F X' (a.put o.dst x) h3 (by rw [put_defers]; exact hd))
end

end Go.Proofs.Ytophpbihcfdkcaa
