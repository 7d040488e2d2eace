-- slim: written by gen/slim.py from XHI.lean.tpl
/- Typed abstract values: the machine, and a function's contract out of it. -/
import Derived.Test.YtgmlkhfjhogdbaaHH
namespace Go.Proofs.Ytgmlkhfjhogdbaa
open Go.RowKit P
set_option linter.unusedSimpArgs false
set_option linter.unusedVariables false

/-- What is left to be run. -/
inductive It2 where
  | c (c : Code)
  | b (id : Nat)
  | l (c : Code)
  | r (id : Nat) (ops : Array Oper) (draw : Bool)
  | k (c : Code)
/-- How a function ends. -/
inductive RL (T : Nat → Type) where
  | ret (u : TV T) (h : List (Nat × TB T))
  | pan (v : Value)
inductive Lf (T : Nat → Type) where
  | go (ks : List It2) (σ : TS T)
  | done (r : RL T)
def hasN' : List Nat → Nat → Bool
  | [], _ => false
  | k :: r, i => match Nat.beq i k with | true => true | false => hasN' r i
/-- Which slots and boxes stay at a region, at a loop's head. -/
structure Kp where
  t : List (Nat × Bool)
  p : List (Nat × Nat)
  h : List (Nat × (Option Nat × List Nat))
structure Lvs where
  r : List (Nat × Kp)
  l : List (Nat × Kp)
  cut : List Nat
  p : List (Nat × Nat)
  own : Bool
  ph : List (Nat × (Option Nat × List Nat))
  kb : List Nat
def packV (E : Env) (i : Nat) (u : TV E.T) : TV E.T :=
  match u with
  | .ag l => match E.pk i l with
    | some (z, []) => .ag (E.unp i z)
    | _ => u
  | u => u
def packS (E : Env) (ps : List (Nat × Nat)) : List (Nat × TV E.T) → List (Nat × TV E.T)
  | [] => []
  | (k, u) :: r => (k, match look ps k with | some i => packV E i u | none => u) :: packS E ps r
def nrmA {T : Nat → Type} : TA T → TA T
  | .tt => .d .bool true
  | .ff => .d .bool false
  | x => x
def weakA {T : Nat → Type} (ws : List Nat) : Nat → List (TA T) → List (TA T)
  | _, [] => []
  | i, x :: r => (match hasN' ws i with | true => nrmA x.rd | false => nrmA x) :: weakA ws (i + 1) r
def packTB (E : Env) (m : Option Nat × List Nat) (b : TB E.T) : TB E.T :=
  match b with
  | .cs l => match m with
    | (some i, _) => match E.pk i l with
      | some (z, []) => .cs (E.unp i z)
      | _ => b
    | (none, ws) => .cs (weakA ws 0 l)
  | b => b
def packH (E : Env) (ms : List (Nat × (Option Nat × List Nat))) : List (Nat × TB E.T) → List (Nat × TB E.T)
  | [] => []
  | (k, b) :: r => (k, match look ms k with | some m => packTB E m b | none => b) :: packH E ms r
def firstReg : Code → Nat
  | .region id _ _ => id
  | .seq a _ => firstReg a
  | .cond _ a _ => firstReg a
  | .block _ c => firstReg c
  | .loop c => firstReg c
  | _ => 0
/-- How many loops begin one within the other, right at the beginning. -/
def leadL : Code → Nat
  | .seq a _ => leadL a
  | .cond _ a _ => leadL a
  | .block _ c => leadL c
  | .loop c => leadL c + 1
  | _ => 0
def loopKey (c : Code) : Nat := firstReg c + 1000 * leadL c
def TS.pack (E : Env) (σ : TS E.T) (k : Kp) : TS E.T := { n := σ.n, t := packS E k.p σ.t, h := packH E k.h σ.h, e := σ.e }
def canonAt (E : Env) (lv : List (Nat × Kp)) (id : Nat) (σ : TS E.T) : TS E.T :=
  match look lv id with
  | some k => (σ.canon k.t (k.h.map (·.1))).pack E k
  | none => σ
def exitTo (id : Nat) : List It2 → Option (List It2)
  | [] => none
  | .c _ :: ks => exitTo id ks
  | .l _ :: ks => exitTo id ks
  | .b j :: ks => match Nat.beq id j with
    | true => some ks
    | false => exitTo id ks
  | _ :: _ => none
/-- What is handed back. -/
def tcOf {T : Nat → Type} : TV T → Option (TC T)
  | .a x => match nrm (.a x.rd) with
    | .a y => some (.a y)
    | _ => none
  | .ag l => some (.ag l)
  | _ => none
def resC {P : Program} {T : Nat → Type} (Y : Tys P) (σ : TS T) : ResultVar → Option (TC T)
  | .tmp s => match look σ.t s with
    | some u => tcOf u
    | none => none
  | .cell s ty => match look σ.t s with
    | some (.a (.box k 0)) => match look σ.h k, look Y.ty ty with
      | some (.cs cs), some (.struct _) => match look Y.sz ty with
        | some (n, _) => match Nat.beq n cs.length with
          | true => some (.ag (cs.map TA.rd))
          | false => none
        | none => none
      | some (.cs [c]), some d => match oneB d with
        | true => some (.a (nrmA c.rd))
        | false => none
      | _, _ => none
    | _ => none
def tvOf {T : Nat → Type} : TC T → TV T
  | .a x => .a x
  | .ag l => .ag l
def resT {P : Program} {T : Nat → Type} (Y : Tys P) (own : Bool) (rs : List ResultVar) (σ : TS T) : Option (TV T) :=
  match rs with
  | [.tmp t] => match look σ.t t with
    | some u => some (weakV (!own) u)
    | none => none
  | [r] => match resC Y σ r with
    | some x => some (tvOf x)
    | none => none
  | [r, r'] => match resC Y σ r, resC Y σ r' with
    | some x, some x' => some (.tu [x, x'])
    | _, _ => none
  | [r, r', r''] => match resC Y σ r, resC Y σ r', resC Y σ r'' with
    | some x, some x', some x'' => some (.tu [x, x', x''])
    | _, _, _ => none
  | [] => some (.tu [])
  | _ => none
section
variable {P : Program} (Y : Tys P) (E : Env) (G : Gam E) (lv : Lvs) (rs : List ResultVar)
def finT (σ : TS E.T) : Tree (Lf E.T) := match resT Y lv.own rs (σ.pack E ⟨[], lv.p, lv.ph⟩) with
  | some u => .leaf (.done (.ret u (keepHH (σ.pack E ⟨[], lv.p, lv.ph⟩).h lv.kb)))
  | none => .fail
def stp : List It2 → TS E.T → Tree (Lf E.T)
  | [], σ => finT Y E lv rs σ
  | .b _ :: ks, σ => .leaf (.go ks σ)
  | .l c :: ks, σ => .leaf (.go (.k c :: ks) (canonAt E lv.l (loopKey c) σ))
  | .k c :: ks, σ => .leaf (.go (.c c :: .l c :: ks) σ)
  | .r _ ops draw :: ks, σ => (evR Y E G ops.toList draw σ).bind fun
    | .st σ' => .leaf (.go ks σ')
    | .pan v => .leaf (.done (.pan v))
  | .c c :: ks, σ => match c with
    | .skip => .leaf (.go ks σ)
    | .label _ => .leaf (.go ks σ)
    | .seq a b => .leaf (.go (.c a :: .c b :: ks) σ)
    | .block id c => .leaf (.go (.c c :: .b id :: ks) σ)
    | .loop c => .leaf (.go (.l c :: ks) σ)
    | .cond (.tmp t) a b => match look σ.t t with
      | some (.a .tt) => .leaf (.go (.c a :: ks) σ)
      | some (.a .ff) => .leaf (.go (.c b :: ks) σ)
      | some (.a (.d .bool v)) => .cond v (.leaf (.go (.c a :: ks) (σ.know t .tt))) (.leaf (.go (.c b :: ks) (σ.know t .ff)))
      | _ => .fail
    | .exit id => match exitTo id ks with
      | some ks' => .leaf (.go ks' σ)
      | none => .fail
    | .ret => finT Y E lv rs σ
    | .region id ops draw => .leaf (.go (.r id ops draw :: ks) (canonAt E lv.r id σ))
    | _ => .fail
def hasN : List Nat → Nat → Bool
  | [], _ => false
  | k :: r, i => match Nat.beq i k with | true => true | false => hasN r i
def stopAt (cut : List Nat) : List It2 → Bool
  | .k _ :: _ => true
  | .r id _ _ :: _ => hasN cut id
  | _ => false
/-- Up to the next cuts. -/
def evM : Nat → Bool → List It2 → TS E.T → Tree (Lf E.T)
  | 0, _, ks, σ => .leaf (.go ks σ)
  | m + 1, fst, ks, σ => match fst, stopAt lv.cut ks with
    | false, true => .leaf (.go ks σ)
    | _, _ => (stp Y E G lv rs ks σ).bind fun
      | .go ks' σ' => evM m false ks' σ'
      | .done r => .leaf (.done r)
def finL {T : Nat → Type} (F : List It2 → TS T → Prop) (K : RL T → Prop) : Lf T → Prop
  | .go ks σ => F ks σ
  | .done r => K r
def Fin (K : RL E.T → Prop) : Nat → List It2 → TS E.T → Prop
  | 0, _, _ => False
  | n + 1, ks, σ => (stp Y E G lv rs ks σ).holds (finL (Fin K n) K)
/-- It comes to an end, with a result that is as it should be. -/
def Ends (K : RL E.T → Prop) (ks : List It2) (σ : TS E.T) : Prop := ∃ n, Fin Y E G lv rs K n ks σ
def LfOk (K : RL E.T → Prop) : Lf E.T → Prop
  | .go ks σ => Ends Y E G lv rs K ks σ
  | .done r => K r
end
section
variable {P : Program} {Y : Tys P} {E : Env} {G : Gam E} {lv : Lvs} {rs : List ResultVar} {K : RL E.T → Prop}
theorem holds_ex {L : Type} {R : Nat → L → Prop} (hR : ∀ n m x, n ≤ m → R n x → R m x) : ∀ {t : Tree L}, t.holds (fun x => ∃ n, R n x) → ∃ n, t.holds (R n)
  | .leaf x, h => h
  | .cond true s t, h => by
    obtain ⟨n, h⟩ := holds_ex hR (h.1 rfl)
    exact ⟨n, fun _ => h, fun e => by cases e⟩
  | .cond false s t, h => by
    obtain ⟨n, h⟩ := holds_ex hR (h.2 rfl)
    exact ⟨n, (fun e => by cases e), fun _ => h⟩
  | .bnd o k, ⟨z, h1, h2⟩ => by
    obtain ⟨n, h⟩ := holds_ex hR h2
    exact ⟨n, z, h1, h⟩
  | .sm (.ok z) k p, h => by
    obtain ⟨n, h⟩ := holds_ex hR (h.1 z rfl)
    exact ⟨n, (fun z' e => by cases e; exact h), fun v e => by cases e⟩
  | .sm (.pan v) k p, h => by
    obtain ⟨n, h⟩ := holds_ex hR (h.2 v rfl)
    exact ⟨n, (fun z' e => by cases e), fun v' e => by cases e; exact h⟩
  | .nl [] s t, h => by
    obtain ⟨n, h1⟩ := holds_ex hR (h.1 rfl)
    obtain ⟨m, h2⟩ := holds_ex hR h.2
    exact ⟨n + m, fun _ => h1.mono fun x => hR _ _ x (by omega), h2.mono fun x => hR _ _ x (by omega)⟩
  | .nl (_ :: _) s t, h => by
    obtain ⟨m, h2⟩ := holds_ex hR h.2
    exact ⟨m, (fun e => by cases e), h2⟩
  | .fail, h => h.elim
theorem fin_up : ∀ (n : Nat) (ks : List It2) (σ : TS E.T), Fin Y E G lv rs K n ks σ → Fin Y E G lv rs K (n + 1) ks σ
  | 0, _, _, h => h.elim
  | n + 1, ks, σ, h => Tree.holds.mono (fun x hx => by
    cases x with
    | go ks' σ' => exact fin_up n ks' σ' hx
    | done r => exact hx) h
theorem fin_mono {n m : Nat} (h : n ≤ m) {ks : List It2} {σ : TS E.T} (hf : Fin Y E G lv rs K n ks σ) : Fin Y E G lv rs K m ks σ := by
  induction h with
  | refl => exact hf
  | step _ ih => exact fin_up _ _ _ ih
theorem ends_step {ks : List It2} {σ : TS E.T} (h : (stp Y E G lv rs ks σ).holds (LfOk Y E G lv rs K)) : Ends Y E G lv rs K ks σ := by
  have h' : (stp Y E G lv rs ks σ).holds (fun x => ∃ n, finL (Fin Y E G lv rs K n) K x) := h.mono fun x hx => by
    cases x with
    | go ks' σ' => exact hx
    | done r => exact ⟨0, hx⟩
  obtain ⟨n, hn⟩ := holds_ex (R := fun n x => finL (Fin Y E G lv rs K n) K x) (fun n m x hnm hx => by
    cases x with
    | go ks' σ' => exact fin_mono hnm hx
    | done r => exact hx) h'
  exact ⟨n + 1, hn⟩
/-- Out of what the machine comes to. -/
theorem evM_ok : ∀ (m : Nat) (fst : Bool) (ks : List It2) (σ : TS E.T), (evM Y E G lv rs m fst ks σ).holds (LfOk Y E G lv rs K) → Ends Y E G lv rs K ks σ
  | 0, _, ks, σ, h => h
  | m + 1, fst, ks, σ, h => by
    simp only [evM] at h
    split at h
    · exact h
    · refine ends_step ((holds_bind h).mono fun x hx => ?_)
      cases x with
      | go ks' σ' => exact evM_ok m false ks' σ' hx
      | done r => exact hx

/-! ### The machine is right -/
def QX (P : Program) (fn : Func) (post : AOut → List (Nat × List AV) → Prop) : Exit → AS → Prop
  | .ret, σ | .normal, σ => ∀ (F : Nat → Prop) (X : GW) (tm : Array Value), SimE F X σ tm → ∃ v u H', (results fn tm).run P X.w = .ok v X.w ∧ post (.ret u) H' ∧ SimE F X ⟨1, [(0, u)], H', []⟩ #[v]
  | .panic chain, σ => ∃ v, chain = [⟨v, false, false⟩] ∧ post (.pan v) σ.h
  | _, _ => False
theorem acalls_bodyX {P : Program} {fn : Func} {f : FuncId} {c : Code} {us : List AV} {H : List (Nat × List AV)} {post : AOut → List (Nat × List AV) → Prop} (hf : P.funcs[f]? = some fn) (hn : (fn.name == "runtime.NumGoroutine") = false) (hb : fn.body = some c) (hus : Nat.ble us.length fn.ntmps = true)
    (h : ARun P (QX P fn post) [.c c] ⟨fn.ntmps, slotsOf 0 us, H, []⟩) : ACalls P f us H post := by
  refine ⟨⟨fn, hf, hn, by rw [hb]; rfl⟩, fun F X vs hs => calls_of_wp hf hb ?_⟩
  have hle := Nat.le_of_ble_eq_true hus
  have h2 := h F X { tmps := vs ++ Array.replicate (fn.ntmps - vs.size) undef, defers := [] } (hs.enter hle) [] rfl
  refine wp_mono h2 fun e a' w' hp => ?_
  obtain ⟨p1, X', σ', p2, p3, p4, p5⟩ := hp
  subst p2
  have fin : QX P fn post .ret σ' → a'.defers = [] ∧ ∃ v, (results fn a'.tmps).run P X'.w = .ok v X'.w ∧ (∃ (X'' : GW) (out : AOut) (H' : List (Nat × List AV)), X''.w = X'.w ∧ post out H' ∧ EndOk F X'' (.returned v) out H' ∧ Ext F X X'') := by
    intro hq
    obtain ⟨v, u, H2, k1, k2, k3⟩ := hq F X' a'.tmps p4
    exact ⟨p1, v, k1, X', .ret u, H2, rfl, k2, ⟨v, rfl, k3⟩, p5⟩
  cases e with
  | normal => exact fin p3
  | ret => exact fin p3
  | panic chain =>
    obtain ⟨v, rfl, p3⟩ := p3
    exact ⟨p1, X', .pan v, σ'.h, rfl, p3, ⟨rfl, p4.panEnd⟩, p5⟩
  | exit id => exact p3.elim
  | goto l => exact p3.elim
  | outgrown => exact p3.elim
def KPost (E : Env) (ρ0 : Nat → Nat) (K : RL E.T → Prop) : AOut → List (Nat × List AV) → Prop := fun out H => ∃ r ρ, K r ∧ Agr ρ0 ρ ∧ match r with
  | .ret u h => out = .ret (u.to E.toEnc ρ) ∧ H = hTo E.toEnc ρ h ∧ Inj ρ h
  | .pan v => out = .pan v ∧ H = []
/-- The stack, as the abstract states' one. -/
def tr (Y : Tys P) (E : Env) (G : Gam E) (lv : Lvs) (rs : List ResultVar) (K : RL E.T → Prop) (ρ0 : Nat → Nat) (n : Nat) : List It2 → List It
  | [] => []
  | .c c :: ks => .c c :: tr Y E G lv rs K ρ0 n ks
  | .b id :: ks => .b id :: tr Y E G lv rs K ρ0 n ks
  | .l c :: ks => .l (fun σ' => ∃ m τ ρ, m < n ∧ (Agr ρ0 ρ ∧ Inj ρ τ.h) ∧ SubS σ' (τ.to E.toEnc ρ) ∧ Fin Y E G lv rs K m (.k c :: ks) τ) :: tr Y E G lv rs K ρ0 n ks
  | .r id ops draw :: ks => .c (.region id ops draw) :: tr Y E G lv rs K ρ0 n ks
  | .k c :: ks => .c (.loop c) :: tr Y E G lv rs K ρ0 n ks
/-- Stacks, of which the one asks for less. -/
inductive ItLe : List It → List It → Prop
  | nil : ItLe [] []
  | same (i : It) {ks ks' : List It} : ItLe ks ks' → ItLe (i :: ks) (i :: ks')
  | l {I J : AS → Prop} {ks ks' : List It} : (∀ σ, I σ → J σ) → ItLe ks ks' → ItLe (.l I :: ks) (.l J :: ks')
theorem ItLe.refl : ∀ ks, ItLe ks ks
  | [] => .nil
  | i :: ks => .same i (ItLe.refl ks)
theorem tr_le {ρ0 : Nat → Nat} {n m : Nat} (h : m ≤ n) : ∀ ks, ItLe (tr Y E G lv rs K ρ0 m ks) (tr Y E G lv rs K ρ0 n ks)
  | [] => .nil
  | .c c :: ks => .same _ (tr_le h ks)
  | .b id :: ks => .same _ (tr_le h ks)
  | .l c :: ks => .l (fun σ ⟨q, τ, ρ, h1, h2⟩ => ⟨q, τ, ρ, Nat.lt_of_lt_of_le h1 h, h2⟩) (tr_le h ks)
  | .r id ops draw :: ks => .same _ (tr_le h ks)
  | .k c :: ks => .same _ (tr_le h ks)
theorem stk_le {Q : Exit → AS → Prop} : ∀ {ks ks' : List It}, ItLe ks ks' → ∀ e σ, Stk P Q ks e σ → Stk P Q ks' e σ := by
  intro ks ks' h
  induction h with
  | nil => exact fun _ _ h => h
  | same i h ih =>
    intro e σ hs
    cases i with
    | c c =>
      cases e with
      | normal => exact Awp.mono hs (fun e σ => ih e σ)
      | _ => exact ih _ _ hs
    | b id =>
      cases e with
      | exit id' =>
        simp only [Stk] at hs ⊢
        split
        · rename_i e; rw [if_pos e] at hs; exact ih _ _ hs
        · rename_i e; rw [if_neg e] at hs; exact ih _ _ hs
      | _ => exact ih _ _ hs
    | l I =>
      cases e with
      | normal => exact hs
      | _ => exact ih _ _ hs
    | o l k r =>
      cases e with
      | normal => exact fun F X a hsim D hd => wpOps_mono' (fun e a w hp => hp.mono fun e σ => ih e σ) _ _ _ (hs F X a hsim D hd)
      | _ => exact ih _ _ hs
  | l hIJ h ih =>
    intro e σ hs
    cases e with
    | normal => exact hIJ σ hs
    | _ => exact ih _ _ hs
theorem run_le {Q : Exit → AS → Prop} {ks ks' : List It} {σ : AS} (h : ItLe ks ks') (hr : ARun P Q ks σ) : ARun P Q ks' σ := stk_le h _ _ hr
theorem stk_ret {Q : Exit → AS → Prop} {ρ0 : Nat → Nat} {n : Nat} : ∀ (ks : List It2) {σ : AS}, Q .ret σ → Stk P Q (tr Y E G lv rs K ρ0 n ks) .ret σ
  | [], σ, h => h
  | .c c :: ks, σ, h => stk_ret ks h
  | .b id :: ks, σ, h => stk_ret ks h
  | .l c :: ks, σ, h => stk_ret ks h
  | .r id ops draw :: ks, σ, h => stk_ret ks h
  | .k c :: ks, σ, h => stk_ret ks h
theorem stk_pan {Q : Exit → AS → Prop} {ρ0 : Nat → Nat} {n : Nat} {v : Value} : ∀ (ks : List It2), (∀ n, Q (.panic [⟨v, false, false⟩]) ⟨n, [], [], []⟩) → PanX P Q (tr Y E G lv rs K ρ0 n ks) v
  | [], h => h
  | .c c :: ks, h => stk_pan ks h
  | .b id :: ks, h => stk_pan ks h
  | .l c :: ks, h => stk_pan ks h
  | .r id ops draw :: ks, h => stk_pan ks h
  | .k c :: ks, h => stk_pan ks h
theorem stk_exit {Q : Exit → AS → Prop} {ρ0 : Nat → Nat} {n id : Nat} : ∀ (ks : List It2) {ks' : List It2} {σ : AS}, exitTo id ks = some ks' → ARun P Q (tr Y E G lv rs K ρ0 n ks') σ → Stk P Q (tr Y E G lv rs K ρ0 n ks) (.exit id) σ
  | [], _, _, h, _ => by cases h
  | .c c :: ks, _, _, h, hr => stk_exit ks h hr
  | .l c :: ks, _, _, h, hr => stk_exit ks h hr
  | .b j :: ks, ks', σ, h, hr => by
    simp only [exitTo] at h
    simp only [tr, Stk]
    split at h
    · rename_i e
      cases h
      rw [if_pos (beq_of e)]
      exact hr
    · rename_i e
      rw [if_neg (fun e2 => by subst e2; rw [Nat.beq_refl] at e; cases e)]
      exact stk_exit ks h hr
  | .r _ _ _ :: _, _, _, h, _ => by cases h
  | .k _ :: _, _, _, h, _ => by cases h
theorem tcOf_to {ρ : Nat → Nat} {u : TV E.T} {x : TC E.T} (h : tcOf u = some x) : x.to E.toEnc ρ = (u.to E.toEnc ρ).rd := by
  unfold tcOf at h
  split at h
  · rename_i a
    split at h
    · rename_i y hy
      cases h
      have := nrm_to E.toEnc ρ (.a a.rd : TV E.T)
      rw [hy] at this
      exact this.trans (TA.rd_to _ _ _)
    · cases h
  · cases h; rfl
  · cases h
theorem packV_le (i : Nat) (u : TV E.T) (ρ : Nat → Nat) : LeV (u.to E.toEnc ρ) ((packV E i u).to E.toEnc ρ) := by
  unfold packV
  split
  · split
    · rename_i l _ z hz
      have h := E.pk_to i _ z [] ρ hz
      simp only [List.map_nil, List.append_nil] at h
      refine .inr ⟨fun X v hv => ?_, rfl⟩
      have e : (TV.ag (E.unp i z) : TV E.T).to E.toEnc ρ = .ag (E.enc i z) := by
        show AV.ag ((E.unp i z).map _) = _
        rw [E.unp_to]
      rw [e]
      exact rel_ag_le hv ((map_rd_le (ρ := ρ) l).trans h)
    · exact .inl (.refl _)
  · exact .inl (.refl _)
theorem look_packS (ps : List (Nat × Nat)) (ρ : Nat → Nat) : ∀ (t : List (Nat × TV E.T)) (k : Nat) (u' : AV), look (tTo E.toEnc ρ (packS E ps t)) k = some u' → ∃ u, look (tTo E.toEnc ρ t) k = some u ∧ LeV u u'
  | [], k, u', h => by cases h
  | (j, u) :: r, k, u', h => by
    simp only [packS, tTo, List.map_cons, look_cons] at h ⊢
    split at h
    · rename_i e
      rw [if_pos e]
      cases h
      refine ⟨_, rfl, ?_⟩
      split
      · exact packV_le _ u ρ
      · exact .inl (.refl _)
    · rename_i e
      rw [if_neg e]
      exact look_packS ps ρ r k u' h
theorem weakA_le (ws : List Nat) (ρ : Nat → Nat) : ∀ (i : Nat) (l : List (TA E.T)), LeL (l.map (TA.to E.toEnc ρ)) ((weakA ws i l).map (TA.to E.toEnc ρ))
  | _, [] => .nil
  | i, x :: r => by
    have hn : ∀ y : TA E.T, (nrmA y).to E.toEnc ρ = y.to E.toEnc ρ := fun y => by cases y <;> rfl
    simp only [weakA, List.map_cons]
    refine .cons ?_ (weakA_le ws ρ (i + 1) r)
    split
    · rw [hn, TA.rd_to]; exact le1_rd _
    · rw [hn]; exact .refl _
theorem packB_le (m : Option Nat × List Nat) (b : TB E.T) (ρ : Nat → Nat) : LeL (b.to E.toEnc ρ) ((packTB E m b).to E.toEnc ρ) := by
  unfold packTB
  split
  · rename_i l
    split
    · rename_i i ws
      split
      · rename_i z hz
        have h := E.pk_to i _ z [] ρ hz
        simp only [List.map_nil, List.append_nil] at h
        show LeL (l.map _) ((E.unp i z).map _)
        rw [E.unp_to]
        exact (map_rd_le (ρ := ρ) l).trans h
      · exact LeL.refl _
    · exact weakA_le _ ρ 0 l
  · exact LeL.refl _
theorem packH_ids (ms : List (Nat × (Option Nat × List Nat))) : ∀ (h : List (Nat × TB E.T)), ∀ p ∈ packH E ms h, ∃ q ∈ h, q.1 = p.1
  | [], p, hp => by cases hp
  | (j, b) :: r, p, hp => by
    rcases List.mem_cons.1 hp with rfl | hp
    · exact ⟨_, List.mem_cons_self, rfl⟩
    · obtain ⟨q, h1, h2⟩ := packH_ids ms r p hp
      exact ⟨q, List.mem_cons_of_mem _ h1, h2⟩
theorem look_packH (ms : List (Nat × (Option Nat × List Nat))) (ρ : Nat → Nat) : ∀ (h : List (Nat × TB E.T)) (k : Nat) (cs' : List AV), look (hTo E.toEnc ρ (packH E ms h)) k = some cs' → ∃ cs, look (hTo E.toEnc ρ h) k = some cs ∧ LeL cs cs'
  | [], k, u', h => by cases h
  | (j, b) :: r, k, cs', h => by
    simp only [packH, hTo, List.map_cons, look_cons] at h ⊢
    split at h
    · rename_i e
      rw [if_pos e]
      cases h
      refine ⟨_, rfl, ?_⟩
      split
      · exact packB_le _ b ρ
      · exact LeL.refl _
    · rename_i e
      rw [if_neg e]
      exact look_packH ms ρ r k cs' h
theorem pack_sub (σ : TS E.T) (k : Kp) : SubT E.toEnc σ (σ.pack E k) := fun ρ hi => by
  refine ⟨hi.sub (packH_ids k.h σ.h), fun F X tm hs => ?_⟩
  exact hs.le3 rfl (fun t u' hu => look_packS k.p ρ σ.t t u' hu) (fun q cs' hq => look_packH k.h ρ σ.h q cs' hq) (fun p hp => hp)
theorem nrmA_to (y : TA E.T) (ρ : Nat → Nat) : (nrmA y).to E.toEnc ρ = y.to E.toEnc ρ := by cases y <;> rfl
theorem tvOf_to (x : TC E.T) (ρ : Nat → Nat) : (tvOf x).to E.toEnc ρ = x.to E.toEnc ρ := by cases x <;> rfl
theorem resC_to {ρ : Nat → Nat} {σ : TS E.T} (hi : Inj ρ σ.h) {r : ResultVar} {x : TC E.T} (h : resC Y σ r = some x) : resC1 Y (tTo E.toEnc ρ σ.t) (hTo E.toEnc ρ σ.h) r = some (x.to E.toEnc ρ) := by
  unfold resC at h
  split at h
  · split at h
    · rename_i u hu
      simp only [resC1, look_tTo, hu, Option.map_some, tcOf_to h]
    · cases h
  · split at h
    · rename_i s ty _ k hs
      have hs' : look (tTo E.toEnc ρ σ.t) s = some (.v (.pointer (some ⟨ρ k, 0, none⟩))) := by simp only [look_tTo, hs, Option.map_some]; rfl
      split at h
      · rename_i cs fs hh hy
        have hh' : look (hTo E.toEnc ρ σ.h) (ρ k) = some (cs.map (TA.to E.toEnc ρ)) := look_hTo E.toEnc hi hh
        split at h
        · rename_i n b hz
          split at h
          · rename_i hn
            cases h
            rw [resC1_struct hs' hh' hy hz (by simpa using hn) (notMpB cs)]
            simp only [TC.to, List.map_map]
            exact congrArg (fun l => some (AV.ag l)) (List.map_congr_left fun y _ => (TA.rd_to _ _ y).symm)
          · cases h
        · cases h
      · rename_i c d hno hh hy
        have hh' : look (hTo E.toEnc ρ σ.h) (ρ k) = some [c.to E.toEnc ρ] := look_hTo E.toEnc hi hh
        split at h
        · rename_i h1
          cases h
          rw [resC1_one hs' hh' hy h1 (TA.to_notMp _ _ c)]
          simp only [TC.to, nrmA_to, TA.rd_to]
        · cases h
      · cases h
    · cases h
theorem resT_run {own : Bool} {fn : Func} {ρ : Nat → Nat} {σ : TS E.T} {u : TV E.T} (hrs : fn.results.toList = rs) (hi : Inj ρ σ.h) (h : resT Y own rs σ = some u) (F : Nat → Prop) (X : GW) (tm : Array Value) (hs : SimE F X (σ.to E.toEnc ρ) tm) {H2 : List (Nat × List AV)} (hH : ∀ k cs, look H2 k = some cs → look (σ.to E.toEnc ρ).h k = some cs) : ∃ v, (results fn tm).run P X.w = .ok v X.w ∧ SimE F X ⟨1, [(0, u.to E.toEnc ρ)], H2, []⟩ #[v] := by
  have cells : resCA Y (tTo E.toEnc ρ σ.t) (hTo E.toEnc ρ σ.h) rs = some (u.to E.toEnc ρ) → ∃ v, (results fn tm).run P X.w = .ok v X.w ∧ SimE F X ⟨1, [(0, u.to E.toEnc ρ)], H2, []⟩ #[v] := fun hc => by
    obtain ⟨k0, v, k1, k2⟩ := resCA_ok (F := F) (tm := tm) (fn := fn) hs.slot hs.box (hrs ▸ hc)
    exact ⟨v, k1, hs.retEnd hH k2 k0⟩
  unfold resT at h
  split at h
  · rename_i t
    split at h
    · rename_i u0 hu
      cases h
      have hr : resA fn.results.toList (σ.to E.toEnc ρ) = some (u0.to E.toEnc ρ) := by rw [hrs]; simp only [resA, TS.to, look_tTo, hu, Option.map_some]
      obtain ⟨v, k1, k2⟩ := resA_ok (P := P) (fn := fn) hs hr
      refine ⟨v, k1, k2.le2 rfl (fun s u' hu' => ?_) (fun q cs' hq => ⟨cs', hH q cs' hq, LeL.refl _⟩) (fun p hp => by cases hp)⟩
      simp only [look_cons] at hu'
      split at hu'
      · rename_i e; subst e; cases hu'
        refine ⟨_, look_hd, ?_⟩
        cases own with
        | true => simp only [Bool.not_true, weakV, nrm_to]; exact .refl _
        | false => simp only [Bool.not_false, weakV, nrm_to, TV.rd_to]; exact le1_rd _
      · cases hu'
    · cases h
  · split at h
    · rename_i x hx
      cases h
      refine cells ?_
      rw [tvOf_to]
      exact resC_to hi hx
    · cases h
  · split at h
    · rename_i x x' hx hx'
      cases h
      exact cells (by simp only [resCA, resC_to hi hx, resC_to hi hx']; rfl)
    · cases h
  · split at h
    · rename_i x x' x'' hx hx' hx''
      cases h
      exact cells (by simp only [resCA, resC_to hi hx, resC_to hi hx', resC_to hi hx'']; rfl)
    · cases h
  · cases h; exact cells rfl
  · cases h
theorem keepHH_mem {T : Nat → Type} {h : List (Nat × TB T)} : ∀ {ids : List Nat}, ∀ p ∈ keepHH h ids, ∃ q ∈ h, q.1 = p.1
  | [], p, hp => by cases hp
  | k :: ks, p, hp => by
    simp only [keepHH] at hp
    split at hp
    · rename_i b hb
      rcases List.mem_cons.1 hp with rfl | hp
      · exact ⟨_, look_mem hb, rfl⟩
      · exact keepHH_mem p hp
    · exact keepHH_mem p hp
theorem fin_ok {fn : Func} (hrs : fn.results.toList = rs) {ρ0 ρ : Nat → Nat} (ha : Agr ρ0 ρ) {σ : TS E.T} (hi : Inj ρ σ.h) {e : Exit} (he : e = .ret ∨ e = .normal) {F : List It2 → TS E.T → Prop} (h : (finT Y E lv rs σ).holds (finL F K)) : QX P fn (KPost E ρ0 K) e (σ.to E.toEnc ρ) := by
  unfold finT at h
  split at h
  · rename_i u hu
    obtain ⟨k1, k2⟩ := pack_sub σ ⟨[], lv.p, lv.ph⟩ ρ hi
    have : ∀ (F : Nat → Prop) (X : GW) (tm : Array Value), SimE F X (σ.to E.toEnc ρ) tm → ∃ v u H', (results fn tm).run P X.w = .ok v X.w ∧ KPost E ρ0 K (.ret u) H' ∧ SimE F X ⟨1, [(0, u)], H', []⟩ #[v] := fun F X tm hs => by
      obtain ⟨v, k3, k4⟩ := resT_run (Y := Y) hrs k1 hu F X tm (k2 F X tm hs) (H2 := hTo E.toEnc ρ (keepHH (σ.pack E ⟨[], lv.p, lv.ph⟩).h lv.kb)) (keep_sub k1 _)
      exact ⟨v, _, _, k3, ⟨_, ρ, h, ha, rfl, rfl, k1.sub keepHH_mem⟩, k4⟩
    rcases he with rfl | rfl
    · exact this
    · exact this
  · cases h
theorem canonAt_sub (lvl : List (Nat × Kp)) (id : Nat) (σ : TS E.T) : SubT E.toEnc σ (canonAt E lvl id σ) := by
  unfold canonAt
  split
  · exact (canon_sub σ _ _).trans (pack_sub _ _)
  · exact SubT.refl σ
theorem fin_run {fn : Func} {ρ0 : Nat → Nat} (hrs : fn.results.toList = rs) (hm : P.follows .mixedOrders = true) (hG : GOk P Y E G) : ∀ (n : Nat) (ks : List It2) (σ : TS E.T) (ρ : Nat → Nat), Agr ρ0 ρ → Inj ρ σ.h → Fin Y E G lv rs K n ks σ → ARun P (QX P fn (KPost E ρ0 K)) (tr Y E G lv rs K ρ0 n ks) (σ.to E.toEnc ρ) := by
  intro n
  induction n using Nat.strongRecOn with
  | _ n ih =>
    intro ks σ ρ ha hi h
    cases n with
    | zero => cases h
    | succ n =>
      have up : ∀ {ks : List It2} {σ : TS E.T} {ρ : Nat → Nat}, Agr ρ0 ρ → Inj ρ σ.h → Fin Y E G lv rs K n ks σ → ARun P (QX P fn (KPost E ρ0 K)) (tr Y E G lv rs K ρ0 (n + 1) ks) (σ.to E.toEnc ρ) := fun ha hi h => run_le (tr_le (Nat.le_succ n) _) (ih n (Nat.lt_succ_self n) _ _ _ ha hi h)
      cases ks with
      | nil => exact fin_ok hrs ha (F := Fin Y E G lv rs K n) hi (.inr rfl) h
      | cons it ks =>
        cases it with
        | b id => exact ar_blk (up (ks := ks) ha hi h)
        | l c =>
          have h' : Fin Y E G lv rs K n (.k c :: ks) (canonAt E lv.l (loopKey c) σ) := h
          obtain ⟨k1, k2⟩ := canonAt_sub lv.l (loopKey c) σ ρ hi
          exact ⟨n, _, ρ, Nat.lt_succ_self n, ⟨ha, k1⟩, k2, h'⟩
        | k c =>
          refine ar_loopS (fun y : Nat × TS E.T × (Nat → Nat) => y.2.1.to E.toEnc y.2.2) (fun y => (Agr ρ0 y.2.2 ∧ Inj y.2.2 y.2.1.h) ∧ Fin Y E G lv rs K y.1 (.k c :: ks) y.2.1 ∧ y.1 ≤ n + 1) (fun y => y.1) (n + 1, σ, ρ) (fun _ _ _ h => h) ⟨⟨ha, hi⟩, h, Nat.le_refl _⟩ ?_
          rintro ⟨m, τ, ρ'⟩ ⟨⟨ha', hi'⟩, hf, hle⟩
          cases m with
          | zero => cases hf
          | succ m =>
            have hf' : Fin Y E G lv rs K m (.c c :: .l c :: ks) τ := hf
            have hr := ih m (by simp only at hle; omega) _ τ ρ' ha' hi' hf'
            refine run_le (.same _ (.l ?_ (tr_le (by simp only at hle; omega) ks))) hr
            rintro σ' ⟨q, τ', ρ'', h1, h2, h3, h4⟩
            exact ⟨(q, τ', ρ''), h3, ⟨h2, h4, by simp only at hle ⊢; omega⟩, by simp only; omega⟩
        | r id ops draw =>
          refine evR_ok (Y := Y) hm hG hi ?_
          have h' : ((evR Y E G ops.toList draw σ).bind fun
            | .st σ' => Tree.leaf (Lf.go ks σ')
            | .pan v => .leaf (.done (.pan v))).holds (finL (Fin Y E G lv rs K n) K) := h
          refine (holds_bind h').mono fun x hx => ?_
          cases x with
          | st σ' => exact fun ρ' hi' ha' => up (ha.trans ha') hi' hx
          | pan v => exact stk_pan ks fun n => ⟨v, rfl, ⟨.pan v, ρ0, hx, Agr.refl ρ0, rfl, rfl⟩⟩
        | c c =>
          cases c with
          | skip => exact ar_skip (up (ks := ks) ha hi h)
          | label q => exact ar_label (up (ks := ks) ha hi h)
          | seq a b => exact ar_seq (up (ks := .c a :: .c b :: ks) ha hi h)
          | block id c => exact ar_block (up (ks := .c c :: .b id :: ks) ha hi h)
          | loop c =>
            have h' : Fin Y E G lv rs K n (.l c :: ks) σ := h
            cases n with
            | zero => cases h'
            | succ n' =>
              have h2 : Fin Y E G lv rs K n' (.k c :: ks) (canonAt E lv.l (loopKey c) σ) := h'
              obtain ⟨k1, k2⟩ := canonAt_sub lv.l (loopKey c) σ ρ hi
              refine ar_subS k2 ?_
              exact run_le (tr_le (by omega) (.k c :: ks)) (ih n' (by omega) (.k c :: ks) _ ρ ha k1 h2)
          | cond x a b =>
            cases x with
            | tmp t =>
              have h' : (match look σ.t t with
                | some (.a .tt) => Tree.leaf (Lf.go (.c a :: ks) σ)
                | some (.a .ff) => .leaf (.go (.c b :: ks) σ)
                | some (.a (.d .bool v)) => .cond v (.leaf (.go (.c a :: ks) (σ.know t .tt))) (.leaf (.go (.c b :: ks) (σ.know t .ff)))
                | _ => .fail).holds (finL (Fin Y E G lv rs K n) K) := h
              split at h'
              · rename_i hl
                exact ar_cond_true (b := true) (by simp only [TS.to, look_tTo, hl]; rfl) rfl (up (ks := .c a :: ks) ha hi h')
              · rename_i hl
                exact ar_cond_false (b := false) (by simp only [TS.to, look_tTo, hl]; rfl) rfl (up (ks := .c b :: ks) ha hi h')
              · rename_i v hl
                cases hv : v with
                | true => exact ar_cond_true (b := v) (by simp only [TS.to, look_tTo, hl]; rfl) hv (ar_subS (know_sub (x := .tt) (b := v) (by rw [hv]; rfl) hl) (up (ks := .c a :: ks) (σ := σ.know t .tt) ha hi (h'.1 hv)))
                | false => exact ar_cond_false (b := v) (by simp only [TS.to, look_tTo, hl]; rfl) hv (ar_subS (know_sub (x := .ff) (b := v) (by rw [hv]; rfl) hl) (up (ks := .c b :: ks) (σ := σ.know t .ff) ha hi (h'.2 hv)))
              · cases h'
            | _ => cases h
          | exit id =>
            have h' : (match exitTo id ks with
              | some ks' => Tree.leaf (Lf.go ks' σ)
              | none => .fail).holds (finL (Fin Y E G lv rs K n) K) := h
            split at h'
            · rename_i ks' hks
              exact ar_exit (stk_exit ks hks (up ha hi h'))
            · cases h'
          | ret =>
            exact ar_ret (stk_ret ks (fin_ok hrs ha (F := Fin Y E G lv rs K n) hi (.inl rfl) h))
          | region id ops draw =>
            obtain ⟨k1, k2⟩ := canonAt_sub lv.r id σ ρ hi
            refine ar_subS k2 ?_
            exact up (ks := .r id ops draw :: ks) ha k1 h
          | _ => cases h
/-- The state in which a function begins. -/
def slotsT {T : Nat → Type} : Nat → List (TV T) → List (Nat × TV T)
  | _, [] => []
  | k, u :: us => (k, u) :: slotsT (k + 1) us
theorem slotsT_to {ρ : Nat → Nat} : ∀ (us : List (TV E.T)) (k : Nat), tTo E.toEnc ρ (slotsT k us) = slotsOf k (us.map (TV.to E.toEnc ρ))
  | [], _ => rfl
  | u :: us, k => by simp only [slotsT, tTo, List.map_cons, slotsOf]; exact congrArg _ (slotsT_to us (k + 1))
/-- A function's contract. -/
theorem fn_okH {f : FuncId} {fn : Func} (c : Code) (n : Nat) (hm : P.follows .mixedOrders = true) (hG : GOk P Y E G) (hf : P.funcs[f]? = some fn) (hn : (fn.name == "runtime.NumGoroutine") = false) (hb : fn.body = some c) (hnt : fn.ntmps = n) (hrs : fn.results.toList = rs) {us : List (TV E.T)} (hus : Nat.ble us.length n = true) {h0 : List (Nat × TB E.T)}
    (h : Ends Y E G lv rs K [.c c] ⟨n, slotsT 0 us, h0, []⟩) (ρ : Nat → Nat) (hi : Inj ρ h0) : ACalls P f (us.map (TV.to E.toEnc ρ)) (hTo E.toEnc ρ h0) (KPost E ρ K) := by
  subst hnt
  refine acalls_bodyX hf hn hb (by simpa using hus) ?_
  obtain ⟨m, hm'⟩ := h
  have hr := fin_run hrs hm hG m _ _ ρ (Agr.refl ρ) hi hm'
  have hst : (TS.to E.toEnc ρ (⟨fn.ntmps, slotsT 0 us, h0, []⟩ : TS E.T)) = ⟨fn.ntmps, slotsOf 0 (us.map (TV.to E.toEnc ρ)), hTo E.toEnc ρ h0, []⟩ := by
    simp only [TS.to, slotsT_to]; rfl
  rw [hst] at hr
  exact hr
theorem fn_ok {f : FuncId} {fn : Func} (c : Code) (n : Nat) (hm : P.follows .mixedOrders = true) (hG : GOk P Y E G) (hf : P.funcs[f]? = some fn) (hn : (fn.name == "runtime.NumGoroutine") = false) (hb : fn.body = some c) (hnt : fn.ntmps = n) (hrs : fn.results.toList = rs) {us : List (TV E.T)} (hus : Nat.ble us.length n = true)
    (h : Ends Y E G lv rs K [.c c] ⟨n, slotsT 0 us, [], []⟩) (ρ : Nat → Nat) : ACalls P f (us.map (TV.to E.toEnc ρ)) [] (KPost E ρ K) :=
  fn_okH c n hm hG hf hn hb hnt hrs hus h ρ (fun p hp => by cases hp)
/-- A result that names no boxes. -/
theorem KPost.ret {ρ : Nat → Nat} {u : TV E.T} (hu : (u.ids big) = true) {out : AOut} {H : List (Nat × List AV)} (h : KPost E ρ (fun r => r = .ret u []) out H) : out = .ret (u.to E.toEnc ρ) ∧ H = [] := by
  obtain ⟨r, ρ', rfl, ha, h1, h2, _⟩ := h
  exact ⟨by rw [h1, TV.ids_to ha hu], h2⟩
theorem KPost.retH {ρ : Nat → Nat} {u : TV E.T} {hh : List (Nat × TB E.T)} (hu : (u.ids big) = true) (hb : hIds big hh = true) {out : AOut} {H : List (Nat × List AV)} (h : KPost E ρ (fun r => r = .ret u hh) out H) : out = .ret (u.to E.toEnc ρ) ∧ H = hTo E.toEnc ρ hh := by
  obtain ⟨r, ρ', rfl, ha, h1, h2, _⟩ := h
  exact ⟨by rw [h1, TV.ids_to ha hu], by rw [h2, hIds_to ha hb]⟩
/-! ### Pieces -/
/-- Where a region stands, what is left behind it. -/
def findR (id : Nat) : Code → List It2 → Option (List It2)
  | .region j ops draw, ks => match Nat.beq id j with
    | true => some (.r j ops draw :: ks)
    | false => none
  | .seq a b, ks => match findR id a (.c b :: ks) with
    | some x => some x
    | none => findR id b ks
  | .cond _ a b, ks => match findR id a ks with
    | some x => some x
    | none => findR id b ks
  | .block i c, ks => findR id c (.b i :: ks)
  | .loop c, ks => findR id c (.l c :: ks)
  | _, _ => none
def findL (key : Nat) : Code → List It2 → Option (List It2)
  | .seq a b, ks => match findL key a (.c b :: ks) with
    | some x => some x
    | none => findL key b ks
  | .cond _ a b, ks => match findL key a ks with
    | some x => some x
    | none => findL key b ks
  | .block i c, ks => findL key c (.b i :: ks)
  | .loop c, ks => match Nat.beq key (loopKey c) with
    | true => some (.k c :: ks)
    | false => findL key c (.l c :: ks)
  | _, _ => none
def atR (id : Nat) (c : Code) : List It2 := (findR id c []).getD []
def atL (key : Nat) (c : Code) : List It2 := (findL key c []).getD []
def Tree.map1 {L R : Type} : Tree (L × Option R) → Tree L
  | .leaf x => .leaf x.1
  | .cond b t f => .cond b t.map1 f.map1
  | .bnd o k => .bnd o fun z => (k z).map1
  | .sm x k p => .sm x (fun z => (k z).map1) fun v => (p v).map1
  | .nl l t f => .nl l t.map1 f.map1
  | .fail => .fail
def Tree.run {L R : Type} : Tree (L × Option R) → Option R
  | .leaf x => x.2
  | .cond b t f => bif b then t.run else f.run
  | .bnd o k => o.bind fun z => (k z).run
  | .sm x k p => match x with
    | .ok z => (k z).run
    | .pan v => (p v).run
  | .nl _ _ f => f.run
  | .fail => none
def Tree.all {L R : Type} (K : L × Option R → Prop) : Tree (L × Option R) → Prop
  | .leaf x => K x
  | .cond _ t f => t.all K ∧ f.all K
  | .bnd _ k => ∀ z, (k z).all K
  | .sm _ k p => (∀ z, (k z).all K) ∧ ∀ v, (p v).all K
  | .nl l t f => (l = [] → t.run = f.run) ∧ t.all K ∧ f.all K
  | .fail => True
theorem tree_holds {L R : Type} {K : L → Prop} {r : R} : ∀ {t : Tree (L × Option R)}, t.run = some r → t.all (fun p => p.2 = some r → K p.1) → t.map1.holds K
  | .leaf x, h, ha => ha h
  | .cond true t f, h, ha => ⟨fun _ => tree_holds h ha.1, fun e => by cases e⟩
  | .cond false t f, h, ha => ⟨(fun e => by cases e), fun _ => tree_holds h ha.2⟩
  | .bnd none k, h, ha => by cases h
  | .bnd (some z) k, h, ha => ⟨z, rfl, tree_holds h (ha z)⟩
  | .nl l t f, h, ha => ⟨fun e => tree_holds ((ha.1 e).trans h) ha.2.1, tree_holds h ha.2.2⟩
  | .sm (.ok z) k p, h, ha => ⟨(fun z' e => by cases e; exact tree_holds h (ha.1 z)), fun v e => by cases e⟩
  | .sm (.pan v) k p, h, ha => ⟨(fun z' e => by cases e), fun v' e => by cases e; exact tree_holds h (ha.2 v)⟩
  | .fail, h, ha => by cases h
theorem tree_use {R : Type} {r : R} {g : Option R} {m : Nat} {ks : List It2} {σ : TS E.T} {t : Tree (Lf E.T × Option R)} (hev : evM Y E G lv rs m true ks σ = t.map1) (hrun : g = t.run) (hg : g = some r) (ha : t.all (fun p => p.2 = some r → LfOk Y E G lv rs K p.1)) : Ends Y E G lv rs K ks σ :=
  evM_ok m true ks σ (by rw [hev]; exact tree_holds (hrun ▸ hg) ha)
theorem retp {R : Type} {enc : R → RL E.T} {r r' : R} {u : RL E.T} (e : u = enc r') (h : some r' = some r) : u = enc r := by cases h; exact e
end
/-- A function's code. -/
def bodyOf : Nat → Func → Code
  | 0, fn => match fn.body with
    | some c => c
    | none => .skip
  | n + 1, fn => bodyOf n fn
/-- Arguments, read. -/
def argD {T : Nat → Type} (t : Ty) : TV T → Option (Den T t)
  | .a x => asD t x
  | _ => none
def argS (E : Env) (i : Nat) : TV E.T → Option (E.T i)
  | .ag l => match E.pk i l with
    | some (z, []) => some z
    | _ => none
  | _ => none
theorem argD_le {E : Env} {t : Ty} {u : TV E.T} {x : Den E.T t} (h : argD t u = some x) (ρ : Nat → Nat) : LeV (u.to E.toEnc ρ) ((TV.a (.d t x) : TV E.T).to E.toEnc ρ) := by
  unfold argD at h
  split at h
  · rename_i a
    have := asD_to E.toEnc ρ h
    rw [TA.rd_to] at this
    exact .inl ((le1_rd _).trans this)
  · cases h
theorem argS_le {E : Env} {i : Nat} {u : TV E.T} {z : E.T i} (h : argS E i u = some z) (ρ : Nat → Nat) : LeV (u.to E.toEnc ρ) ((TV.ag (E.unp i z) : TV E.T).to E.toEnc ρ) := by
  unfold argS at h
  split at h
  · rename_i l
    split at h
    · rename_i z' hz
      cases h
      have := packV_le (E := E) i (.ag l) ρ
      unfold packV at this
      simp only [hz] at this
      exact this
    · cases h
  · cases h
theorem acalls_args {P : Program} {E : Env} {f : FuncId} {us us' : List (TV E.T)} {ρ : Nat → Nat} {post : AOut → List (Nat × List AV) → Prop} (h : ACalls P f (us'.map (TV.to E.toEnc ρ)) [] post) (hl : us.length = us'.length) (hr : ∀ (i : Nat) u u', us[i]? = some u → us'[i]? = some u' → LeV (u.to E.toEnc ρ) (u'.to E.toEnc ρ)) : ACalls P f (us.map (TV.to E.toEnc ρ)) [] post :=
  h.args (by simpa using hl) fun i u u' hu hu' => by
    simp only [List.getElem?_map, Option.map_eq_some_iff] at hu hu'
    obtain ⟨v, hv, rfl⟩ := hu
    obtain ⟨v', hv', rfl⟩ := hu'
    exact hr i v v' hv hv'
/-- The same, argument by argument. -/
def ArgsLe (E : Env) (ρ : Nat → Nat) : List (TV E.T) → List (TV E.T) → Prop
  | [], [] => True
  | u :: us, u' :: us' => LeV (u.to E.toEnc ρ) (u'.to E.toEnc ρ) ∧ ArgsLe E ρ us us'
  | _, _ => False
theorem ArgsLe.get {E : Env} {ρ : Nat → Nat} : ∀ {us us' : List (TV E.T)}, ArgsLe E ρ us us' → us.length = us'.length ∧ ∀ (i : Nat) u u', us[i]? = some u → us'[i]? = some u' → LeV (u.to E.toEnc ρ) (u'.to E.toEnc ρ)
  | [], [], _ => ⟨rfl, fun i u u' h => by simp at h⟩
  | u :: us, u' :: us', h => by
    obtain ⟨h1, h2⟩ := ArgsLe.get h.2
    refine ⟨by simp [h1], fun i v v' hv hv' => ?_⟩
    cases i with
    | zero => simp at hv hv'; subst hv hv'; exact h.1
    | succ i => exact h2 i v v' (by simpa using hv) (by simpa using hv')
  | [], _ :: _, h => h.elim
  | _ :: _, [], h => h.elim
theorem acalls_le {P : Program} {E : Env} {f : FuncId} {us us' : List (TV E.T)} {ρ : Nat → Nat} {post : AOut → List (Nat × List AV) → Prop} (hr : ArgsLe E ρ us us') (h : ACalls P f (us'.map (TV.to E.toEnc ρ)) [] post) : ACalls P f (us.map (TV.to E.toEnc ρ)) [] post := acalls_args h hr.get.1 hr.get.2
abbrev w64 (n : Int) : Int := IntKind.wrap .i64 n
abbrev b2i (b : UInt8) : Int := ((UInt8.toNat b : Nat) : Int)
end Go.Proofs.Ytgmlkhfjhogdbaa
