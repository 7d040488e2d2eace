/- The layer of abstract values: calls. -/
import Derived.Test.YtophpbihcfdkcaaG10
namespace Go.Proofs.Ytophpbihcfdkcaa
open Go.RowKit P
set_option linter.unusedSimpArgs false
set_option linter.unusedVariables false

inductive AOut where
  | ret (u : AV)
  | pan (x : Value)
def slotsOf : Nat → List AV → List (Nat × AV)
  | _, [] => []
  | k, u :: us => (k, u) :: slotsOf (k + 1) us
theorem look_slotsOf : ∀ (us : List AV) (k t : Nat) (u : AV), look (slotsOf k us) t = some u → k ≤ t ∧ us[t - k]? = some u
  | [], _, _, _, h => by cases h
  | u0 :: us, k, t, u, h => by
    simp only [slotsOf, look_cons] at h
    split at h
    · rename_i e; subst e; cases h; exact ⟨Nat.le_refl _, by simp⟩
    · rename_i e
      obtain ⟨h1, h2⟩ := look_slotsOf us (k + 1) t u h
      refine ⟨by omega, ?_⟩
      rw [show t - k = (t - (k + 1)) + 1 by omega]; simpa using h2
def EndOk (F : Nat → Prop) (X' : GW) (e : Ending) (out : AOut) (H' : List (Nat × List AV)) : Prop :=
  match out with
  | .ret u => ∃ v, e = .returned v ∧ SimE F X' ⟨1, [(0, u)], H', []⟩ #[v]
  | .pan x => e = .panicked [{ v := x, recovered := false }] ∧ SimE F X' ⟨1, [], H', []⟩ #[undef]
/-- The function is there, with a body. -/
def FnOk (P : Program) (f : FuncId) : Prop := ∃ fn, P.funcs[f]? = some fn ∧ (fn.name == "runtime.NumGoroutine") = false ∧ fn.body.isNone = false
/-- The contract of a function: handed what reads as 'us', in memory with the boxes H. -/
def ACalls (P : Program) (f : FuncId) (us : List AV) (H : List (Nat × List AV)) (post : AOut → List (Nat × List AV) → Prop) : Prop :=
  FnOk P f ∧ ∀ F X (vs : Array Value), SimE F X ⟨us.length, slotsOf 0 us, H, []⟩ vs → Calls P f vs X.w fun e w' => ∃ (X' : GW) (out : AOut) (H' : List (Nat × List AV)), X'.w = w' ∧ post out H' ∧ EndOk F X' e out H' ∧ Ext F X X'

section
variable {P : Program} {Q : Exit → AS → Prop} {ks : List It} {T : Tys P} {σ : AS} {t u ty e : TypeId} {x y z : Operand} {pos : String} {af : Array Edge} {g : Option (Nat × Bool)} {F : Nat → Prop} {X : GW}

theorem ACalls.mono {f : FuncId} {us : List AV} {H : List (Nat × List AV)} {post post' : AOut → List (Nat × List AV) → Prop} (h : ACalls P f us H post) (hp : ∀ out H', post out H' → post' out H') : ACalls P f us H post' :=
  ⟨h.1, fun F X vs hs => (h.2 F X vs hs).mono fun _ _ ⟨X', out, H', h1, h2, h3, h4⟩ => ⟨X', out, H', h1, hp _ _ h2, h3, h4⟩⟩

/-- What a function hands back. -/
def resA (rs : List ResultVar) (σ : AS) : Option AV :=
  match rs with
  | [.tmp t] => look σ.t t
  | [.tmp t, .tmp t'] => match look σ.t t, look σ.t t' with | some u, some u' => some (.tu [u.rd, u'.rd]) | _, _ => none
  | [.tmp t, .tmp t', .tmp t''] => match look σ.t t, look σ.t t', look σ.t t'' with | some u, some u', some u'' => some (.tu [u.rd, u'.rd, u''.rd]) | _, _, _ => none
  | [] => some (.tu [])
  | _ => none
def Qret (rs : List ResultVar) (post : AOut → List (Nat × List AV) → Prop) : Exit → AS → Prop
  | .ret, σ | .normal, σ => ∃ u, resA rs σ = some u ∧ post (.ret u) σ.h
  | .panic [⟨v, false, false⟩], σ => post (.pan v) σ.h
  | _, _ => False


/-- Another state over another frame, whose owners are owners here. -/
theorem SimE.other {F' : Nat → Prop} {σ' : AS} {tm tm' : Array Value} (h : SimE F X σ tm) (hsize : tm'.size = σ'.n) (hfb : ∀ b, F' b → b < X.w.heap.size) (hslot : ∀ t u, look σ'.t t = some u → Rel X u (tm'.getD t undef))
    (hbox : ∀ k cs, look σ'.h k = some cs → look σ.h k = some cs ∧ ¬ F' k) (he : σ'.e = []) (f : Root → Root)
    (hf : ∀ r sz l, σ'.own r = some (sz, l) → (rootV tm' X.w r = some (.slice none 0 0) ∧ l = []) ∨ (σ.own (f r) = some (sz, l) ∧ rootV tm' X.w r = rootV tm X.w (f r) ∧ ∀ a n c, rootV tm' X.w r = some (.slice (some a) n c) → ¬ F' a.block))
    (hinj : ∀ r r' a n c a' n' c', r ≠ r' → σ'.own r ≠ none → σ'.own r' ≠ none → rootV tm' X.w r = some (.slice (some a) n c) → rootV tm' X.w r' = some (.slice (some a') n' c') → f r ≠ f r') : SimE F' X σ' tm' := by
  refine ⟨⟨hsize, h.gb, hfb, hslot, fun k cs hk => ?_, (by rw [he]; intro x r hx; cases hx), fun r sz l ho => ?_, fun r r' sz l sz' l' a n c a' n' c' hne ho ho' hr hr' => ?_⟩, (by rw [he]; intro p hp; cases hp)⟩
  · obtain ⟨h1, h2⟩ := hbox k cs hk
    exact (h.box k cs h1).keep ⟨rfl, rfl, h2⟩ (Pres.refl X)
  · rcases hf r sz l ho with ⟨h1, h2⟩ | ⟨h1, h2, h3⟩
    · exact ⟨_, h1, .inl ⟨rfl, h2⟩⟩
    · obtain ⟨v, k1, k2⟩ := h.own _ _ _ h1
      rw [k1] at h2
      exact ⟨v, h2, k2.keep fun b n c hv => ⟨rfl, rfl, h3 ⟨b, 0, none⟩ n c (by rw [h2, hv])⟩⟩
  · rcases hf r sz l ho with ⟨h1, h2⟩ | ⟨h1, h2, h3⟩
    · rw [h1] at hr; cases hr
    · rcases hf r' sz' l' ho' with ⟨k1, k2⟩ | ⟨k1, k2, k3⟩
      · rw [k1] at hr'; cases hr'
      · have hi := hinj r r' a n c a' n' c' hne (by rw [ho]; simp) (by rw [ho']; simp) hr hr'
        rw [h2] at hr; rw [k2] at hr'
        exact h.disj (f r) (f r') sz l sz' l' a n c a' n' c' hi h1 k1 hr hr'

theorem own_s_look {t sz : Nat} {l : List (List AV)} (h : σ.own (.s t) = some (sz, l)) : look σ.t t = some (.sl true sz l) := own1_sl h
theorem look_slots_lt {us : List AV} {t : Nat} {u : AV} (h : look (slotsOf 0 us) t = some u) : t < us.length := by
  obtain ⟨_, h2⟩ := look_slotsOf us 0 t u h
  have := (List.getElem?_eq_some_iff.1 h2).1
  omega
theorem SimE.enter {us : List AV} {H : List (Nat × List AV)} {vs : Array Value} {n : Nat} (h : SimE F X ⟨us.length, slotsOf 0 us, H, []⟩ vs) (hn : us.length ≤ n) : SimE F X ⟨n, slotsOf 0 us, H, []⟩ (vs ++ Array.replicate (n - vs.size) undef) := by
  have hsz : vs.size = us.length := h.size
  have hget : ∀ t, t < us.length → (vs ++ Array.replicate (n - vs.size) undef).getD t undef = vs.getD t undef := by
    intro t ht
    simp only [Array.getD_eq_getD_getElem?]
    rw [Array.getElem?_append_left (by omega)]
  refine h.other (by simp; omega) h.fb (fun t u hu => ?_) (fun k cs hk => ⟨hk, (h.box k cs hk).nF⟩) rfl id (fun r sz l ho => .inr ⟨ho, ?_, ?_⟩) (fun _ _ _ _ _ _ _ _ hne _ _ _ _ => hne)
  · rw [hget t (look_slots_lt hu)]; exact h.slot t u hu
  · cases r with
    | c k o => rfl
    | s t => simp only [id, rootV]; rw [hget t (look_slots_lt (own_s_look ho))]
  · intro a n' c hr
    have hr2 : rootV vs X.w r = some (.slice (some a) n' c) := by
      cases r with
      | c k o => exact hr
      | s t => simp only [rootV] at hr ⊢; rw [hget t (look_slots_lt (own_s_look ho))] at hr; exact hr
    obtain ⟨v, k1, k2⟩ := h.own r sz l ho
    rw [hr2] at k1; cases k1
    rcases k2 with ⟨k2, _⟩ | ⟨b, cap, cs, e, fr, k2, _, _, _, _, k3⟩
    · cases k2
    · cases k2; exact k3

theorem own_one {u : AV} {H : List (Nat × List AV)} {t sz : Nat} {l : List (List AV)} (h : AS.own ⟨1, [(0, u)], H, []⟩ (.s t) = some (sz, l)) : t = 0 ∧ own1 (some u) = some (sz, l) := by
  simp only [AS.own, look_cons, look_nil] at h
  split at h
  · rename_i e; exact ⟨e, h⟩
  · cases h
/-- The state of what is handed back. -/
theorem SimE.result {tm : Array Value} {u : AV} {v : Value} (h : SimE F X σ tm) (hr : Rel X u v) (ho : ∀ sz l, own1 (some u) = some (sz, l) → ∃ t, σ.own (.s t) = some (sz, l) ∧ tm.getD t undef = v) : SimE F X ⟨1, [(0, u)], σ.h, []⟩ #[v] := by
  have hno : ∀ r sz l a n c, σ.own r = some (sz, l) → rootV tm X.w r = some (.slice (some a) n c) → ¬ F a.block := by
    intro r sz l a n c ho hr2
    obtain ⟨w, k1, k2⟩ := h.own r sz l ho
    rw [hr2] at k1; cases k1
    rcases k2 with ⟨k2, _⟩ | ⟨b, cap, cs, e, fr, k2, _, _, _, _, k3⟩
    · cases k2
    · cases k2; exact k3
  by_cases hu : ∃ sz l, own1 (some u) = some (sz, l)
  · obtain ⟨sz0, l0, hu0⟩ := hu
    obtain ⟨t0, h1, h2⟩ := ho sz0 l0 hu0
    refine h.other rfl h.fb (fun t u' hu' => ?_) (fun k cs hk => ⟨hk, (h.box k cs hk).nF⟩) rfl (fun r => match r with | .s _ => .s t0 | r => r) (fun r sz l hr2 => .inr ?_) (fun r r' _ _ _ _ _ _ hne ha hb _ _ => ?_)
    · simp only [look_cons, look_nil] at hu'
      split at hu'
      · rename_i e; subst e; cases hu'; exact hr
      · cases hu'
    · cases r with
      | c k o => exact ⟨hr2, rfl, fun a n c hv => hno (.c k o) sz l a n c hr2 hv⟩
      | s t =>
        obtain ⟨rfl, h3⟩ := own_one hr2
        rw [hu0] at h3; cases h3
        refine ⟨h1, by simp only [rootV]; rw [h2]; rfl, fun a n c hv => hno (.s t0) sz0 l0 a n c h1 ?_⟩
        simp only [rootV] at hv ⊢; rw [h2]; exact hv
    · cases r with
      | s t =>
        cases r' with
        | s t' =>
          obtain ⟨p, hp⟩ := Option.ne_none_iff_exists'.1 ha
          obtain ⟨p', hp'⟩ := Option.ne_none_iff_exists'.1 hb
          obtain ⟨rfl, _⟩ := own_one (sz := p.1) (l := p.2) hp
          obtain ⟨rfl, _⟩ := own_one (sz := p'.1) (l := p'.2) hp'
          exact absurd rfl hne
        | c k o => simp
      | c k o =>
        cases r' with
        | s t' => simp
        | c k' o' => exact hne
  · refine h.other rfl h.fb (fun t u' hu' => ?_) (fun k cs hk => ⟨hk, (h.box k cs hk).nF⟩) rfl id (fun r sz l hr2 => .inr ?_) (fun _ _ _ _ _ _ _ _ hne _ _ _ _ => hne)
    · simp only [look_cons, look_nil] at hu'
      split at hu'
      · rename_i e; subst e; cases hu'; exact hr
      · cases hu'
    · cases r with
      | c k o => exact ⟨hr2, rfl, fun a n c hv => hno (.c k o) sz l a n c hr2 hv⟩
      | s t =>
        obtain ⟨rfl, h3⟩ := own_one hr2
        exact absurd ⟨sz, l, h3⟩ hu

theorem run_results_1 {fn : Func} {t : Nat} {tm : Array Value} {w : World} (h : fn.results.toList = [.tmp t]) : (results fn tm).run P w = .ok (tm.getD t undef) w := by
  have : fn.results = #[.tmp t] := by rw [← Array.toArray_toList (xs := fn.results), h]
  simp [results, this]
theorem run_results_2 {fn : Func} {t t' : Nat} {tm : Array Value} {w : World} (h : fn.results.toList = [.tmp t, .tmp t']) : (results fn tm).run P w = .ok (.tuple #[tm.getD t undef, tm.getD t' undef]) w := by
  have : fn.results = #[.tmp t, .tmp t'] := by rw [← Array.toArray_toList (xs := fn.results), h]
  simp [results, this]
theorem run_results_3 {fn : Func} {t t' t'' : Nat} {tm : Array Value} {w : World} (h : fn.results.toList = [.tmp t, .tmp t', .tmp t'']) : (results fn tm).run P w = .ok (.tuple #[tm.getD t undef, tm.getD t' undef, tm.getD t'' undef]) w := by
  have : fn.results = #[.tmp t, .tmp t', .tmp t''] := by rw [← Array.toArray_toList (xs := fn.results), h]
  simp [results, this]
theorem run_results_0 {fn : Func} {tm : Array Value} {w : World} (h : fn.results.toList = []) : (results fn tm).run P w = .ok (.tuple #[]) w := by
  have : fn.results = #[] := by rw [← Array.toArray_toList (xs := fn.results), h]
  simp [results, this]

theorem resA_ok {fn : Func} {tm : Array Value} {u : AV} (h : SimE F X σ tm) (hr : resA fn.results.toList σ = some u) : ∃ v, (results fn tm).run P X.w = .ok v X.w ∧ SimE F X ⟨1, [(0, u)], σ.h, []⟩ #[v] := by
  unfold resA at hr
  split at hr
  · rename_i t hrs
    refine ⟨_, run_results_1 hrs, h.result (h.slot t u hr) fun sz l ho => ⟨t, ?_, rfl⟩⟩
    simp only [AS.own]; rw [hr]; exact ho
  · rename_i t t' hrs
    split at hr
    · rename_i u1 u2 h1 h2
      cases hr
      exact ⟨_, run_results_2 hrs, h.result (.tu _ _ rfl (fun i u v hu hv => by
        match i with
        | 0 => simp at hu hv; subst hu; rw [← hv, ← Array.getD_eq_getD_getElem?]; exact (h.slot t u1 h1).rd
        | 1 => simp at hu hv; subst hu; rw [← hv, ← Array.getD_eq_getD_getElem?]; exact (h.slot t' u2 h2).rd
        | i + 2 => simp at hu)) fun sz l ho => by cases ho⟩
    · cases hr
  · rename_i t t' t'' hrs
    split at hr
    · rename_i u1 u2 u3 h1 h2 h3
      cases hr
      exact ⟨_, run_results_3 hrs, h.result (.tu _ _ rfl (fun i u v hu hv => by
        match i with
        | 0 => simp at hu hv; subst hu; rw [← hv, ← Array.getD_eq_getD_getElem?]; exact (h.slot t u1 h1).rd
        | 1 => simp at hu hv; subst hu; rw [← hv, ← Array.getD_eq_getD_getElem?]; exact (h.slot t' u2 h2).rd
        | 2 => simp at hu hv; subst hu; rw [← hv, ← Array.getD_eq_getD_getElem?]; exact (h.slot t'' u3 h3).rd
        | i + 3 => simp at hu)) fun sz l ho => by cases ho⟩
    · cases hr
  · rename_i hrs
    cases hr
    exact ⟨_, run_results_0 hrs, h.result (.tu _ _ rfl (fun i u v hu hv => by simp at hu)) fun sz l ho => by cases ho⟩
  · cases hr

theorem qret_pan {rs : List ResultVar} {post : AOut → List (Nat × List AV) → Prop} : ∀ {chain : List PanicEntry}, Qret rs post (.panic chain) σ → ∃ v, chain = [⟨v, false, false⟩] ∧ post (.pan v) σ.h
  | [⟨v, false, false⟩], h => ⟨v, rfl, h⟩
  | [], h => h.elim
  | [⟨_, true, _⟩], h => h.elim
  | [⟨_, false, true⟩], h => h.elim
  | ⟨_, true, _⟩ :: _ :: _, h => h.elim
  | ⟨_, false, true⟩ :: _ :: _, h => h.elim
  | ⟨_, false, false⟩ :: _ :: _, h => h.elim
/-- A function's contract out of its body's walk. -/
theorem acalls_body {f : FuncId} {fn : Func} {c : Code} {us : List AV} {H : List (Nat × List AV)} {post : AOut → List (Nat × List AV) → Prop} (hf : P.funcs[f]? = some fn) (hn : (fn.name == "runtime.NumGoroutine") = false) (hb : fn.body = some c) (hus : Nat.ble us.length fn.ntmps = true)
    (h : ARun P (Qret fn.results.toList post) [.c c] ⟨fn.ntmps, slotsOf 0 us, H, []⟩) : ACalls P f us H post := by
  refine ⟨⟨fn, hf, hn, by rw [hb]; rfl⟩, fun F X vs hs => calls_of_wp hf hb ?_⟩
  have hle := Nat.le_of_ble_eq_true hus
  have h2 := h F X { tmps := vs ++ Array.replicate (fn.ntmps - vs.size) undef, defers := [] } (hs.enter hle) rfl
  refine wp_mono h2 fun e a' w' hp => ?_
  obtain ⟨p1, X', σ', p2, p3, p4, p5⟩ := hp
  subst p2
  have fin : ∀ (u : AV), resA fn.results.toList σ' = some u → post (.ret u) σ'.h → a'.defers = [] ∧ ∃ v, (results fn a'.tmps).run P X'.w = .ok v X'.w ∧ (∃ (X'' : GW) (out : AOut) (H' : List (Nat × List AV)), X''.w = X'.w ∧ post out H' ∧ EndOk F X'' (.returned v) out H' ∧ Ext F X X'') := by
    intro u hu hpost
    obtain ⟨v, k1, k2⟩ := resA_ok (P := P) (fn := fn) p4 hu
    exact ⟨p1, v, k1, X', .ret u, σ'.h, rfl, hpost, ⟨v, rfl, k2⟩, p5⟩
  cases e with
  | normal =>
    simp only [Stk, Qret] at p3
    obtain ⟨u, h3, h4⟩ := p3
    exact fin u h3 h4
  | ret =>
    simp only [Stk, Qret] at p3
    obtain ⟨u, h3, h4⟩ := p3
    exact fin u h3 h4
  | panic chain =>
    obtain ⟨v, rfl, p3⟩ := qret_pan p3
    · refine ⟨p1, X', .pan v, σ'.h, rfl, p3, ⟨rfl, ?_⟩, p5⟩
      refine p4.other rfl p4.fb (fun t u hu => by cases hu) (fun k cs hk => ⟨hk, (p4.box k cs hk).nF⟩) rfl id (fun r sz l ho => .inr ?_) (fun _ _ _ _ _ _ _ _ hne _ _ _ _ => hne)
      cases r with
      | s t => simp only [AS.own, look_nil, own1] at ho; cases ho
      | c k o =>
        refine ⟨ho, rfl, fun a n c hr => ?_⟩
        obtain ⟨v', k1, k2⟩ := p4.own (.c k o) sz l ho
        have hr' : rootV a'.tmps X'.w (.c k o) = some (.slice (some a) n c) := hr
        rw [hr'] at k1; cases k1
        rcases k2 with ⟨k2, _⟩ | ⟨b, cap, cs, e, fr, k2, _, _, _, _, k3⟩
        · cases k2
        · cases k2; exact k3
  | exit id => exact p3.elim
  | goto l => exact p3.elim
  | outgrown => exact p3.elim

end
end Go.Proofs.Ytophpbihcfdkcaa
