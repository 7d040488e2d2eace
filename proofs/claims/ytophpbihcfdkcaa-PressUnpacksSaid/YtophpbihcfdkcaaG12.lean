/- The layer of abstract values: the law of a call. -/
import Derived.Test.YtophpbihcfdkcaaG11
import Derived.Conc.EntryLaws
namespace Go.Proofs.Ytophpbihcfdkcaa
open Go.RowKit P
set_option linter.unusedSimpArgs false
set_option linter.unusedVariables false
section
variable {P : Program} {Q : Exit → AS → Prop} {ks : List It} {T : Tys P} {σ : AS} {ty : TypeId} {pos : String} {af : Array Edge} {g : Option (Nat × Bool)} {F : Nat → Prop} {X : GW}

/-- An argument as the callee reads it, and the owner that goes with it. -/
inductive PArg (σ : AS) : Operand → AV → Option Root → Prop
  | rd {x : Operand} {u u' : AV} (h : opV σ x = some u) (hl : Le1 u u') (ho : own1 (some u') = none) : PArg σ x u' none
  | nil {x : Operand} {sz : Nat} (h : opV σ x = some (.v (.slice none 0 0))) : PArg σ x (.sl true sz []) none
  | own {s : Nat} {r : Root} {sz : Nat} {l : List (List AV)} (h : rootOf σ s = some r) (ho : σ.own r = some (sz, l)) : PArg σ (.tmp s) (.sl true sz l) (some r)
inductive PArgs (σ : AS) : List Operand → List AV → List (Option Root) → Prop
  | nil : PArgs σ [] [] []
  | cons {x : Operand} {u : AV} {ρ : Option Root} {xs : List Operand} {us : List AV} {ρs : List (Option Root)} (h : PArg σ x u ρ) (hs : PArgs σ xs us ρs) : PArgs σ (x :: xs) (u :: us) (ρ :: ρs)
theorem PArgs.len {xs us ρs} (h : PArgs σ xs us ρs) : us.length = xs.length ∧ ρs.length = xs.length := by
  induction h with
  | nil => exact ⟨rfl, rfl⟩
  | cons _ _ ih => simp [ih.1, ih.2]
theorem PArgs.get {xs us ρs} (h : PArgs σ xs us ρs) : ∀ (i : Nat) u, us[i]? = some u → ∃ x ρ, xs[i]? = some x ∧ ρs[i]? = some ρ ∧ PArg σ x u ρ := by
  induction h with
  | nil => intro i u h; simp at h
  | cons h _ ih =>
    intro i u hu
    cases i with
    | zero => simp at hu; subst hu; exact ⟨_, _, rfl, rfl, h⟩
    | succ i => simpa using ih i u (by simpa using hu)

theorem opV_rel' {a : Act} {x : Operand} {u : AV} (hs : SimE F X σ a.tmps) (h : opV σ x = some u) : Rel X u (a.eval x) := by
  cases x with
  | tmp t => exact hs.slot t u h
  | const v => cases h; exact cst_rel X v
  | func f => cases h; exact .v _
  | global g => cases h; exact .v _
theorem PArg.rel {a : Act} {x : Operand} {u : AV} {ρ : Option Root} (hs : SimE F X σ a.tmps) (h : PArg σ x u ρ) : Rel X u (a.eval x) := by
  cases h with
  | rd h hl ho => exact hl.rel (opV_rel' hs h)
  | nil h => rw [rel_v (opV_rel' hs h)]; exact .nil _ _
  | own h ho => exact own_rel hs ho (rootOf_val hs h)

/-- The passed owners fall to readers. -/
def layAll : List (Option Root) → AS → AS
  | [], σ => σ
  | none :: ρs, σ => layAll ρs σ
  | some r :: ρs, σ => layAll ρs (σ.lay r)
theorem SimE.layAll {tm : Array Value} : ∀ (ρs : List (Option Root)) (σ : AS), SimE F X σ tm → SimE F X (layAll ρs σ) tm
  | [], _, h => h
  | none :: ρs, σ, h => SimE.layAll ρs σ h
  | some r :: ρs, σ, h => SimE.layAll ρs _ (h.lay r)
theorem own_lay {σ : AS} {r r' : Root} {q : Nat × List (List AV)} (h : (σ.lay r).own r' = some q) : r' ≠ r ∧ σ.own r' = some q := by
  by_cases e : r' = r
  · subst e; rw [lay_own_self] at h; cases h
  · rw [lay_own_ne e] at h; exact ⟨e, h⟩
theorem own_layAll : ∀ (ρs : List (Option Root)) (σ : AS) {r' : Root} {q : Nat × List (List AV)}, (layAll ρs σ).own r' = some q → σ.own r' = some q ∧ ∀ r, some r ∈ ρs → r' ≠ r
  | [], _, _, _, h => ⟨h, by simp⟩
  | none :: ρs, σ, r', q, h => by
    obtain ⟨h1, h2⟩ := own_layAll ρs σ h
    exact ⟨h1, fun r hr => h2 r (by simpa using hr)⟩
  | some r0 :: ρs, σ, r', q, h => by
    obtain ⟨h1, h2⟩ := own_layAll ρs _ h
    obtain ⟨k1, k2⟩ := own_lay h1
    refine ⟨k2, fun r hr => ?_⟩
    rcases List.mem_cons.1 hr with e | e
    · cases e; exact k1
    · exact h2 r e
theorem lay_n (σ : AS) (r : Root) : (σ.lay r).n = σ.n := by cases r <;> rfl
theorem layAll_n : ∀ (ρs : List (Option Root)) (σ : AS), (layAll ρs σ).n = σ.n
  | [], _ => rfl
  | none :: ρs, σ => layAll_n ρs σ
  | some r :: ρs, σ => by simp only [layAll]; rw [layAll_n, lay_n]

/-- What is foreign stays, and all of σ is foreign to what turned. -/
theorem SimE.across {F F1 : Nat → Prop} {X X' : GW} {tm : Array Value} (h : SimE F X σ tm) (hx : Ext F1 X X') (hg : ∀ b n, X'.g b = some n → b < X'.w.heap.size) (hown : ∀ r sz l a n c, σ.own r = some (sz, l) → rootV tm X.w r = some (.slice (some a) n c) → F1 a.block) (hbox : ∀ k cs, look σ.h k = some cs → F1 k) (hal : ∀ p ∈ σ.e, ∀ b o, p.2 ≠ .c b o) : SimE F X' σ tm := by
  have hcs : ∀ k o sz l, σ.own (.c k o) = some (sz, l) → F1 k := fun k o sz l ho => by
    obtain ⟨cs, hc, _⟩ := own_c_box ho
    exact hbox k cs hc
  have hroot : ∀ r sz l, σ.own r = some (sz, l) → rootV tm X'.w r = rootV tm X.w r := by
    intro r sz l ho
    cases r with
    | s t => rfl
    | c k o => simp only [rootV]; rw [cell_of_heap (hx.frame k (hcs k o sz l ho)).1]
  have heq : EqsOk σ.e tm X'.w := by
    intro p hp
    have h1 := h.eqm p hp
    cases hr : p.2 with
    | s t => rw [hr] at h1; exact h1
    | c k o => exact absurd hr (hal p hp k o)
  refine ⟨⟨h.size, hg, fun b hb => Nat.lt_of_lt_of_le (h.fb b hb) hx.size, fun t u hu => (h.slot t u hu).mono hx.pres, fun k cs hk => ?_, heq.look, fun r sz l ho => ?_, fun r r' sz l sz' l' a n c a' n' c' hne ho ho' hr hr' => ?_⟩, heq⟩
  · have := hx.frame k (hbox k cs hk)
    have hb := h.box k cs hk
    exact hb.keep ⟨this.1, this.2, hb.nF⟩ hx.pres
  · obtain ⟨v, k1, k2⟩ := h.own r sz l ho
    refine ⟨v, by rw [hroot r sz l ho]; exact k1, k2.keep fun b n c hv => ?_⟩
    have h2 := hown r sz l ⟨b, 0, none⟩ n c ho (by rw [k1, hv])
    exact ⟨(hx.frame b h2).1, (hx.frame b h2).2, (k2.lt hv).2⟩
  · rw [hroot r sz l ho] at hr
    rw [hroot r' sz' l' ho'] at hr'
    exact h.disj r r' sz l sz' l' a n c a' n' c' hne ho ho' hr hr'

theorem look_append {α : Type} : ∀ (a b : List (Nat × α)) (k : Nat), look (a ++ b) k = match look a k with | some x => some x | none => look b k
  | [], b, k => rfl
  | (k0, x) :: r, b, k => by
    simp only [List.cons_append, look_cons]
    split
    · rfl
    · exact look_append r b k

theorem SimE.own_nF {tm : Array Value} (h : SimE F X σ tm) {r sz l a n c} (ho : σ.own r = some (sz, l)) (hr : rootV tm X.w r = some (.slice (some a) n c)) : ¬ F a.block ∧ (∃ n, X.g a.block = some n) ∧ a.block < X.w.heap.size := by
  obtain ⟨w, k1, k2⟩ := h.own r sz l ho
  rw [hr] at k1; cases k1
  rcases k2 with ⟨k2, _⟩ | ⟨b, cap, cs, e, fr, k2, k4, k5, _, _, k3⟩
  · cases k2
  · cases k2; exact ⟨k3, ⟨_, k4⟩, (Array.getElem?_eq_some_iff.1 k5).1⟩

theorem own_join {n : Nat} {t : List (Nat × AV)} {H1 H2 : List (Nat × List AV)} {e : List (Nat × Root)} {r : Root} {q : Nat × List (List AV)} (h : AS.own ⟨n, t, H1 ++ H2, e⟩ r = some q) : AS.own ⟨n, t, H2, e⟩ r = some q ∨ ∃ k o, r = .c k o ∧ AS.own ⟨1, [], H1, []⟩ r = some q := by
  cases r with
  | s t0 => exact .inl h
  | c k o =>
    simp only [AS.own, look_append] at h ⊢
    cases hl : look H1 k with
    | none => rw [hl] at h; exact .inl h
    | some cs => rw [hl] at h; exact .inr ⟨k, o, rfl, by simpa using h⟩

/-- A callee's boxes and its caller's. -/
theorem SimE.join {F F1 : Nat → Prop} {tm : Array Value} {n : Nat} {t : List (Nat × AV)} {e : List (Nat × Root)} {Hr H' : List (Nat × List AV)} {u : AV} {v : Value} (h : SimE F X ⟨n, t, Hr, e⟩ tm) (h' : SimE F1 X ⟨1, [(0, u)], H', []⟩ #[v]) (hF : ∀ b, F b → F1 b)
    (hown : ∀ r sz l a n' c, AS.own ⟨n, t, Hr, e⟩ r = some (sz, l) → rootV tm X.w r = some (.slice (some a) n' c) → F1 a.block) (hbox : ∀ k cs, look Hr k = some cs → F1 k) : SimE F X ⟨n, t, H' ++ Hr, e⟩ tm ∧
    (∀ sz l, own1 (some u) = some (sz, l) → OwnOk F X sz l v) ∧
    (∀ r sz l sz' l' a n' c a' n'' c', AS.own ⟨n, t, H' ++ Hr, e⟩ r = some (sz, l) → own1 (some u) = some (sz', l') → rootV tm X.w r = some (.slice (some a) n' c) → v = .slice (some a') n'' c' → a.block ≠ a'.block) := by
  have hH' : ∀ k o sz l, AS.own ⟨1, [], H', []⟩ (.c k o) = some (sz, l) → AS.own ⟨1, [(0, u)], H', []⟩ (.c k o) = some (sz, l) := fun _ _ _ _ h => h
  have hu0 : ∀ sz l, own1 (some u) = some (sz, l) → AS.own ⟨1, [(0, u)], H', []⟩ (.s 0) = some (sz, l) := fun sz l h => by simp only [AS.own, look_cons]; exact h
  have toF : ∀ {sz l y}, OwnOk F1 X sz l y → OwnOk F X sz l y := fun hk => hk.keep fun b n c hv => ⟨rfl, rfl, fun hb => (hk.lt hv).2 (hF b hb)⟩
  refine ⟨⟨⟨h.size, h.gb, h.fb, h.slot, fun k cs hk => ?_, h.eqs, fun r sz l ho => ?_, fun r r' sz l sz' l' a n c a' n' c' hne ho ho' hr hr' => ?_⟩, h.eqm⟩, fun sz l hu => ?_, fun r sz l sz' l' a n' c a' n'' c' ho hu hr hv => ?_⟩
  · simp only at hk
    rw [look_append] at hk
    cases hl : look H' k with
    | none => rw [hl] at hk; exact h.box k cs hk
    | some cs' =>
      rw [hl] at hk; cases hk
      have hb := h'.box k cs hl
      exact hb.keep ⟨rfl, rfl, fun hb2 => hb.nF (hF k hb2)⟩ (Pres.refl X)
  · rcases own_join ho with h1 | ⟨k, o, rfl, h1⟩
    · exact h.own r sz l h1
    · obtain ⟨y, k1, k2⟩ := h'.own (.c k o) sz l (hH' k o sz l h1)
      exact ⟨y, k1, toF k2⟩
  · rcases own_join ho with h1 | ⟨k, o, rfl, h1⟩
    · rcases own_join ho' with h2 | ⟨k', o', rfl, h2⟩
      · exact h.disj r r' sz l sz' l' a n c a' n' c' hne h1 h2 hr hr'
      · intro e1
        have := hown r sz l a n c h1 hr
        exact (h'.own_nF (hH' k' o' sz' l' h2) hr').1 (by rw [← e1]; exact this)
    · rcases own_join ho' with h2 | ⟨k', o', rfl, h2⟩
      · intro e1
        have := hown r' sz' l' a' n' c' h2 hr'
        exact (h'.own_nF (hH' k o sz l h1) hr).1 (by rw [e1]; exact this)
      · exact h'.disj (.c k o) (.c k' o') sz l sz' l' a n c a' n' c' hne (hH' k o sz l h1) (hH' k' o' sz' l' h2) hr hr'
  · obtain ⟨y, k1, k2⟩ := h'.own (.s 0) sz l (hu0 sz l hu)
    simp only [rootV] at k1
    cases k1
    exact toF k2
  · have hv0 : rootV #[v] X.w (.s 0) = some (.slice (some a') n'' c') := by simp only [rootV]; rw [← hv]; rfl
    rcases own_join ho with h1 | ⟨k, o, rfl, h1⟩
    · intro e1
      have := hown r sz l a n' c h1 hr
      exact (h'.own_nF (hu0 sz' l' hu) hv0).1 (by rw [← e1]; exact this)
    · exact h'.disj (.c k o) (.s 0) sz l sz' l' a n' c a' n'' c' (by simp) (hH' k o sz l h1) (hu0 sz' l' hu) hr hv0

def callSt (σ : AS) (ρs : List (Option Root)) (Hr H' : List (Nat × List AV)) : AS := { n := σ.n, t := (layAll ρs σ).t, h := H' ++ Hr, e := (layAll ρs σ).dropC.e }
theorem run_enter {f : FuncId} {args : Array Value} {w : World} (h : FnOk P f) : (callFunc f args).run P w = .ok (.enter f args) w := by
  obtain ⟨fn, h1, h2, h3⟩ := h
  have hb : ¬ fn.body = none := by intro e; rw [e] at h3; cases h3
  have hn : ¬ fn.name = "runtime.NumGoroutine" := by simpa using h2
  simp [callFunc, program, Sem.run, h1, hn, hb]
/-- Does an owner go to the callee? -/
def Gone (ρs : List (Option Root)) (Hp : List (Nat × List AV)) (r : Root) : Prop := some r ∈ ρs ∨ ∃ k o, r = .c k o ∧ look Hp k ≠ none
theorem look_lay_h {σ : AS} {r : Root} {k : Nat} {cs : List AV} (h : look (σ.lay r).h k = some cs) : ∃ cs0, look σ.h k = some cs0 := by
  cases r with
  | s t => exact ⟨cs, h⟩
  | c k0 o =>
    simp only [AS.lay] at h
    cases hl : look σ.h k0 with
    | none => rw [hl] at h; exact ⟨cs, h⟩
    | some cs0 =>
      rw [hl] at h
      simp only [look_cons] at h
      split at h
      · rename_i e; subst e; exact ⟨cs0, hl⟩
      · exact ⟨cs, h⟩
theorem look_layAll_h : ∀ (ρs : List (Option Root)) (σ : AS) {k : Nat} {cs : List AV}, look (layAll ρs σ).h k = some cs → ∃ cs0, look σ.h k = some cs0
  | [], _, _, _, h => ⟨_, h⟩
  | none :: ρs, σ, _, _, h => look_layAll_h ρs σ h
  | some r :: ρs, σ, _, _, h => by
    obtain ⟨c1, h1⟩ := look_layAll_h ρs _ h
    exact look_lay_h h1
/-- A value as the callee reads it, and the owner that goes with it. -/
inductive PVal (σ : AS) (X : GW) (tm : Array Value) : Value → AV → Option Root → Prop
  | rd {v : Value} {u : AV} (h : Rel X u v) (ho : own1 (some u) = none) : PVal σ X tm v u none
  | nil {sz : Nat} : PVal σ X tm (.slice none 0 0) (.sl true sz []) none
  | own {v : Value} {r : Root} {sz : Nat} {l : List (List AV)} (h : rootV tm X.w r = some v) (ho : σ.own r = some (sz, l)) : PVal σ X tm v (.sl true sz l) (some r)
theorem PArg.val {a : Act} {x : Operand} {u : AV} {ρ : Option Root} (hs : SimE F X σ a.tmps) (h : PArg σ x u ρ) : PVal σ X a.tmps (a.eval x) u ρ := by
  cases h with
  | rd h hl ho => exact .rd (hl.rel (opV_rel' hs h)) ho
  | nil h => rw [rel_v (opV_rel' hs h)]; exact .nil
  | own h ho => exact .own (rootOf_val hs h) ho
theorem PVal.rel {tm : Array Value} {v : Value} {u : AV} {ρ : Option Root} (hs : SimE F X σ tm) (h : PVal σ X tm v u ρ) : Rel X u v := by
  cases h with
  | rd h ho => exact h
  | nil => exact .nil _ _
  | own h ho => exact own_rel hs ho h
theorem call_core {f : FuncId} {tm : Array Value} {vs : Array Value} {d : Nat} {us : List AV} {ρs : List (Option Root)} {Hp Hr : List (Nat × List AV)} {post : AOut → List (Nat × List AV) → Prop} (hs : SimE F X σ tm) (hc : ACalls P f us Hp post) (hvsz : vs.size = us.length) (ha : ∀ (i : Nat) u, us[i]? = some u → ∃ ρ, ρs[i]? = some ρ ∧ PVal σ X tm (vs.getD i undef) u ρ)
    (hnd : ∀ (i j : Nat) r, ρs[i]? = some (some r) → ρs[j]? = some (some r) → i = j) (hroot : ∀ k o, some (Root.c k o) ∈ ρs → look Hp k = none) (hHp : ∀ k cs, look Hp k = some cs → look σ.h k = some cs) (hHr : ∀ k cs, look Hr k = some cs → look (layAll ρs σ).h k = some cs ∧ look Hp k = none)
    (hd : d < σ.n) : Calls P f vs X.w fun e w' => ∃ (X' : GW) (out : AOut) (H' : List (Nat × List AV)), X'.w = w' ∧ post out H' ∧ Ext F X X' ∧ SimE F X' (callSt σ ρs Hr H') tm ∧ match out with
      | .ret u => ∃ v, e = .returned v ∧ SimE F X' ((callSt σ ρs Hr H').put d u) (tm.setIfInBounds d v)
      | .pan x => e = .panicked [{ v := x, recovered := false }] := by
  let τ : AS := ⟨us.length, slotsOf 0 us, Hp, []⟩
  let F1 : Nat → Prop := fun b => b < X.w.heap.size ∧ (∀ r sz l q n c, Gone ρs Hp r → σ.own r = some (sz, l) → rootV tm X.w r = some (.slice (some q) n c) → q.block ≠ b) ∧ look Hp b = none
  have hroot1 : ∀ (i sz : Nat) l, τ.own (.s i) = some (sz, l) → (rootV vs X.w (.s i) = some (.slice none 0 0) ∧ l = []) ∨ ∃ r, ρs[i]? = some (some r) ∧ σ.own r = some (sz, l) ∧ rootV tm X.w r = rootV vs X.w (.s i) := by
    intro i sz l ho
    have h1 := own_s_look ho
    obtain ⟨_, h2⟩ := look_slotsOf us 0 i _ h1
    obtain ⟨ρ, hρ, hp⟩ := ha i _ h2
    have hvv : rootV vs X.w (.s i) = some (vs.getD i undef) := rfl
    generalize vs.getD i undef = v at hp hvv
    cases hp with
    | rd h ho => cases ho
    | nil => left; exact ⟨hvv, rfl⟩
    | own h ho => right; exact ⟨_, hρ, ho, by rw [h, hvv]⟩
  have hcown : ∀ k o sz l, τ.own (.c k o) = some (sz, l) → σ.own (.c k o) = some (sz, l) ∧ Gone ρs Hp (.c k o) := by
    intro k o sz l ho
    obtain ⟨cs, hk, h1⟩ := own_c_box ho
    have hk' : look Hp k = some cs := hk
    refine ⟨by simp only [AS.own]; rw [hHp k cs hk']; exact h1, .inr ⟨k, o, rfl, by rw [hk']; simp⟩⟩
  have hτ : SimE F1 X τ vs := by
    refine hs.other hvsz (fun b hb => hb.1) (fun i u hu => ?_) (fun k cs hk => ⟨hHp k cs hk, fun hb => by have := hb.2.2; rw [show look Hp k = some cs from hk] at this; cases this⟩) rfl (fun r => match r with | .s i => (match ρs[i]? with | some (some r) => r | _ => .s i) | .c k o => .c k o) (fun r sz l ho => ?_) (fun r r' q1 n1 c1 q2 n2 c2 hne h1 h2 hv1 hv2 => ?_)
    · obtain ⟨_, h2⟩ := look_slotsOf us 0 i u hu
      obtain ⟨ρ, hρ, hp⟩ := ha i u h2
      exact hp.rel hs
    · cases r with
      | s i =>
        rcases hroot1 i sz l ho with h1 | ⟨r, h1, h2, h3⟩
        · exact .inl h1
        · right
          simp only [h1]
          refine ⟨h2, h3.symm, fun q n c hq hb => ?_⟩
          rw [← h3] at hq
          exact hb.2.1 r sz l q n c (.inl (List.mem_of_getElem? h1)) h2 hq rfl
      | c k o =>
        right
        obtain ⟨h3, h4⟩ := hcown k o sz l ho
        exact ⟨h3, rfl, fun q n c hq hb => hb.2.1 _ sz l q n c h4 h3 hq rfl⟩
    · obtain ⟨⟨sz1, l1⟩, ho1⟩ := Option.ne_none_iff_exists'.1 h1
      obtain ⟨⟨sz2, l2⟩, ho2⟩ := Option.ne_none_iff_exists'.1 h2
      cases r with
      | s i =>
        rcases hroot1 i sz1 l1 ho1 with ⟨k1, _⟩ | ⟨r1, k1, k2, k3⟩
        · rw [hv1] at k1; cases k1
        · cases r' with
          | s j =>
            rcases hroot1 j sz2 l2 ho2 with ⟨m1, _⟩ | ⟨r2, m1, m2, m3⟩
            · rw [hv2] at m1; cases m1
            · simp only [k1, m1]
              intro e1
              subst e1
              exact hne (by rw [hnd i j r1 k1 m1])
          | c k o =>
            simp only [k1]
            intro e1
            subst e1
            have := hroot k o (List.mem_of_getElem? k1)
            obtain ⟨cs, hk, _⟩ := own_c_box ho2
            rw [show look Hp k = some cs from hk] at this; cases this
      | c k o =>
        cases r' with
        | s j =>
          rcases hroot1 j sz2 l2 ho2 with ⟨m1, _⟩ | ⟨r2, m1, m2, m3⟩
          · rw [hv2] at m1; cases m1
          · simp only [m1]
            intro e1
            subst e1
            have := hroot k o (List.mem_of_getElem? m1)
            obtain ⟨cs, hk, _⟩ := own_c_box ho1
            rw [show look Hp k = some cs from hk] at this; cases this
        | c k' o' => exact hne
  have hF1 : ∀ b, F b → F1 b := by
    intro b hb
    refine ⟨hs.fb b hb, fun r sz l q n c _ ho hr e1 => (hs.own_nF ho hr).1 (by rw [e1]; exact hb), ?_⟩
    cases hl : look Hp b with
    | none => rfl
    | some cs => exact absurd hb (hs.box b cs (hHp b cs hl)).nF
  refine (hc.2 F1 X vs hτ).mono fun e w' ⟨X', out, H', p1, p2, p3, p4⟩ => ?_
  refine ⟨X', out, H', p1, p2, p4.mono hF1, ?_⟩
  -- the caller's rest
  have hl := hs.layAll ρs
  have hr0 : SimE F X ⟨σ.n, (layAll ρs σ).t, Hr, (layAll ρs σ).dropC.e⟩ tm := hl.dropC.sub (layAll_n ρs σ).symm (fun _ _ h => h) (fun k cs hk => (hHr k cs hk).1) (fun _ h => h)
  have hrown : ∀ r sz l, AS.own ⟨σ.n, (layAll ρs σ).t, Hr, (layAll ρs σ).dropC.e⟩ r = some (sz, l) → σ.own r = some (sz, l) ∧ ¬ Gone ρs Hp r := by
    intro r sz l ho
    have h1 : (layAll ρs σ).own r = some (sz, l) := by
      cases r with
      | s t => exact ho
      | c k o =>
        obtain ⟨cs, hk, h2⟩ := own_c_box ho
        simp only [AS.own]; rw [(hHr k cs hk).1]; exact h2
    obtain ⟨h2, h3⟩ := own_layAll ρs σ h1
    refine ⟨h2, fun hg => ?_⟩
    rcases hg with hg | ⟨k, o, rfl, hk⟩
    · exact h3 r hg rfl
    · obtain ⟨cs, hk2, _⟩ := own_c_box ho
      exact hk (hHr k cs hk2).2
  have hrF1 : ∀ r sz l q n c, AS.own ⟨σ.n, (layAll ρs σ).t, Hr, (layAll ρs σ).dropC.e⟩ r = some (sz, l) → rootV tm X.w r = some (.slice (some q) n c) → F1 q.block := by
    intro r sz l q n c ho hr
    obtain ⟨h1, h2⟩ := hrown r sz l ho
    obtain ⟨k1, ⟨m, k2⟩, k3⟩ := hs.own_nF h1 hr
    refine ⟨k3, fun r' sz' l' q' n' c' hg ho' hr' e1 => ?_, ?_⟩
    · exact hs.disj r' r sz' l' sz l q' n' c' q n c (fun e2 => h2 (by rw [← e2]; exact hg)) ho' h1 hr' hr e1
    · cases hlk : look Hp q.block with
      | none => rfl
      | some cs =>
        have := (hs.box _ cs (hHp _ cs hlk)).gn
        rw [k2] at this; cases this
  have hrbox : ∀ k cs, look Hr k = some cs → F1 k := by
    intro k cs hk
    obtain ⟨h1, h2⟩ := hHr k cs hk
    obtain ⟨cs0, h3⟩ := look_layAll_h ρs σ h1
    have hb := hs.box k cs0 h3
    refine ⟨hb.lt, fun r sz l q n c _ ho hr e1 => ?_, h2⟩
    obtain ⟨_, ⟨m, k2⟩, _⟩ := hs.own_nF ho hr
    rw [e1, hb.gn] at k2; cases k2
  have hgb' : ∀ b n, X'.g b = some n → b < X'.w.heap.size := by
    cases out with
    | ret u => obtain ⟨v, _, hv⟩ := p3; exact hv.gb
    | pan x => exact p3.2.gb
  have hacross := hr0.across p4 hgb' hrF1 hrbox (fun p hp b o => dropC_no p hp o)
  have hrF1' : ∀ r sz l q n c, AS.own ⟨σ.n, (layAll ρs σ).t, Hr, (layAll ρs σ).dropC.e⟩ r = some (sz, l) → rootV tm X'.w r = some (.slice (some q) n c) → F1 q.block := by
    intro r sz l q n c ho hr
    refine hrF1 r sz l q n c ho ?_
    cases r with
    | s t => exact hr
    | c k o =>
      obtain ⟨cs, hk, _⟩ := own_c_box ho
      simp only [rootV] at hr ⊢
      rw [← cell_of_heap (p4.frame k (hrbox k cs hk)).1]; exact hr
  cases out with
  | ret u =>
    obtain ⟨v, rfl, hv⟩ := p3
    obtain ⟨j1, j2, j3⟩ := SimE.join hacross hv hF1 hrF1' hrbox
    exact ⟨j1, v, rfl, j1.put' hd (hv.slot 0 u (by simp [look_cons])) j2 j3⟩
  | pan x =>
    have hv0 : SimE F1 X' ⟨1, [(0, .v undef)], H', []⟩ #[undef] := by
      refine p3.2.other rfl p3.2.fb (fun t u hu => ?_) (fun k cs hk => ⟨hk, (p3.2.box k cs hk).nF⟩) rfl id (fun r sz l ho => .inr ?_) (fun _ _ _ _ _ _ _ _ hne _ _ _ _ => hne)
      · simp only [look_cons, look_nil] at hu
        split at hu
        · rename_i e1; subst e1; cases hu; exact .v _
        · cases hu
      · cases r with
        | s t => obtain ⟨_, h2⟩ := own_one ho; cases h2
        | c k o => exact ⟨ho, rfl, fun q n c hr => (p3.2.own_nF (r := .c k o) ho hr).1⟩
    obtain ⟨j1, _, _⟩ := SimE.join hacross hv0 hF1 hrF1' hrbox
    exact ⟨j1, p3.1⟩
theorem eff_call {f : FuncId} {xs : Array Operand} {ats : Array TypeId} {d : Nat} {us : List AV} {ρs : List (Option Root)} {Hp Hr : List (Nat × List AV)} {post : AOut → List (Nat × List AV) → Prop} (hc : ACalls P f us Hp post) (ha : PArgs σ xs.toList us ρs)
    (hnd : ∀ (i j : Nat) r, ρs[i]? = some (some r) → ρs[j]? = some (some r) → i = j) (hroot : ∀ k o, some (Root.c k o) ∈ ρs → look Hp k = none) (hHp : ∀ k cs, look Hp k = some cs → look σ.h k = some cs) (hHr : ∀ k cs, look Hr k = some cs → look (layAll ρs σ).h k = some cs ∧ look Hp k = none)
    (hd : Nat.ble (d + 1) σ.n = true) {R : AS → Prop} (hR : ∀ out H', post out H' → ∃ u, out = .ret u ∧ R ((callSt σ ρs Hr H').put d u)) : EffOp P ⟨some d, .call { callee := .value (.func f), args := xs, argTypes := ats }, ty, pos, af, g⟩ σ R := by
  intro F X a hs
  have hlen := ha.len
  unfold Runs
  rw [Conc.execOp_call_func rfl, run_enter hc.1]
  refine (call_core (vs := xs.map a.eval) hs hc (by simp [hlen.1]) (fun i u hu => ?_) hnd hroot hHp hHr (lt_of_ble hd)).mono fun e w' ⟨X', out, H', p1, p2, p3, _, p4⟩ => ?_
  · obtain ⟨x, ρ, hx, hρ, hp⟩ := ha.get i u hu
    have hx' : xs[i]? = some x := by simpa using hx
    have : (xs.map a.eval).getD i undef = a.eval x := by simp [hx']
    rw [this]; exact ⟨ρ, hρ, hp.val hs⟩
  · obtain ⟨u, rfl, hu⟩ := hR out H' p2
    obtain ⟨v, rfl, hv⟩ := p4
    exact ⟨X', _, p1, hu, hv, p3⟩
/-- A call of a closure. -/
theorem eff_call_fn {f : FuncId} {s : Nat} {caps : List AV} {xs : Array Operand} {ats : Array TypeId} {d : Nat} {us : List AV} {ρs : List (Option Root)} {Hp Hr : List (Nat × List AV)} {post : AOut → List (Nat × List AV) → Prop} (hfn : look σ.t s = some (.fn f caps)) (hc : ACalls P f (us ++ caps) Hp post) (ha : PArgs σ xs.toList us ρs) (hcap : caps.all (fun u => (own1 (some u)).isNone) = true)
    (hnd : ∀ (i j : Nat) r, ρs[i]? = some (some r) → ρs[j]? = some (some r) → i = j) (hroot : ∀ k o, some (Root.c k o) ∈ ρs → look Hp k = none) (hHp : ∀ k cs, look Hp k = some cs → look σ.h k = some cs) (hHr : ∀ k cs, look Hr k = some cs → look (layAll ρs σ).h k = some cs ∧ look Hp k = none)
    (hd : Nat.ble (d + 1) σ.n = true) {R : AS → Prop} (hR : ∀ out H', post out H' → ∃ u, out = .ret u ∧ R ((callSt σ ρs Hr H').put d u)) : EffOp P ⟨some d, .call { callee := .value (.tmp s), args := xs, argTypes := ats }, ty, pos, af, g⟩ σ R := by
  intro F X a hs
  have hlen := ha.len
  have hf0 := hs.slot s _ hfn
  have hev : a.eval (.tmp s) = a.tmps.getD s undef := rfl
  generalize a.tmps.getD s undef = fv at hf0 hev
  cases hf0 with
  | fn _ _ ys hl hr =>
    unfold Runs
    have hexec : (execOp a.eval ⟨some d, .call { callee := .value (.tmp s), args := xs, argTypes := ats }, ty, pos, af, g⟩).run P X.w = .ok (.enter f (xs.map a.eval ++ ys)) X.w := by
      simp [execOp, resolve, Deferred.ofValue, invoke, hev]
      exact run_enter hc.1
    rw [hexec]
    have hlay : ∀ (L : List (Option Root)) (σ : AS) (m : Nat), layAll (L ++ List.replicate m none) σ = layAll L σ := by
      intro L
      induction L with
      | nil => intro σ m; induction m with
        | zero => rfl
        | succ m ih => simpa [List.replicate_succ, layAll] using ih
      | cons ρ L ih => intro σ m; cases ρ <;> simp only [List.cons_append, layAll] <;> exact ih _ _
    have hst : callSt σ (ρs ++ List.replicate caps.length none) Hr = callSt σ ρs Hr := by funext H'; simp only [callSt, hlay]
    have hin : ∀ (i : Nat) r, (ρs ++ List.replicate caps.length none)[i]? = some (some r) → ρs[i]? = some (some r) := by
      intro i r h
      by_cases hi : i < ρs.length
      · rwa [List.getElem?_append_left hi] at h
      · rw [List.getElem?_append_right (by omega)] at h
        have := List.mem_of_getElem? h
        simp at this
    have hcc := call_core (vs := xs.map a.eval ++ ys) (ρs := ρs ++ List.replicate caps.length none) (Hr := Hr) hs hc (by simp [hlen.1, hl]) (fun i u hu => ?_) (fun i j r h1 h2 => hnd i j r (hin i r h1) (hin j r h2)) (fun k o h => hroot k o (by
      rcases List.mem_append.1 h with h | h
      · exact h
      · simp at h)) hHp (fun k cs hk => by rw [hlay]; exact hHr k cs hk) (lt_of_ble hd)
    · rw [hst] at hcc
      refine hcc.mono fun e w' ⟨X', out, H', p1, p2, p3, _, p4⟩ => ?_
      obtain ⟨u, rfl, hu⟩ := hR out H' p2
      obtain ⟨v, rfl, hv⟩ := p4
      exact ⟨X', _, p1, hu, hv, p3⟩
    · by_cases hi : i < us.length
      · rw [List.getElem?_append_left hi] at hu
        obtain ⟨x, ρ, hx, hρ, hp⟩ := ha.get i u hu
        have hx' : xs[i]? = some x := by simpa using hx
        have hil : i < xs.size := (Array.getElem?_eq_some_iff.1 hx').1
        refine ⟨ρ, by rw [List.getElem?_append_left (by omega)]; exact hρ, ?_⟩
        have : (xs.map a.eval ++ ys).getD i undef = a.eval x := by
          rw [Array.getD_eq_getD_getElem?, Array.getElem?_append_left (by simpa using hil)]
          simp [hx']
        rw [this]; exact hp.val hs
      · rw [List.getElem?_append_right (by omega)] at hu
        have hic := (List.getElem?_eq_some_iff.1 hu).1
        have hxl : xs.toList.length = xs.size := by simp
        refine ⟨none, ?_, .rd ?_ ?_⟩
        · rw [List.getElem?_append_right (by omega)]
          simp only [List.getElem?_replicate]
          rw [if_pos (by omega)]
        · have hys : ys[i - us.length]? = some (ys[i - us.length]'(by omega)) := Array.getElem?_eq_getElem (by omega)
          have : (xs.map a.eval ++ ys).getD i undef = ys[i - us.length]'(by omega) := by
            rw [Array.getD_eq_getD_getElem?, Array.getElem?_append_right (by simp; omega)]
            have : i - (xs.map a.eval).size = i - us.length := by simp; omega
            rw [this, hys]; rfl
          rw [this]
          exact hr _ _ _ hu hys
        · simpa using List.all_eq_true.1 hcap u (List.mem_of_getElem? hu)
end
end Go.Proofs.Ytophpbihcfdkcaa
