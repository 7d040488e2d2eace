import Derived.Test.YtgmlkhfjhogdbaaGreatBk03
set_option linter.unusedSimpArgs false
set_option linter.unusedVariables false
/- Regions that draw: what turns nothing in whatever order, among a chain of what turns something. -/
namespace Go.Proofs.YtgmlkhfjhogdbaaGreat
open Go.RowKit P
set_option linter.unusedSimpArgs false
set_option linter.unusedVariables false

/-- What an operation yields is one value. -/
def Det (l : List Oper) (mN : Nat → Bool) (o : Oper) (u : AV) : Prop := own1 (some u) = none ∧ ((∃ x, u = .v x) ∨ ∃ s, o.op = .move (.tmp s) ∧ ∀ (q : Nat) o', l[q]? = some o' → mN q = true → o'.dst ≠ some s)
def NSem (P : Program) (l : List Oper) (mN : Nat → Bool) (K : AS → Prop) : Nat → List Oper → AS → Prop
  | _, [], σ => K σ
  | k, o :: rest, σ => match mN k with
    | true => ∃ d u, o.dst = some d ∧ o.guard = none ∧ Nat.ble (d + 1) σ.n = true ∧ OpV P o σ u ∧ Det l mN o u ∧ NSem P l mN K (k + 1) rest (σ.put d u)
    | false => NSem P l mN K (k + 1) rest σ
def CSem (P : Program) (K : AS → Prop) : List Oper → AS → Prop
  | [], σ => K σ
  | o :: rest, σ => EffOp P o σ (CSem P K rest)
def noOp : Oper := ⟨none, .assign (.const undef), 0, "", #[], none⟩
def msk (mN : Nat → Bool) : Nat → List Oper → List Oper
  | _, [] => []
  | k, o :: r => (match mN k with | true => o | false => noOp) :: msk mN (k + 1) r
theorem msk_len (mN : Nat → Bool) : ∀ (k : Nat) (l : List Oper), (msk mN k l).length = l.length
  | _, [] => rfl
  | k, o :: r => by simp only [msk, List.length_cons, msk_len mN (k + 1) r]
theorem msk_get (mN : Nat → Bool) : ∀ (k : Nat) (l : List Oper) (i : Nat) (o : Oper), l[i]? = some o → (msk mN k l)[i]? = some (match mN (k + i) with | true => o | false => noOp)
  | _, [], i, o, h => by simp at h
  | k, o0 :: r, 0, o, h => by simp at h; subst h; simp [msk]
  | k, o0 :: r, i + 1, o, h => by
    simp only [msk, List.getElem?_cons_succ]
    rw [msk_get mN (k + 1) r i o (by simpa using h), show k + 1 + i = k + (i + 1) by omega]
theorem msk_dst {mN : Nat → Bool} {l : List Oper} {i : Nat} {o : Oper} {d : Nat} (h : (msk mN 0 l)[i]? = some o) (hd : o.dst = some d) : mN i = true ∧ l[i]? = some o := by
  have hi := (List.getElem?_eq_some_iff.1 h).1
  rw [msk_len] at hi
  have := msk_get mN 0 l i l[i] (List.getElem?_eq_getElem hi)
  rw [h, Nat.zero_add] at this
  cases hm : mN i with
  | true => rw [hm] at this; cases this; exact ⟨rfl, List.getElem?_eq_getElem hi⟩
  | false => rw [hm] at this; cases this; cases hd
section
variable {P : Program} {Q : Exit → AS → Prop} {ks : List It} {σ : AS} {K : AS → Prop} {l : List Oper} {mN : Nat → Bool}
theorem n_table (L : List Oper) : ∀ (rest : List Oper) (k : Nat) (σ : AS), NSem P L mN K k rest σ → ∃ us : List AV, us.length = rest.length ∧ K (puts σ (msk mN k rest) us) ∧
    ∀ (i : Nat) o u, rest[i]? = some o → us[i]? = some u → mN (k + i) = true → ∃ d, o.dst = some d ∧ o.guard = none ∧ Nat.ble (d + 1) σ.n = true ∧ OpV P o (puts σ ((msk mN k rest).take i) (us.take i)) u ∧ Det L mN o u
  | [], k, σ, h => ⟨[], rfl, h, fun i o u h => by simp at h⟩
  | o :: rest, k, σ, h => by
    unfold NSem at h
    cases hm : mN k with
    | true =>
      rw [hm] at h
      obtain ⟨d, u, h1, h2, h3, h4, h5, h6⟩ := h
      obtain ⟨us, k1, k2, k3⟩ := n_table L rest (k + 1) (σ.put d u) h6
      refine ⟨u :: us, by simp [k1], by simp only [msk, hm, puts, h1]; exact k2, fun i o' u' ho hu hmi => ?_⟩
      cases i with
      | zero => simp at ho hu; subst ho hu; exact ⟨d, h1, h2, h3, h4, h5⟩
      | succ i =>
        obtain ⟨d', m1, m2, m3, m4, m5⟩ := k3 i o' u' (by simpa using ho) (by simpa using hu) (by rw [show k + 1 + i = k + (i + 1) by omega]; exact hmi)
        refine ⟨d', m1, m2, m3, ?_, m5⟩
        simp only [msk, hm, List.take_succ_cons, puts, h1]
        exact m4
    | false =>
      rw [hm] at h
      obtain ⟨us, k1, k2, k3⟩ := n_table L rest (k + 1) σ h
      refine ⟨.v undef :: us, by simp [k1], by simp only [msk, hm, puts, noOp]; exact k2, fun i o' u' ho hu hmi => ?_⟩
      cases i with
      | zero => rw [Nat.add_zero, hm] at hmi; cases hmi
      | succ i =>
        obtain ⟨d', m1, m2, m3, m4, m5⟩ := k3 i o' u' (by simpa using ho) (by simpa using hu) (by rw [show k + 1 + i = k + (i + 1) by omega]; exact hmi)
        refine ⟨d', m1, m2, m3, ?_, m5⟩
        simp only [msk, hm, List.take_succ_cons, puts, noOp]
        exact m4
theorem look_filt {α : Type} (p : Nat → Bool) : ∀ (h : List (Nat × α)) (k : Nat), look (h.filter fun q => p q.1) k = if p k = true then look h k else none
  | [], k => by simp [look_nil]
  | (q, a) :: r, k => by
    have ih := look_filt p r k
    rw [List.filter_cons]
    by_cases hp : p q = true
    · rw [if_pos hp, look_cons, look_cons, ih]
      by_cases e : k = q
      · subst e; rw [if_pos rfl, if_pos hp, if_pos rfl]
      · rw [if_neg e, if_neg e]
    · rw [if_neg hp, ih, look_cons]
      by_cases e : k = q
      · subst e; rw [if_neg hp, if_neg hp]
      · rw [if_neg e]
structure MixOk (l : List Oper) (mN : Nat → Bool) (cs : List Nat) : Prop where
  lex : ∀ i o, l[i]? = some o → ∀ j ∈ depsOf o, j < i
  ndst : ∀ q q' o o' d, l[q]? = some o → l[q']? = some o' → mN q = true → o.dst = some d → o'.dst = some d → q = q'
  settled : ∀ i o q oq d, l[i]? = some o → l[q]? = some oq → mN q = true → oq.dst = some d → d ∈ seesOf l o → q < i ∧ q ∈ depsOf o
  nsees : ∀ i o q oq d, l[i]? = some o → mN i = true → l[q]? = some oq → mN q = false → oq.dst = some d → d ∈ seesOf l o → i ∈ depsOf oq
  call : ∀ i, i < l.length → (mN i = false ↔ i ∈ cs)
  clt : ∀ i ∈ cs, i < l.length
  cnodup : cs.Nodup
  cchain : ∀ (j a b : Nat) o, cs[j]? = some a → cs[j + 1]? = some b → l[b]? = some o → a ∈ depsOf o
  cguard : ∀ i o, l[i]? = some o → mN i = false → o.guard = none ∧ ∀ c b, o.op ≠ .select c b
/-- The act with all that is to come of what turns nothing. -/
structure Filled (l : List Oper) (mN : Nat → Bool) (V : Nat → Value) (listed : Array Bool) (tm tf : Array Value) : Prop where
  size : tf.size = tm.size
  same : ∀ t, (∀ (q : Nat) o, l[q]? = some o → mN q = true → o.dst = some t → listed.getD q false = true) → tf.getD t undef = tm.getD t undef
  val : ∀ (q : Nat) o t, l[q]? = some o → mN q = true → o.dst = some t → tf.getD t undef = V q
def nMoves (l : List Oper) (mN : Nat → Bool) (k : Nat) : List Oper → List (Nat × Nat)
  | [] => []
  | o :: r => (match mN k, o.dst, o.op with
    | true, some d, .move (.tmp s) => if l.zipIdx.all (fun q => !mN q.2 || !(q.1.dst == some s)) then [(d, s)] else []
    | _, _, _ => []) ++ nMoves l mN (k + 1) r
theorem nMoves_get {l : List Oper} {mN : Nat → Bool} : ∀ (rest : List Oper) (k : Nat) (p : Nat × Nat), p ∈ nMoves l mN k rest → ∃ (i : Nat) (o : Oper), rest[i]? = some o ∧ mN (k + i) = true ∧ o.dst = some p.1 ∧ o.op = .move (.tmp p.2) ∧ ∀ (q : Nat) o', l[q]? = some o' → mN q = true → o'.dst ≠ some p.2
  | [], k, p, h => by cases h
  | o :: r, k, p, h => by
    simp only [nMoves] at h
    rcases List.mem_append.1 h with h | h
    · split at h
      · rename_i d s hm hd ho
        split at h
        · rename_i hall
          simp at h
          subst h
          refine ⟨0, o, rfl, hm, hd, ho, fun q o' h' hq e => ?_⟩
          have := List.all_eq_true.1 hall (o', q) (List.mem_of_getElem? (i := q) (by rw [List.getElem?_zipIdx, h']; simp))
          simp [e, hq] at this
        · cases h
      · cases h
    · obtain ⟨i, o', h1, h2, h3⟩ := nMoves_get r (k + 1) p h
      exact ⟨i + 1, o', by simpa using h1, by rw [show k + (i + 1) = k + 1 + i by omega]; exact h2, h3⟩
def plainBox (cs : List AV) : Bool := cs.all fun u => (own1 (some u)).isNone
/-- Boxes that were set aside come back. -/
theorem SimE.back {F F' : Nat → Prop} {X0 X : GW} {σ' : AS} {tm : Array Value} {H1 : List (Nat × List AV)} (h : SimE F' X σ' tm) (hF : ∀ b, F b → F' b) (hF1 : ∀ k cs, look H1 k = some cs → F' k) (hb : ∀ k cs, look H1 k = some cs → BoxOk F X0 k cs) (hpl : ∀ k cs, look H1 k = some cs → plainBox cs = true) (hx : Ext F' X0 X) : SimE F X (σ'.withH (σ'.h ++ H1)) tm := by
  have hlook : ∀ k cs, look (σ'.h ++ H1) k = some cs → look σ'.h k = some cs ∨ (look σ'.h k = none ∧ look H1 k = some cs) := fun k cs hk => by
    rw [look_append] at hk
    cases hl : look σ'.h k with
    | some c => rw [hl] at hk; cases hk; exact .inl rfl
    | none => rw [hl] at hk; exact .inr ⟨rfl, hk⟩
  have hown : ∀ r sz l, (σ'.withH (σ'.h ++ H1)).own r = some (sz, l) → σ'.own r = some (sz, l) := fun r sz l ho => by
    cases r with
    | s t => exact ho
    | c k o =>
      simp only [AS.own, AS.withH] at ho ⊢
      cases hl : look (σ'.h ++ H1) k with
      | none => rw [hl] at ho; cases ho
      | some cs =>
        rw [hl] at ho
        rcases hlook k cs hl with h1 | ⟨h1, h2⟩
        · rw [h1]; exact ho
        · exfalso
          have hp := hpl k cs h2
          cases hc : cs[o]? with
          | none => simp [hc, own1] at ho
          | some u =>
            have := List.all_eq_true.1 hp u (List.mem_of_getElem? hc)
            simp [hc] at ho
            rw [ho] at this; cases this
  refine ⟨⟨h.size, h.gb, fun b hb' => h.fb b (hF b hb'), h.slot, fun k cs hk => ?_, h.eqs, fun r sz l ho => ?_, fun r r' sz l sz' l' a n c a' n' c' hne ho ho' hr hr' => h.disj r r' sz l sz' l' a n c a' n' c' hne (hown _ _ _ ho) (hown _ _ _ ho') hr hr'⟩, h.eqm⟩
  · rcases hlook k cs hk with h1 | ⟨h1, h2⟩
    · exact (h.box k cs h1).keep ⟨rfl, rfl, fun e => (h.box k cs h1).nF (hF k e)⟩ (Pres.refl X)
    · have hk' := hb k cs h2
      exact hk'.keep ⟨(hx.frame k (hF1 k cs h2)).1, (hx.frame k (hF1 k cs h2)).2, hk'.nF⟩ hx.pres
  · obtain ⟨x, h1, h2⟩ := h.own r sz l (hown r sz l ho)
    exact ⟨x, h1, h2.keep fun b n c hv => ⟨rfl, rfl, fun e => (h2.lt hv).2 (hF b e)⟩⟩
def valOf (a : Act) : AV → Op → Value
  | .v x, _ => x
  | _, .move (.tmp s) => a.tmps.getD s undef
  | _, _ => undef
theorem put_getD (a : Act) (o : Option Tmp) (x : Value) (t : Nat) : (a.put o x).tmps.getD t undef = if o = some t ∧ t < a.tmps.size then x else a.tmps.getD t undef := by
  cases o with
  | none => rw [if_neg (by simp)]; rfl
  | some d =>
    simp only [Act.put, Array.getD_eq_getD_getElem?, Array.getElem?_setIfInBounds]
    by_cases e : d = t
    · subst e
      by_cases hl : d < a.tmps.size
      · rw [if_pos rfl, if_pos hl, if_pos ⟨rfl, hl⟩]; rfl
      · rw [if_pos rfl, if_neg hl, if_neg (by simp [hl])]
        simp [Array.getElem?_eq_none (Nat.le_of_not_lt hl)]
    · rw [if_neg e, if_neg (by simp [e])]
theorem put_sz (a : Act) (o : Option Tmp) (x : Value) : (a.put o x).tmps.size = a.tmps.size := by
  cases o <;> simp [Act.put]
theorem same_g {X X' : GW} (hn : New X X') (hw : X'.w = X.w) (hg : ∀ b n, X.g b = some n → b < X.w.heap.size) (hg' : ∀ b n, X'.g b = some n → b < X'.w.heap.size) : X' = X := by
  have : X'.g = X.g := by
    funext b
    by_cases hb : b < X.w.heap.size
    · exact (hn.old b hb).2
    · cases h1 : X.g b with
      | some n => exact absurd (hg b n h1) hb
      | none =>
        cases h2 : X'.g b with
        | some n => have := hg' b n h2; rw [hw] at this; exact absurd this hb
        | none => rfl
  cases X; cases X'; simp only at hw this; subst hw this; rfl
theorem move_run {F : Nat → Prop} {X : GW} {σ : AS} {o : Oper} {u : AV} {a : Act} {s : Nat} (hop : o.op = .move (.tmp s)) (h : OpV P o σ u) (hs : SimR F X σ o.op a.tmps) : Rel X u (a.tmps.getD s undef) ∧ (execOp a.eval o).run P X.w = .ok (.value (a.tmps.getD s undef)) X.w := by
  have hex : (execOp a.eval o).run P X.w = .ok (.value (a.tmps.getD s undef)) X.w := by
    obtain ⟨dst, op, ty, pos, af, g⟩ := o
    simp only at hop
    subst hop
    rfl
  have hr := h F X a hs
  unfold Runs at hr
  rw [hex] at hr
  obtain ⟨X', h1, h2, h3, h4, h5⟩ := hr
  have := same_g h2 h1 hs.gb h3
  subst this
  exact ⟨h4, hex⟩
/-- A region that draws: what turns nothing in whatever order, among a chain of what turns something. -/
theorem ar_drawM {id : Nat} {st : Nat → Bool} {cs : List Nat} (hm : P.follows .mixedOrders = true) (hB : MixOk l mN cs) (he : σ.e = []) (hpl : ∀ k c, look (σ.h.filter fun p => st p.1) k = some c → plainBox c = true)
    (h : NSem P l mN (fun σ' => CSem P (fun σ2 => ARun P Q ks (σ2.withH (σ2.h ++ σ.h.filter fun p => st p.1))) (cs.filterMap fun i => l[i]?) ((σ'.withH (σ.h.filter fun p => !st p.1)).als (nMoves l mN 0 l))) 0 l (σ.withH (σ.h.filter fun p => st p.1))) :
    ARun P Q (.c (.region id l.toArray true) :: ks) σ := by
  intro F X a hs D hdf
  obtain ⟨us, hul, hC, hstep⟩ := n_table l l 0 _ h
  simp only [Nat.zero_add] at hstep
  generalize hH1 : (σ.h.filter fun p => st p.1) = H1 at *
  generalize hH0 : (σ.h.filter fun p => !st p.1) = H0 at *
  have h1look : ∀ k c, look H1 k = some c → st k = true ∧ look σ.h k = some c := fun k c hk => by
    rw [← hH1, look_filt] at hk
    by_cases e : st k = true
    · rw [if_pos e] at hk; exact ⟨e, hk⟩
    · rw [if_neg e] at hk; cases hk
  have h0look : ∀ k c, look H0 k = some c → st k = false ∧ look σ.h k = some c := fun k c hk => by
    rw [← hH0, look_filt (fun q => !st q)] at hk
    by_cases e : st k = true
    · simp [e] at hk
    · simp only [Bool.not_eq_true] at e
      simp [e] at hk; exact ⟨e, hk⟩
  have hbox1 : ∀ k c, look H1 k = some c → BoxOk F X k c := fun k c hk => hs.box k c (h1look k c hk).2
  let F' : Nat → Prop := fun b => F b ∨ ∃ c, look H1 b = some c
  have hFF : ∀ b, F b → F' b := fun b hb => .inl hb
  have hF'lt : ∀ b, F' b → b < X.w.heap.size := fun b hb => by
    rcases hb with hb | ⟨c, hc⟩
    · exact hs.fb b hb
    · exact (hbox1 b c hc).lt
  have hnF' : ∀ r sz lw a1 n c, σ.own r = some (sz, lw) → rootV a.tmps X.w r = some (.slice (some a1) n c) → ¬ F' a1.block := fun r sz lw a1 n c ho hr hb => by
    obtain ⟨k1, ⟨m, k2⟩, _⟩ := hs.own_nF ho hr
    rcases hb with hb | ⟨c', hc⟩
    · exact k1 hb
    · rw [(hbox1 _ c' hc).gn] at k2; cases k2
  have hmdis : ∀ (q q' : Nat) o o' d, (msk mN 0 l)[q]? = some o → (msk mN 0 l)[q']? = some o' → o.dst = some d → o'.dst = some d → q = q' := fun q q' o o' d h1 h2 h3 h4 => by
    obtain ⟨k1, k2⟩ := msk_dst h1 h3
    obtain ⟨k3, k4⟩ := msk_dst h2 h4
    exact hB.ndst q q' o o' d k2 k4 k1 h3 h4
  have hml : us.length = (msk mN 0 l).length := by rw [msk_len, hul]
  -- a slot that no operation that turns nothing writes
  have hputs : ∀ (i : Nat) (t : Nat) (u : AV), look (puts (σ.withH H1) ((msk mN 0 l).take i) (us.take i)).t t = some u → (∃ q o, q < i ∧ l[q]? = some o ∧ mN q = true ∧ o.dst = some t ∧ us[q]? = some u) ∨ (look σ.t t = some u ∧ ∀ q o, q < i → l[q]? = some o → mN q = true → o.dst ≠ some t) := by
    intro i t u hu
    rw [puts_look _ _ _ _ (by simp [hml]) (fun q q' o1 o2 d h1 h2 h3 h4 => by
      rw [List.getElem?_take] at h1 h2
      split at h1
      · split at h2
        · exact hmdis q q' o1 o2 d h1 h2 h3 h4
        · cases h2
      · cases h1)] at hu
    cases hf : (((msk mN 0 l).take i).zip (us.take i)).find? (fun p => p.1.dst == some t) with
    | some p =>
      rw [hf] at hu; cases hu
      have hmem := List.mem_of_find?_eq_some hf
      have hpd : p.1.dst = some t := by simpa using List.find?_some hf
      obtain ⟨q, hq⟩ := List.getElem?_of_mem hmem
      rw [List.getElem?_zip_eq_some, List.getElem?_take, List.getElem?_take] at hq
      have hqi : q < i := by
        apply Classical.byContradiction
        intro hc
        rw [if_neg hc] at hq; cases hq.1
      rw [if_pos hqi, if_pos hqi] at hq
      obtain ⟨k1, k2⟩ := msk_dst hq.1 hpd
      exact .inl ⟨q, p.1, hqi, k2, k1, hpd, hq.2⟩
    | none =>
      rw [hf] at hu
      refine .inr ⟨hu, fun q o hqi hlo hmq hod => ?_⟩
      have hql := (List.getElem?_eq_some_iff.1 hlo).1
      have hmq' : (msk mN 0 l)[q]? = some o := by rw [msk_get mN 0 l q o hlo, Nat.zero_add, hmq]
      have hmem : (o, us[q]'(by omega)) ∈ ((msk mN 0 l).take i).zip (us.take i) := by
        refine List.mem_of_getElem? (i := q) (List.getElem?_zip_eq_some.2 ⟨?_, ?_⟩)
        · rw [List.getElem?_take, if_pos hqi]; exact hmq'
        · rw [List.getElem?_take, if_pos hqi]; exact List.getElem?_eq_getElem (by omega)
      exact absurd (by simpa using hod) (List.find?_eq_none.1 hf _ hmem)
  -- the values
  obtain ⟨V, hV⟩ : ∃ V : Nat → Value, ∀ (q : Nat) o u, l[q]? = some o → us[q]? = some u → mN q = true → (∀ x, u = .v x → V q = x) ∧ ((∀ x, u ≠ .v x) → ∀ s, o.op = .move (.tmp s) → V q = a.tmps.getD s undef) := by
    refine ⟨fun q => match us[q]?, l[q]? with
      | some u, some o => valOf a u o.op
      | _, _ => undef, fun q o u ho hu hmq => ⟨fun x hx => ?_, fun hx s hop => ?_⟩⟩
    · simp only [hu, ho, hx, valOf]
    · simp only [hu, ho, hop]
      cases u <;> first | rfl | exact absurd rfl (hx _)
  have relV : ∀ (q : Nat) o u, l[q]? = some o → us[q]? = some u → mN q = true → Rel X u (V q) ∧ own1 (some u) = none ∧ ∀ s, o.op = .move (.tmp s) → (∀ (q' : Nat) o', l[q']? = some o' → mN q' = true → o'.dst ≠ some s) → V q = a.tmps.getD s undef := by
    intro q o u ho hu hmq
    obtain ⟨d, k1, k2, k3, k4, k5, k6⟩ := hstep q o u ho hu hmq
    have hmv : ∀ s, o.op = .move (.tmp s) → (∀ (q' : Nat) o', l[q']? = some o' → mN q' = true → o'.dst ≠ some s) → Rel X u (a.tmps.getD s undef) := fun s hop hns => by
      refine (move_run (F := F) hop k4 ⟨hs.gb, hs.fb, fun t u' ht hu' => ?_, fun k c hk => ?_⟩).1
      · rw [hop] at ht
        simp [Op.operands] at ht
        subst ht
        rcases hputs q t u' hu' with ⟨q', o', _, k7, k9, k8, _⟩ | ⟨k7, _⟩
        · exact absurd k8 (hns q' o' k7 k9)
        · exact hs.slot t u' k7
      · rw [puts_h] at hk; exact hbox1 k c hk
    obtain ⟨v1, v2⟩ := hV q o u ho hu hmq
    refine ⟨?_, k5, fun s hop hns => ?_⟩
    · rcases k6 with ⟨x, rfl⟩ | ⟨s, hop, hns⟩
      · rw [v1 x rfl]; exact .v x
      · by_cases hx : ∃ x, u = .v x
        · obtain ⟨x, rfl⟩ := hx
          rw [v1 x rfl]; exact .v x
        · rw [v2 (fun x e => hx ⟨x, e⟩) s hop]; exact hmv s hop hns
    · by_cases hx : ∃ x, u = .v x
      · obtain ⟨x, rfl⟩ := hx
        rw [v1 x rfl]
        have := rel_v (hmv s hop hns)
        exact this.symm
      · exact v2 (fun x e => hx ⟨x, e⟩) s hop
  -- the act with all of it
  have hst : ∀ (q : Nat) o d, l[q]? = some o → mN q = true → o.dst = some d → d < a.tmps.size := fun q o d ho hmq hod => by
    have hql := (List.getElem?_eq_some_iff.1 ho).1
    obtain ⟨d', k1, _, k3, _⟩ := hstep q o us[q] ho (List.getElem?_eq_getElem (by omega)) hmq
    rw [hod] at k1; cases k1
    rw [hs.size]
    exact lt_of_ble k3
  obtain ⟨tf0, hf1, hf2, hf3⟩ : ∃ tf0 : Array Value, tf0.size = a.tmps.size ∧ (∀ t, (∀ (q : Nat) o, l[q]? = some o → mN q = true → o.dst ≠ some t) → tf0.getD t undef = a.tmps.getD t undef) ∧ ∀ (q : Nat) o t, l[q]? = some o → mN q = true → o.dst = some t → tf0.getD t undef = V q := by
    classical
    refine ⟨Array.ofFn (n := a.tmps.size) fun t => if hx : ∃ q o, l[q]? = some o ∧ mN q = true ∧ o.dst = some t.1 then V (Classical.choose hx) else a.tmps.getD t.1 undef, by simp, fun t ht => ?_, fun q o t ho hmq hod => ?_⟩
    · simp only [Array.getD_eq_getD_getElem?, Array.getElem?_ofFn]
      by_cases hl : t < a.tmps.size
      · rw [dif_pos hl, dif_neg (by rintro ⟨q, o, k1, k2, k3⟩; exact ht q o k1 k2 k3)]; rfl
      · rw [dif_neg hl, Array.getElem?_eq_none (Nat.le_of_not_lt hl)]
    · simp only [Array.getD_eq_getD_getElem?, Array.getElem?_ofFn]
      have hl := hst q o t ho hmq hod
      have hx : ∃ q o, l[q]? = some o ∧ mN q = true ∧ o.dst = some t := ⟨q, o, ho, hmq, hod⟩
      rw [dif_pos hl, dif_pos hx]
      obtain ⟨o', k1, k2, k3⟩ := Classical.choose_spec hx
      have := hB.ndst _ q o' o t k1 ho k2 k3 hod
      simp only [Option.getD_some, this]
  have hfull : ∀ t u, look (puts (σ.withH H1) (msk mN 0 l) us).t t = some u → (∃ (q : Nat) (o : Oper), l[q]? = some o ∧ mN q = true ∧ o.dst = some t ∧ us[q]? = some u) ∨ (look σ.t t = some u ∧ ∀ (q : Nat) o, l[q]? = some o → mN q = true → o.dst ≠ some t) := by
    intro t u hu
    have e1 : (msk mN 0 l).take l.length = msk mN 0 l := List.take_of_length_le (by rw [msk_len]; omega)
    have e2 : us.take l.length = us := List.take_of_length_le (by omega)
    rcases hputs l.length t u (by rw [e1, e2]; exact hu) with ⟨q, o, _, k⟩ | ⟨k1, k2⟩
    · exact .inl ⟨q, o, k⟩
    · exact .inr ⟨k1, fun q o ho => k2 q o (List.getElem?_eq_some_iff.1 ho).1 ho⟩
  have hs0 : SimE F' X (((puts (σ.withH H1) (msk mN 0 l) us).withH H0).als (nMoves l mN 0 l)) tf0 := by
    refine als_sim (hs.other (by rw [hf1, hs.size]; exact (puts_n (msk mN 0 l) us (σ.withH H1)).symm) hF'lt (fun t u hu => ?_) (fun k c hk => ?_) (puts_e (msk mN 0 l) us (σ.withH H1) he) (fun r => r) (fun r sz lw ho => .inr ?_) (fun _ _ _ _ _ _ _ _ hne _ _ _ _ => hne)) fun p hp => ?_
    · rcases hfull t u hu with ⟨q, o, k1, k2, k3, k4⟩ | ⟨k1, k2⟩
      · rw [hf3 q o t k1 k2 k3]; exact (relV q o u k1 k4 k2).1
      · rw [hf2 t k2]; exact hs.slot t u k1
    · obtain ⟨k1, k2⟩ := h0look k c hk
      refine ⟨k2, fun hb => ?_⟩
      rcases hb with hb | ⟨c', hc⟩
      · exact (hs.box k c k2).nF hb
      · have := (h1look k c' hc).1
        rw [k1] at this; cases this
    · cases r with
      | s t =>
        obtain ⟨k0⟩ : look (puts (σ.withH H1) (msk mN 0 l) us).t t = some (.sl true sz lw) ∧ True := ⟨own_s_look ho, trivial⟩
        rcases hfull t _ k0 with ⟨q, o, k1, k2, k3, k4⟩ | ⟨k1, k2⟩
        · have := (relV q o _ k1 k4 k2).2.1
          cases this
        · have hoo : σ.own (.s t) = some (sz, lw) := by simp only [AS.own, k1]; rfl
          refine ⟨hoo, by simp only [rootV, hf2 t k2], fun a1 n c hr => hnF' (.s t) sz lw a1 n c hoo (by simp only [rootV, hf2 t k2] at hr ⊢; exact hr)⟩
      | c k o =>
        have ho' : AS.own ((puts (σ.withH H1) (msk mN 0 l) us).withH H0) (.c k o) = some (sz, lw) := ho
        simp only [AS.own, AS.withH] at ho'
        cases hl : look H0 k with
        | none => rw [hl] at ho'; cases ho'
        | some c =>
          rw [hl] at ho'
          have hoo : σ.own (.c k o) = some (sz, lw) := by simp only [AS.own, (h0look k c hl).2]; exact ho'
          exact ⟨hoo, rfl, fun a1 n c hr => hnF' (.c k o) sz lw a1 n c hoo hr⟩
    · obtain ⟨i, o, k1, k2, k3, k4, k5⟩ := nMoves_get l 0 p hp
      rw [Nat.zero_add] at k2
      have hil := (List.getElem?_eq_some_iff.1 k1).1
      rw [hf3 i o p.1 k1 k2 k3, (relV i o us[i] k1 (List.getElem?_eq_getElem (by omega)) k2).2.2 p.2 k4 k5, hf2 p.2 k5]
  refine wp_region_any hm ?_
  let Inv : Array Bool → GW → Act → Prop := fun listed X1 a1 => ∃ (tf : Array Value) (σ1 : AS) (done rem : List Nat), cs = done ++ rem ∧ (∀ i ∈ done, listed.getD i false = true) ∧ (∀ i ∈ rem, listed.getD i false = false) ∧ Filled l mN V listed a1.tmps tf ∧ SimE F' X1 σ1 tf ∧
    CSem P (fun σ2 => ARun P Q ks (σ2.withH (σ2.h ++ H1))) (rem.filterMap fun i => l[i]?) σ1 ∧ Ext F' X X1 ∧ a1.tmps.size = a.tmps.size ∧ (∀ t, (∀ (q : Nat) oq, l[q]? = some oq → oq.dst = some t → mN q = false ∧ listed.getD q false = false) → a1.tmps.getD t undef = a.tmps.getD t undef)
  have key : ∀ (fuel : Nat) (listed : Array Bool) (X1 : GW) (a1 : Act), listed.size = l.length →
      ((List.range l.length).filter (fun i => !listed.getD i true)).length ≤ fuel → a1.defers = D → Inv listed X1 a1 → (∀ j oj, l[j]? = some oj → listed.getD j false = true → ∀ d ∈ depsOf oj, listed.getD d false = true) →
      wpAny P .any l.toArray (PostA F X D (Stk P Q ks)) fuel listed a1 X1.w := by
    have fin : ∀ (listed : Array Bool) (X1 : GW) (a1 : Act), listed.size = l.length → Region.ready .any l.toArray listed = [] → a1.defers = D → Inv listed X1 a1 → PostA F X D (Stk P Q ks) .normal a1 X1.w := by
      rintro listed X1 a1 hsz hnil hd1 ⟨tf, σ1, done, rem, c1, c2, c3, c4, c5, c6, c7, c8, c9⟩
      have hall : ∀ i, i < l.length → listed.getD i false = true := by
        intro i hil
        apply Classical.byContradiction
        intro hc
        have hc : listed.getD i false = false := by simpa using hc
        obtain ⟨k, hk, hkf, hkl⟩ := first_false (fun j => listed.getD j false) l.length ⟨i, hil, hc⟩
        have hmem : k ∈ Region.ready .any l.toArray listed := by
          refine mem_ready.2 ⟨by rw [getD_tf (by omega)]; exact hkf, l[k], by simp [hk], fun e he hb => ?_⟩
          exact hkl e.on (hB.lex k l[k] (List.getElem?_eq_getElem hk) e.on (mem_depsOf.2 ⟨e, he, hb, rfl⟩))
        rw [hnil] at hmem; cases hmem
      have hrem : rem = [] := by
        cases rem with
        | nil => rfl
        | cons c r =>
          have h1 := c3 c List.mem_cons_self
          rw [hall c (hB.clt c (by rw [c1]; simp))] at h1; cases h1
      subst hrem
      have htf : tf = a1.tmps := by
        apply Array.ext c4.size
        intro i h1 h2
        have := c4.same i fun q o k1 _ _ => hall q (List.getElem?_eq_some_iff.1 k1).1
        simpa [h1, h2] using this
      rw [htf] at c5
      exact ⟨hd1, X1, _, rfl, c6, c5.back hFF (fun k c hk => .inr ⟨c, hk⟩) hbox1 hpl c7, c7.mono hFF⟩
    intro fuel
    induction fuel with
    | zero =>
      intro listed X1 a1 hsz hf hd1 hI hdn
      have hnil : Region.ready .any l.toArray listed = [] := by
        rw [List.eq_nil_iff_forall_not_mem]
        intro i hi
        obtain ⟨h1, o, h2, _⟩ := mem_ready.1 hi
        have hil : i < l.length := by simpa using (Array.getElem?_eq_some_iff.1 h2).1
        have h0 := List.length_eq_zero_iff.1 (Nat.le_zero.1 hf)
        have := List.filter_eq_nil_iff.1 h0 i (List.mem_range.2 hil)
        rw [h1] at this; exact this rfl
      exact ⟨hnil, fin listed X1 a1 hsz hnil hd1 hI⟩
    | succ fuel ih =>
      intro listed X1 a1 hsz hf hd1 hI hdn
      refine ⟨fun hnil => fin listed X1 a1 hsz hnil hd1 hI, fun i hi => ?_⟩
      obtain ⟨h1, o, h2, h3⟩ := mem_ready.1 hi
      have h2' : l[i]? = some o := by simpa using h2
      have hil : i < l.length := (List.getElem?_eq_some_iff.1 h2').1
      have hlf : listed.getD i false = false := by rw [← getD_tf (by omega)]; exact h1
      have hdep : ∀ q ∈ depsOf o, listed.getD q false = true := fun q hq => by
        obtain ⟨e, k1, k2, k3⟩ := mem_depsOf.1 hq
        rw [← k3]; exact h3 e k1 k2
      have hcnt : ((List.range l.length).filter (fun j => !(listed.setIfInBounds i true).getD j true)).length ≤ fuel := by
        have := count_set hil hsz h1
        omega
      obtain ⟨tf, σ1, done, rem, c1, c2, c3, c4, c5, c6, c7, c8, c9⟩ := hI
      have hset : ∀ j, (listed.setIfInBounds i true).getD j false = if j = i then true else listed.getD j false := fun j => getD_setb false (by omega)
      have hseen : ∀ t, t ∈ seesOf l o → tf.getD t undef = a1.tmps.getD t undef := fun t ht => c4.same t fun q oq k1 k2 k3 => hdep q (hB.settled i o q oq t h2' k1 k2 k3 ht).2
      have hdn' : ∀ j oj, l[j]? = some oj → (listed.setIfInBounds i true).getD j false = true → ∀ d ∈ depsOf oj, (listed.setIfInBounds i true).getD d false = true := fun j oj hoj hj d hd => by
        rw [hset] at hj ⊢
        split
        · rfl
        · by_cases e : j = i
          · subst e
            rw [h2'] at hoj; cases hoj
            exact hdep d hd
          · rw [if_neg e] at hj
            exact hdn j oj hoj hj d hd
      unfold wpOp
      simp only [h2]
      cases hmi : mN i with
      | true =>
        have hui : us[i]? = some us[i] := List.getElem?_eq_getElem (by omega)
        obtain ⟨d, k1, k2, k3, k4, _, k6⟩ := hstep i o us[i] h2' hui hmi
        have hdl := hst i o d h2' hmi k1
        have hfree : ∀ t, t ∈ seesOf l o → (∀ (q : Nat) o', l[q]? = some o' → mN q = true → o'.dst ≠ some t) → ∀ (q : Nat) oq, l[q]? = some oq → oq.dst = some t → mN q = false ∧ listed.getD q false = false := fun t hts hn q oq hq hod => by
          cases hmq : mN q with
          | true => exact absurd hod (hn q oq hq hmq)
          | false =>
            refine ⟨rfl, ?_⟩
            cases hl : listed.getD q false with
            | false => rfl
            | true =>
              have := hdn q oq hq hl i (hB.nsees i o q oq t h2' hmi hq hmq hod hts)
              rw [hlf] at this; cases this
        have hR : SimR F X1 (puts (σ.withH H1) ((msk mN 0 l).take i) (us.take i)) o.op a1.tmps := by
          refine ⟨c5.gb, fun b hb => c5.fb b (hFF b hb), fun t u ht hu => ?_, fun k c hk => ?_⟩
          · have hts : t ∈ seesOf l o := by simp only [seesOf]; exact List.mem_append_left _ (mem_tmpsOf ht)
            rw [← hseen t hts]
            rcases hputs i t u hu with ⟨q, oq, _, j1, j2, j3, j4⟩ | ⟨j1, j2⟩
            · rw [c4.val q oq t j1 j2 j3]
              exact (relV q oq u j1 j4 j2).1.mono c7.pres
            · rw [hseen t hts, c9 t (hfree t hts fun q o' hq hmq hod => j2 q o' (hB.settled i o q o' t h2' hq hmq hod hts).1 hq hmq hod)]
              exact (hs.slot t u j1).mono c7.pres
          · rw [puts_h] at hk
            have hb := hbox1 k c hk
            exact hb.keep ⟨(c7.frame k (.inr ⟨c, hk⟩)).1, (c7.frame k (.inr ⟨c, hk⟩)).2, hb.nF⟩ c7.pres
        have hw : Region.wanted o (yielded l.toArray a1.tmps) = true := by unfold Region.wanted; rw [k2]
        rw [if_pos hw]
        left
        have hrun : Runs P o a1 X1.w fun x w' => x = V i ∧ ∃ X2 : GW, X2.w = w' ∧ New X1 X2 ∧ (∀ b n, X2.g b = some n → b < X2.w.heap.size) := by
          rcases k6 with ⟨x, hx⟩ | ⟨s, hop, hns⟩
          · refine (k4 F X1 a1 hR).mono fun y w' ⟨X2, q1, q2, q3, q4, _⟩ => ⟨?_, X2, q1, q2, q3⟩
            rw [hx] at q4
            rw [(hV i o us[i] h2' hui hmi).1 x hx]
            exact rel_v q4
          · have hex := (move_run hop k4 hR).2
            unfold Runs
            rw [hex]
            refine ⟨?_, X1, rfl, New.refl X1, c5.gb⟩
            rw [(relV i o us[i] h2' hui hmi).2.2 s hop hns]
            exact c9 s (hfree s (by simp only [seesOf, hop]; exact List.mem_append_left _ (by simp [Op.operands, tmpsOf])) hns)
        refine hrun.wp fun x w' ⟨hx, X2, q1, q2, q3⟩ => ?_
        subst q1 hx
        refine ih (listed.setIfInBounds i true) X2 (a1.put o.dst (V i)) (by simp [hsz]) hcnt (by rw [put_defers]; exact hd1) ⟨tf, σ1, done, rem, c1, fun j hj => ?_, fun j hj => ?_, ⟨by rw [put_sz]; exact c4.size, fun t ht => ?_, c4.val⟩, c5.new q2 q3, c6, c7.trans (q2.ext c5.gb c5.fb), by rw [put_sz]; exact c8, fun t ht => ?_⟩ hdn'
        · rw [hset]; split
          · rfl
          · exact c2 j hj
        · rw [hset, if_neg (fun e => by
            subst e
            have := (hB.call j hil).2 (by rw [c1]; exact List.mem_append_right _ hj)
            rw [hmi] at this; cases this)]
          exact c3 j hj
        · rw [put_getD, k1]
          by_cases e : t = d
          · subst e
            rw [if_pos ⟨rfl, by rw [c8]; exact hdl⟩]
            exact c4.val i o t h2' hmi k1
          · rw [if_neg (by rintro ⟨h, _⟩; exact e (Option.some.inj h).symm)]
            refine c4.same t fun q oq j1 j2 j3 => ?_
            have := ht q oq j1 j2 j3
            rw [hset] at this
            by_cases e2 : q = i
            · subst e2
              rw [h2'] at j1; cases j1
              rw [k1] at j3; cases j3; exact absurd rfl e
            · rw [if_neg e2] at this; exact this
        · rw [put_getD, if_neg (by
            rintro ⟨h, _⟩
            have := (ht i o h2' h).1
            rw [hmi] at this; cases this)]
          refine c9 t fun q oq j1 j2 => ?_
          obtain ⟨m1, m2⟩ := ht q oq j1 j2
          refine ⟨m1, ?_⟩
          rw [hset] at m2
          by_cases e2 : q = i
          · rw [if_pos e2] at m2; cases m2
          · rw [if_neg e2] at m2; exact m2
      | false =>
        obtain ⟨hg, hsel⟩ := hB.cguard i o h2' hmi
        have hics : i ∈ cs := (hB.call i hil).1 hmi
        have hirem : i ∈ rem := by
          rw [c1] at hics
          rcases List.mem_append.1 hics with h | h
          · rw [c2 i h] at hlf; cases hlf
          · exact h
        obtain ⟨r, hr⟩ : ∃ r, rem = i :: r := by
          cases hrem : rem with
          | nil => rw [hrem] at hirem; cases hirem
          | cons c r =>
            rw [hrem] at hirem
            rcases List.mem_cons.1 hirem with rfl | hir
            · exact ⟨r, rfl⟩
            · exfalso
              obtain ⟨j, hj⟩ := List.getElem?_of_mem hir
              have hjl : j < (c :: r).length := by
                have := (List.getElem?_eq_some_iff.1 hj).1
                simp; omega
              have hpre : cs[done.length + j]? = some (c :: r)[j] := by
                rw [c1, hrem, List.getElem?_append_right (by omega), show done.length + j - done.length = j by omega]
                exact List.getElem?_eq_getElem hjl
              have hpost : cs[done.length + j + 1]? = some i := by
                rw [c1, hrem, List.getElem?_append_right (by omega), show done.length + j + 1 - done.length = j + 1 by omega]
                simpa using hj
              have h5 := hdep _ (hB.cchain _ _ _ o hpre hpost h2')
              rw [c3 _ (by rw [hrem]; exact List.getElem_mem hjl)] at h5; cases h5
        subst hr
        have hw : Region.wanted o (yielded l.toArray a1.tmps) = true := by unfold Region.wanted; rw [hg]
        rw [if_pos hw]
        left
        simp only [List.filterMap_cons, h2', CSem] at c6
        have hrun := c6 F' X1 { tmps := tf, defers := a1.defers } c5
        have hev : execOp ({ tmps := tf, defers := a1.defers } : Act).eval o = execOp a1.eval o := by
          refine execOp_congr o hsel fun x hx => ?_
          cases x with
          | tmp t => exact hseen t (by simp only [seesOf]; exact List.mem_append_left _ (mem_tmpsOf (by simpa using hx)))
          | const v => rfl
          | func f => rfl
          | global g => rfl
        unfold Runs at hrun
        rw [hev] at hrun
        have hrun1 : Runs P o a1 X1.w fun x w' => ∃ (X' : GW) (σ' : AS), X'.w = w' ∧ CSem P (fun σ2 => ARun P Q ks (σ2.withH (σ2.h ++ H1))) (r.filterMap fun i => l[i]?) σ' ∧ SimE F' X' σ' (({ tmps := tf, defers := a1.defers } : Act).put o.dst x).tmps ∧ Ext F' X1 X' := hrun
        have hnd : ∀ (q : Nat) oq t, l[q]? = some oq → mN q = true → oq.dst = some t → o.dst ≠ some t := fun q oq t j1 j2 j3 e => by
          have := hB.ndst q i oq o t j1 h2' j2 j3 e
          subst this
          rw [hmi] at j2; cases j2
        refine hrun1.wp fun x w' ⟨X2, σ2, q1, q2, q3, q4⟩ => ?_
        subst q1
        have hnodup := hB.cnodup
        rw [c1] at hnodup
        refine ih (listed.setIfInBounds i true) X2 (a1.put o.dst x) (by simp [hsz]) hcnt (by rw [put_defers]; exact hd1) ⟨_, σ2, done ++ [i], r, by rw [c1]; simp, fun j hj => ?_, fun j hj => ?_, ⟨by rw [put_sz, put_sz]; exact c4.size, fun t ht => ?_, fun q oq t j1 j2 j3 => ?_⟩, q3, q2, c7.trans q4, by rw [put_sz]; exact c8, fun t ht => ?_⟩ hdn'
        · rw [hset]; split
          · rfl
          · rcases List.mem_append.1 hj with hj | hj
            · exact c2 j hj
            · rename_i hne
              simp at hj; exact absurd hj hne
        · have hji : j ≠ i := by
            rintro rfl
            have h6 := (List.nodup_append.1 hnodup).2.1
            rw [List.nodup_cons] at h6
            exact h6.1 hj
          rw [hset, if_neg hji]
          exact c3 j (List.mem_cons_of_mem _ hj)
        · rw [put_getD, put_getD]
          have hsz2 : ({ tmps := tf, defers := a1.defers } : Act).tmps.size = a1.tmps.size := c4.size
          rw [hsz2]
          by_cases e : o.dst = some t ∧ t < a1.tmps.size
          · rw [if_pos e, if_pos e]
          · rw [if_neg e, if_neg e]
            refine c4.same t fun q oq j1 j2 j3 => ?_
            have := ht q oq j1 j2 j3
            rw [hset] at this
            by_cases e2 : q = i
            · subst e2; rw [hmi] at j2; cases j2
            · rw [if_neg e2] at this; exact this
        · rw [put_getD, if_neg (by rintro ⟨h, _⟩; exact hnd q oq t j1 j2 j3 h)]
          exact c4.val q oq t j1 j2 j3
        · rw [put_getD, if_neg (by
            rintro ⟨h, _⟩
            have := (ht i o h2' h).2
            rw [hset, if_pos rfl] at this; cases this)]
          refine c9 t fun q oq j1 j2 => ?_
          obtain ⟨m1, m2⟩ := ht q oq j1 j2
          refine ⟨m1, ?_⟩
          rw [hset] at m2
          by_cases e2 : q = i
          · rw [if_pos e2] at m2; cases m2
          · rw [if_neg e2] at m2; exact m2
  have hXd : New X ⟨X.w.drew, X.g⟩ := ⟨rfl, rfl, rfl, Nat.le_refl _, fun _ _ => ⟨rfl, rfl⟩⟩
  have hsd := hs0.new hXd hs.gb
  have hno : ∀ i, (Array.replicate l.toArray.size false).getD i false = false := fun i => by
    simp only [Array.getD_eq_getD_getElem?, Array.getElem?_replicate]
    split <;> simp
  refine key _ _ ⟨X.w.drew, X.g⟩ a (by simp) (by refine Nat.le_trans (List.length_filter_le _ _) (by simp)) hdf ⟨tf0, _, [], cs, rfl, (fun i hi => by cases hi), (fun i _ => hno i), ⟨hf1, (fun t ht => hf2 t fun q o k1 k2 k3 => by have := ht q o k1 k2 k3; rw [hno] at this; cases this), hf3⟩, hsd, hC, hXd.ext hs.gb hF'lt, rfl, fun t _ => rfl⟩ (fun j oj _ hf => by rw [hno] at hf; cases hf)
/-! ### The order, checked -/
def isSel : Op → Bool
  | .select _ _ => true
  | _ => false
def pairB (l : List Oper) (mN : Nat → Bool) (i q : Nat) (o oq : Oper) : Bool :=
  match oq.dst with
  | none => true
  | some d => (!mN q || ((i == q || !(o.dst == some d)) && (!(seesOf l o).contains d || (Nat.blt q i && (depsOf o).contains q)))) && (!mN i || mN q || !(seesOf l o).contains d || (depsOf oq).contains i)
def chnB (l : List Oper) : List Nat → Bool
  | a :: b :: r => (match l[b]? with | some o => (depsOf o).contains a | none => true) && chnB l (b :: r)
  | _ => true
theorem chnB_spec {l : List Oper} : ∀ {cs : List Nat}, chnB l cs = true → ∀ (j a b : Nat) o, cs[j]? = some a → cs[j + 1]? = some b → l[b]? = some o → a ∈ depsOf o
  | [], _, j, a, b, o, h1, _, _ => by simp at h1
  | [x], _, j, a, b, o, _, h2, _ => by simp at h2
  | x :: y :: r, h, 0, a, b, o, h1, h2, h3 => by
    simp only [chnB, Bool.and_eq_true] at h
    simp at h1 h2
    subst h1 h2
    have := h.1
    rw [h3] at this
    simpa using this
  | x :: y :: r, h, j + 1, a, b, o, h1, h2, h3 => by
    simp only [chnB, Bool.and_eq_true] at h
    exact chnB_spec h.2 j a b o (by simpa using h1) (by simpa using h2) h3
def mixB (l : List Oper) (mN : Nat → Bool) (cs : List Nat) : Bool :=
  lexFrom 0 l && (l.zipIdx.all fun p => l.zipIdx.all fun q => pairB l mN p.2 q.2 p.1 q.1) && (l.zipIdx.all fun p => (mN p.2 == !cs.contains p.2) && (mN p.2 || (p.1.guard.isNone && !isSel p.1.op))) && cs.all (fun i => Nat.blt i l.length) && decide cs.Nodup && chnB l cs
theorem mem_zi {l : List Oper} {i : Nat} {o : Oper} (h : l[i]? = some o) : (o, i) ∈ l.zipIdx := by
  refine List.mem_of_getElem? (i := i) ?_
  rw [List.getElem?_zipIdx, h]; simp
theorem mixB_ok {l : List Oper} {mN : Nat → Bool} {cs : List Nat} (h : mixB l mN cs = true) : MixOk l mN cs := by
  simp only [mixB, Bool.and_eq_true] at h
  obtain ⟨⟨⟨⟨⟨h1, h2⟩, h3⟩, h4⟩, h5⟩, h6⟩ := h
  have hp : ∀ (i q : Nat) o oq, l[i]? = some o → l[q]? = some oq → pairB l mN i q o oq = true := fun i q o oq a b => List.all_eq_true.1 (List.all_eq_true.1 h2 _ (mem_zi a)) _ (mem_zi b)
  have h3' : ∀ (i : Nat) o, l[i]? = some o → (mN i == !cs.contains i) = true ∧ (mN i || (o.guard.isNone && !isSel o.op)) = true := fun i o a => by
    have := List.all_eq_true.1 h3 _ (mem_zi a)
    simpa using this
  refine ⟨fun i o ho j hj => ?_, fun q q' o o' d a b c e f => ?_, fun i o q oq d a b c e f => ?_, fun i o q oq d a c b c2 e f => ?_, fun i hi => ?_, fun i hi => ?_, of_decide_eq_true h5, chnB_spec h6, fun i o ho hm => ?_⟩
  · have := lexFrom_spec l 0 i o h1 ho j hj
    omega
  · have := hp q' q o' o b a
    simp only [pairB, e, c, Bool.not_true, Bool.false_or, Bool.and_eq_true, Bool.or_eq_true, f, beq_self_eq_true, Bool.false_eq_true, or_false] at this
    have := this.1.1
    simp at this
    exact this.symm
  · have := hp i q o oq a b
    have hf : (seesOf l o).contains d = true := by simpa using f
    simp only [pairB, e, c, Bool.not_true, Bool.false_or, Bool.and_eq_true, hf] at this
    obtain ⟨⟨_, k1, k2⟩, _⟩ := this
    exact ⟨by simpa [Nat.blt_eq] using k1, by simpa using k2⟩
  · have := hp i q o oq a b
    have hf : (seesOf l o).contains d = true := by simpa using f
    simp only [pairB, e, c, c2, hf, Bool.not_true, Bool.not_false, Bool.true_or, Bool.false_or, Bool.or_false, Bool.true_and, Bool.and_false, Bool.false_eq_true] at this
    simpa using this
  · have ho := List.getElem?_eq_getElem hi
    have := (h3' i _ ho).1
    have e : mN i = !cs.contains i := by simpa using this
    rw [e]; simp
  · have := List.all_eq_true.1 h4 i hi
    simpa [Nat.blt_eq] using this
  · have := (h3' i o ho).2
    rw [hm] at this
    simp only [Bool.false_or, Bool.and_eq_true] at this
    refine ⟨by cases hg : o.guard with
      | none => rfl
      | some p => rw [hg] at this; simp at this, fun c b e => ?_⟩
    have h7 := this.2
    rw [e] at h7; simp [isSel] at h7
end
end Go.Proofs.YtgmlkhfjhogdbaaGreat

/- Boxes that own something are set aside, and come back. -/
namespace Go.Proofs.YtgmlkhfjhogdbaaGreat
open Go.RowKit P
set_option linter.unusedSimpArgs false
set_option linter.unusedVariables false

/-- What is set aside: boxes, and what their cells own. -/
def AsideF (F : Nat → Prop) (X : GW) (H1 : List (Nat × List AV)) (b : Nat) : Prop :=
  F b ∨ (∃ c, look H1 b = some c) ∨ ∃ k o sz l a n c cs, look H1 k = some cs ∧ own1 cs[o]? = some (sz, l) ∧ X.w.cell? ⟨k, o, none⟩ = some (.slice (some a) n c) ∧ a.block = b
theorem own_of_h {σ : AS} {H : List (Nat × List AV)} (hH : ∀ k cs, look H k = some cs → look σ.h k = some cs) : ∀ r sz l, (σ.withH H).own r = some (sz, l) → σ.own r = some (sz, l) := fun r sz l ho => by
  cases r with
  | s t => exact ho
  | c k o =>
    simp only [AS.own, AS.withH] at ho ⊢
    cases hl : look H k with
    | none => rw [hl] at ho; cases ho
    | some cs => rw [hl] at ho; rw [hH k cs hl]; exact ho
theorem own_cellX {σ : AS} {k o sz : Nat} {l : List (List AV)} {cs : List AV} (h1 : look σ.h k = some cs) (h2 : own1 cs[o]? = some (sz, l)) : σ.own (.c k o) = some (sz, l) := by
  simp only [AS.own, h1]; exact h2
theorem own_blk {F : Nat → Prop} {X : GW} {sz : Nat} {l : List (List AV)} {a : Addr} {n c : Nat} (h : OwnOk F X sz l (.slice (some a) n c)) : a.block < X.w.heap.size ∧ ¬ F a.block ∧ (∃ m, X.g a.block = some m) ∧ a = ⟨a.block, 0, none⟩ := by
  rcases h with ⟨h, _⟩ | ⟨b', cap, cs, e, fr, h1, h2, h3, h4, h5, h6⟩
  · cases h
  · cases h1
    exact ⟨(Array.getElem?_eq_some_iff.1 h3).1, h6, ⟨_, h2⟩, rfl⟩
theorem SimE.aside {F : Nat → Prop} {X : GW} {σ : AS} {tm : Array Value} (st : Nat → Bool) (h : SimE F X σ tm) (he : σ.e = []) : SimE (AsideF F X (σ.h.filter fun p => st p.1)) X (σ.withH (σ.h.filter fun p => !st p.1)) tm := by
  have h1 : ∀ k c, look (σ.h.filter fun p => st p.1) k = some c → st k = true ∧ look σ.h k = some c := fun k c hk => by
    rw [look_filt] at hk
    by_cases e : st k = true
    · rw [if_pos e] at hk; exact ⟨e, hk⟩
    · rw [if_neg e] at hk; cases hk
  have h0 : ∀ k c, look (σ.h.filter fun p => !st p.1) k = some c → st k = false ∧ look σ.h k = some c := fun k c hk => by
    rw [look_filt (fun q => !st q)] at hk
    by_cases e : st k = true
    · simp [e] at hk
    · simp only [Bool.not_eq_true] at e
      simp [e] at hk; exact ⟨e, hk⟩
  have hown := own_of_h (σ := σ) (fun k cs hk => (h0 k cs hk).2)
  -- what an owner of H1 owns
  have hO : ∀ k o sz l a n c cs, look (σ.h.filter fun p => st p.1) k = some cs → own1 cs[o]? = some (sz, l) → X.w.cell? ⟨k, o, none⟩ = some (.slice (some a) n c) → st k = true ∧ σ.own (.c k o) = some (sz, l) ∧ OwnOk F X sz l (.slice (some a) n c) := fun k o sz l a n c cs hk ho hc => by
    obtain ⟨e1, e2⟩ := h1 k cs hk
    have e3 := own_cellX e2 ho
    obtain ⟨x, hx, hok⟩ := h.own _ _ _ e3
    have : x = .slice (some a) n c := Option.some.inj (hx.symm.trans hc)
    rw [this] at hok
    exact ⟨e1, e3, hok⟩
  have hlt : ∀ b, AsideF F X (σ.h.filter fun p => st p.1) b → b < X.w.heap.size := fun b hb => by
    rcases hb with hb | ⟨c, hc⟩ | ⟨k, o, sz, l, a, n, c, cs, hk, ho, hc, rfl⟩
    · exact h.fb b hb
    · exact (h.box b c (h1 b c hc).2).lt
    · exact (own_blk (hO k o sz l a n c cs hk ho hc).2.2).1
  refine ⟨⟨h.size, h.gb, hlt, h.slot, fun k cs hk => ?_, fun x r hx => ?_, fun r sz l ho => ?_, fun r r' sz l sz' l' a n c a' n' c' hne ho ho' hr hr' => h.disj r r' sz l sz' l' a n c a' n' c' hne (hown _ _ _ ho) (hown _ _ _ ho') hr hr'⟩, fun p hp => ?_⟩
  · obtain ⟨e1, e2⟩ := h0 k cs hk
    have hb := h.box k cs e2
    refine hb.keep ⟨rfl, rfl, fun hF => ?_⟩ (Pres.refl X)
    rcases hF with hF | ⟨c, hc⟩ | ⟨k', o, sz, l, a, n, c, cs', hk', ho, hc, e⟩
    · exact hb.nF hF
    · rw [(h1 k c hc).1] at e1; cases e1
    · obtain ⟨_, _, ⟨m, hm⟩, _⟩ := own_blk (hO k' o sz l a n c cs' hk' ho hc).2.2
      rw [e, hb.gn] at hm; cases hm
  · have : look σ.e x = some r := hx
    rw [he] at this; cases this
  · obtain ⟨x, hx, hok⟩ := h.own r sz l (hown _ _ _ ho)
    refine ⟨x, hx, hok.keep fun b n c hxe => ⟨rfl, rfl, fun hF => ?_⟩⟩
    subst hxe
    rcases hF with hF | ⟨c', hc⟩ | ⟨k', o', sz', l', a', n', c', cs', hk', ho', hc', e⟩
    · exact (own_blk hok).2.1 hF
    · obtain ⟨_, _, ⟨m, hm⟩, _⟩ := own_blk hok
      rw [(h.box _ _ (h1 _ _ hc).2).gn] at hm; cases hm
    · obtain ⟨e1, e2, e3⟩ := hO k' o' sz' l' a' n' c' cs' hk' ho' hc'
      have hne : r ≠ .c k' o' := by
        rintro rfl
        simp only [AS.own, AS.withH] at ho
        cases hl : look (σ.h.filter fun p => !st p.1) k' with
        | none => rw [hl] at ho; cases ho
        | some cs2 =>
          have := (h0 k' cs2 hl).1
          rw [e1] at this; cases this
      exact h.disj r (.c k' o') sz l sz' l' _ _ _ _ _ _ hne (hown _ _ _ ho) e2 hx hc' e.symm
  · have : p ∈ σ.e := hp
    rw [he] at this; cases this
/-- Boxes that were set aside come back, with what they own. -/
theorem SimE.backO {F F' : Nat → Prop} {X0 X : GW} {σ0 σ' : AS} {tm0 tm : Array Value} {H1 : List (Nat × List AV)} (h0 : SimE F X0 σ0 tm0) (hH : ∀ k cs, look H1 k = some cs → look σ0.h k = some cs) (h : SimE F' X σ' tm) (hF : ∀ b, AsideF F X0 H1 b → F' b) (hx : Ext F' X0 X) : SimE F X (σ'.withH (σ'.h ++ H1)) tm := by
  have hlook : ∀ k cs, look (σ'.h ++ H1) k = some cs → look σ'.h k = some cs ∨ (look σ'.h k = none ∧ look H1 k = some cs) := fun k cs hk => by
    rw [look_append] at hk
    cases hl : look σ'.h k with
    | some c => rw [hl] at hk; cases hk; exact .inl rfl
    | none => rw [hl] at hk; exact .inr ⟨rfl, hk⟩
  have hF0 : ∀ b, F b → F' b := fun b hb => hF b (.inl hb)
  have hF1 : ∀ k cs, look H1 k = some cs → F' k := fun k cs hk => hF k (.inr (.inl ⟨cs, hk⟩))
  have hown : ∀ r sz l, (σ'.withH (σ'.h ++ H1)).own r = some (sz, l) → σ'.own r = some (sz, l) ∨ ∃ k o cs, r = .c k o ∧ look H1 k = some cs ∧ own1 cs[o]? = some (sz, l) := fun r sz l ho => by
    cases r with
    | s t => exact .inl ho
    | c k o =>
      simp only [AS.own, AS.withH] at ho ⊢
      cases hl : look (σ'.h ++ H1) k with
      | none => rw [hl] at ho; cases ho
      | some cs =>
        rw [hl] at ho
        rcases hlook k cs hl with h1 | ⟨h1, h2⟩
        · rw [h1]; exact .inl ho
        · exact .inr ⟨k, o, cs, rfl, h2, ho⟩
  -- an owner that was set aside: as it was
  have hold : ∀ k o cs sz l, look H1 k = some cs → own1 cs[o]? = some (sz, l) → ∃ x, X.w.cell? ⟨k, o, none⟩ = some x ∧ X0.w.cell? ⟨k, o, none⟩ = some x ∧ OwnOk F X0 sz l x ∧ OwnOk F X sz l x := fun k o cs sz l hk ho => by
    obtain ⟨x, hx1, hok⟩ := h0.own (.c k o) sz l (own_cellX (hH k cs hk) ho)
    have hc0 : X0.w.cell? ⟨k, o, none⟩ = some x := hx1
    refine ⟨x, by rw [cell_of_heap (hx.frame k (hF1 k cs hk)).1]; exact hc0, hc0, hok, hok.keep fun b n c hxe => ?_⟩
    subst hxe
    have hb := hF b (.inr (.inr ⟨k, o, sz, l, _, _, _, cs, hk, ho, hc0, rfl⟩))
    exact ⟨(hx.frame b hb).1, (hx.frame b hb).2, (own_blk hok).2.1⟩
  have hnF' : ∀ r sz l a n c, σ'.own r = some (sz, l) → rootV tm X.w r = some (.slice (some a) n c) → ¬ F' a.block := fun r sz l a n c ho hr => by
    obtain ⟨x, k1, k2⟩ := h.own r sz l ho
    have : x = .slice (some a) n c := Option.some.inj (k1.symm.trans hr)
    rw [this] at k2
    exact (own_blk k2).2.1
  refine ⟨⟨h.size, h.gb, fun b hb' => h.fb b (hF0 b hb'), h.slot, fun k cs hk => ?_, h.eqs, fun r sz l ho => ?_, fun r r' sz l sz' l' a n c a' n' c' hne ho ho' hr hr' => ?_⟩, h.eqm⟩
  · rcases hlook k cs hk with h1 | ⟨h1, h2⟩
    · exact (h.box k cs h1).keep ⟨rfl, rfl, fun e => (h.box k cs h1).nF (hF0 k e)⟩ (Pres.refl X)
    · have hk' := h0.box k cs (hH k cs h2)
      exact hk'.keep ⟨(hx.frame k (hF1 k cs h2)).1, (hx.frame k (hF1 k cs h2)).2, hk'.nF⟩ hx.pres
  · rcases hown r sz l ho with h1 | ⟨k, o, cs, rfl, h1, h2⟩
    · obtain ⟨x, k1, k2⟩ := h.own r sz l h1
      exact ⟨x, k1, k2.keep fun b n c hv => ⟨rfl, rfl, fun e => (k2.lt hv).2 (hF0 b e)⟩⟩
    · obtain ⟨x, k1, _, _, k2⟩ := hold k o cs sz l h1 h2
      exact ⟨x, k1, k2⟩
  · rcases hown r sz l ho with h1 | ⟨k, o, cs, rfl, h1, h2⟩
    · rcases hown r' sz' l' ho' with h3 | ⟨k', o', cs', rfl, h3, h4⟩
      · exact h.disj r r' sz l sz' l' a n c a' n' c' hne h1 h3 hr hr'
      · obtain ⟨x, k1, k0, k2, _⟩ := hold k' o' cs' sz' l' h3 h4
        have : x = .slice (some a') n' c' := Option.some.inj (k1.symm.trans hr')
        subst this
        intro e
        exact hnF' r sz l a n c h1 hr (by rw [e]; exact hF _ (.inr (.inr ⟨k', o', sz', l', _, _, _, cs', h3, h4, k0, rfl⟩)))
    · obtain ⟨x, k1, k0, k2, _⟩ := hold k o cs sz l h1 h2
      have : x = .slice (some a) n c := Option.some.inj (k1.symm.trans hr)
      subst this
      rcases hown r' sz' l' ho' with h3 | ⟨k', o', cs', rfl, h3, h4⟩
      · intro e
        exact hnF' r' sz' l' a' n' c' h3 hr' (by rw [← e]; exact hF _ (.inr (.inr ⟨k, o, sz, l, _, _, _, cs, h1, h2, k0, rfl⟩)))
      · obtain ⟨x', k1', k0', _, _⟩ := hold k' o' cs' sz' l' h3 h4
        have : x' = .slice (some a') n' c' := Option.some.inj (k1'.symm.trans hr')
        subst this
        exact h0.disj (.c k o) (.c k' o') sz l sz' l' a n c a' n' c' hne (own_cellX (hH k cs h1) h2) (own_cellX (hH k' cs' h3) h4) k0 k0'
end Go.Proofs.YtgmlkhfjhogdbaaGreat

/- Regions that draw, over an invariant: what turns nothing in whatever order, among a chain of what turns something. -/
namespace Go.Proofs.YtgmlkhfjhogdbaaGreat
open Go.RowKit P
set_option linter.unusedSimpArgs false
set_option linter.unusedVariables false
section
variable {P : Program} {Q : Exit → AS → Prop} {ks : List It} {σ : AS} {l : List Oper} {mN : Nat → Bool}
/-- The act filled with what is to come of what turns nothing. -/
structure Full (l : List Oper) (mN : Nat → Bool) (V : Nat → Value) (tm tf : Array Value) : Prop where
  size : tf.size = tm.size
  same : ∀ t, (∀ (q : Nat) o, l[q]? = some o → mN q = true → o.dst ≠ some t) → tf.getD t undef = tm.getD t undef
  val : ∀ (q : Nat) o t, l[q]? = some o → mN q = true → o.dst = some t → tf.getD t undef = V q
theorem full_ex {V : Nat → Value} {cs : List Nat} {tm : Array Value} (hB : MixOk l mN cs) (hst : ∀ (q : Nat) o d, l[q]? = some o → mN q = true → o.dst = some d → d < tm.size) : ∃ tf, Full l mN V tm tf := by
  classical
  refine ⟨Array.ofFn (n := tm.size) fun t => if hx : ∃ q o, l[q]? = some o ∧ mN q = true ∧ o.dst = some t.1 then V (Classical.choose hx) else tm.getD t.1 undef, by simp, fun t ht => ?_, fun q o t ho hmq hod => ?_⟩
  · simp only [Array.getD_eq_getD_getElem?, Array.getElem?_ofFn]
    by_cases hl : t < tm.size
    · rw [dif_pos hl, dif_neg (by rintro ⟨q, o, k1, k2, k3⟩; exact ht q o k1 k2 k3)]; rfl
    · rw [dif_neg hl, Array.getElem?_eq_none (Nat.le_of_not_lt hl)]
  · simp only [Array.getD_eq_getD_getElem?, Array.getElem?_ofFn]
    have hl := hst q o t ho hmq hod
    have hx : ∃ q o, l[q]? = some o ∧ mN q = true ∧ o.dst = some t := ⟨q, o, ho, hmq, hod⟩
    rw [dif_pos hl, dif_pos hx]
    obtain ⟨o', k1, k2, k3⟩ := Classical.choose_spec hx
    have := hB.ndst _ q o' o t k1 ho k2 k3 hod
    simp only [Option.getD_some, this]
/-- What is asked of an invariant. -/
structure DrawG (P : Program) (Q : Exit → AS → Prop) (ks : List It) (l : List Oper) (mN : Nat → Bool) (cs : List Nat) (lim : Nat → Nat) (F : Nat → Prop) (X : GW) (tm tf0 : Array Value) (D : List Deferred) (V : Nat → Value) (J : Nat → GW → Array Value → Prop) : Prop where
  start : J 0 X tf0
  n : ∀ (i : Nat) o j X1 (a1 : Act) tf, l[i]? = some o → mN i = true → j ≤ lim i → J j X1 tf → (∀ t, t ∈ seesOf l o → a1.tmps.getD t undef = tf0.getD t undef) → Runs P o a1 X1.w fun x w' => x = V i ∧ ∃ X2 : GW, X2.w = w' ∧ J j X2 tf ∧ Ext F X1 X2
  c : ∀ (j c : Nat) o X1 tf, cs[j]? = some c → l[c]? = some o → J j X1 tf → runsX P (fun x w' => ∃ X' : GW, X'.w = w' ∧ J (j + 1) X' (({ tmps := tf, defers := D } : Act).put o.dst x).tmps ∧ Ext F X1 X') (fun v w' => ∃ (X' : GW) (H2 : List (Nat × List AV)) (tm2 : Array Value), X'.w = w' ∧ Stk P Q ks (.panic [{ v := v, recovered := false }]) ⟨tm.size, [], H2, []⟩ ∧ SimE F X' ⟨tm.size, [], H2, []⟩ tm2 ∧ Ext F X1 X') ((execOp ({ tmps := tf, defers := D } : Act).eval o).run P X1.w)
  fin : ∀ X1 tf, J cs.length X1 tf → ∃ σ' : AS, SimE F X1 σ' tf ∧ ARun P Q ks σ'
theorem SimE.slotless {F : Nat → Prop} {X : GW} {n : Nat} {H : List (Nat × List AV)} {tm tm' : Array Value} (h : SimE F X ⟨n, [], H, []⟩ tm) (hs : tm'.size = n) : SimE F X ⟨n, [], H, []⟩ tm' := by
  have hr : ∀ r sz l, AS.own ⟨n, [], H, []⟩ r = some (sz, l) → rootV tm' X.w r = rootV tm X.w r := fun r sz l ho => by
    cases r with
    | s t => simp only [AS.own, look_nil] at ho; cases ho
    | c k o => rfl
  refine ⟨⟨hs, h.gb, h.fb, fun t u hu => (by cases hu), h.box, fun x r hx => (by cases hx), fun r sz l ho => ?_, fun r r' sz l sz' l' a n c a' n' c' hne ho ho' hr1 hr2 => ?_⟩, fun p hp => by cases hp⟩
  · rw [hr r sz l ho]; exact h.own r sz l ho
  · rw [hr r sz l ho] at hr1
    rw [hr r' sz' l' ho'] at hr2
    exact h.disj r r' sz l sz' l' a n c a' n' c' hne ho ho' hr1 hr2
theorem ar_drawG {id : Nat} {cs : List Nat} {lim : Nat → Nat} (hm : P.follows .mixedOrders = true) (hB : MixOk l mN cs) (hlim : ∀ (i j c : Nat) o, mN i = true → lim i = j → cs[j]? = some c → l[c]? = some o → ∀ p : Nat → Prop, (∀ (q : Nat) oq, l[q]? = some oq → p q → ∀ d ∈ depsOf oq, p d) → p c → p i)
    (hd : ∀ (i : Nat) o, l[i]? = some o → mN i = true → ∃ d, o.dst = some d ∧ o.guard = none ∧ d < σ.n)
    (h : ∀ F X tm D, SimE F X σ tm → ∃ V J, ∀ tf0, Full l mN V tm tf0 → DrawG P Q ks l mN cs lim F X tm tf0 D V J) : ARun P Q (.c (.region id l.toArray true) :: ks) σ := by
  intro F X a hs D hdf
  have hXd : New X ⟨X.w.drew, X.g⟩ := ⟨rfl, rfl, rfl, Nat.le_refl _, fun _ _ => ⟨rfl, rfl⟩⟩
  have hdst : ∀ (i : Nat) o, l[i]? = some o → mN i = true → ∃ d, o.dst = some d ∧ o.guard = none ∧ d < a.tmps.size := fun i o ho hmi => by
    obtain ⟨d, k1, k2, k3⟩ := hd i o ho hmi
    exact ⟨d, k1, k2, by rw [hs.size]; exact k3⟩
  obtain ⟨V, J, hG⟩ := h F ⟨X.w.drew, X.g⟩ a.tmps D (hs.new hXd hs.gb)
  obtain ⟨tf0, hfull⟩ := full_ex (V := V) (tm := a.tmps) hB fun q o d ho hmq hod => by
    obtain ⟨d', k1, _, k3⟩ := hdst q o ho hmq
    rw [hod] at k1; cases k1; exact k3
  obtain ⟨hf1, hf2, hf3⟩ := hfull
  obtain ⟨hJ, hN, hC, hfin⟩ := hG tf0 ⟨hf1, hf2, hf3⟩
  refine wp_region_any hm ?_
  let Inv : Array Bool → GW → Act → Prop := fun listed X1 a1 => ∃ (tf : Array Value) (done rem : List Nat), cs = done ++ rem ∧ (∀ i ∈ done, listed.getD i false = true) ∧ (∀ i ∈ rem, listed.getD i false = false) ∧ Filled l mN V listed a1.tmps tf ∧
    J done.length X1 tf ∧ Ext F X X1 ∧ a1.tmps.size = a.tmps.size ∧ (∀ t, (∀ (q : Nat) oq, l[q]? = some oq → oq.dst = some t → mN q = false ∧ listed.getD q false = false) → a1.tmps.getD t undef = a.tmps.getD t undef)
  have key : ∀ (fuel : Nat) (listed : Array Bool) (X1 : GW) (a1 : Act), listed.size = l.length →
      ((List.range l.length).filter (fun i => !listed.getD i true)).length ≤ fuel → a1.defers = D → Inv listed X1 a1 → (∀ j oj, l[j]? = some oj → listed.getD j false = true → ∀ d ∈ depsOf oj, listed.getD d false = true) →
      wpAny P .any l.toArray (PostA F X D (Stk P Q ks)) fuel listed a1 X1.w := by
    have fin : ∀ (listed : Array Bool) (X1 : GW) (a1 : Act), listed.size = l.length → Region.ready .any l.toArray listed = [] → a1.defers = D → Inv listed X1 a1 → PostA F X D (Stk P Q ks) .normal a1 X1.w := by
      rintro listed X1 a1 hsz hnil hd1 ⟨tf, done, rem, c1, c2, c3, c4, c5, c7, c8, c9⟩
      have hall : ∀ i, i < l.length → listed.getD i false = true := by
        intro i hil
        apply Classical.byContradiction
        intro hc
        have hc : listed.getD i false = false := by simpa using hc
        obtain ⟨k, hk, hkf, hkl⟩ := first_false (fun j => listed.getD j false) l.length ⟨i, hil, hc⟩
        have hmem : k ∈ Region.ready .any l.toArray listed := by
          refine mem_ready.2 ⟨by rw [getD_tf (by omega)]; exact hkf, l[k], by simp [hk], fun e he hb => ?_⟩
          exact hkl e.on (hB.lex k l[k] (List.getElem?_eq_getElem hk) e.on (mem_depsOf.2 ⟨e, he, hb, rfl⟩))
        rw [hnil] at hmem; cases hmem
      have hrem : rem = [] := by
        cases rem with
        | nil => rfl
        | cons c r =>
          have h1 := c3 c List.mem_cons_self
          rw [hall c (hB.clt c (by rw [c1]; simp))] at h1; cases h1
      subst hrem
      have htf : tf = a1.tmps := by
        apply Array.ext c4.size
        intro i h1 h2
        have := c4.same i fun q o k1 _ _ => hall q (List.getElem?_eq_some_iff.1 k1).1
        simpa [h1, h2] using this
      rw [htf] at c5
      rw [List.append_nil] at c1
      rw [← c1] at c5
      obtain ⟨σ', g1, g2⟩ := hfin X1 a1.tmps c5
      exact ⟨hd1, X1, σ', rfl, g2, g1, c7⟩
    intro fuel
    induction fuel with
    | zero =>
      intro listed X1 a1 hsz hf hd1 hI hdn
      have hnil : Region.ready .any l.toArray listed = [] := by
        rw [List.eq_nil_iff_forall_not_mem]
        intro i hi
        obtain ⟨h1, o, h2, _⟩ := mem_ready.1 hi
        have hil : i < l.length := by simpa using (Array.getElem?_eq_some_iff.1 h2).1
        have h0 := List.length_eq_zero_iff.1 (Nat.le_zero.1 hf)
        have := List.filter_eq_nil_iff.1 h0 i (List.mem_range.2 hil)
        rw [h1] at this; exact this rfl
      exact ⟨hnil, fin listed X1 a1 hsz hnil hd1 hI⟩
    | succ fuel ih =>
      intro listed X1 a1 hsz hf hd1 hI hdn
      refine ⟨fun hnil => fin listed X1 a1 hsz hnil hd1 hI, fun i hi => ?_⟩
      obtain ⟨h1, o, h2, h3⟩ := mem_ready.1 hi
      have h2' : l[i]? = some o := by simpa using h2
      have hil : i < l.length := (List.getElem?_eq_some_iff.1 h2').1
      have hlf : listed.getD i false = false := by rw [← getD_tf (by omega)]; exact h1
      have hdep : ∀ q ∈ depsOf o, listed.getD q false = true := fun q hq => by
        obtain ⟨e, k1, k2, k3⟩ := mem_depsOf.1 hq
        rw [← k3]; exact h3 e k1 k2
      have hcnt : ((List.range l.length).filter (fun j => !(listed.setIfInBounds i true).getD j true)).length ≤ fuel := by
        have := count_set hil hsz h1
        omega
      obtain ⟨tf, done, rem, c1, c2, c3, c4, c5, c7, c8, c9⟩ := hI
      have hset : ∀ j, (listed.setIfInBounds i true).getD j false = if j = i then true else listed.getD j false := fun j => getD_setb false (by omega)
      have hseen : ∀ t, t ∈ seesOf l o → tf.getD t undef = a1.tmps.getD t undef := fun t ht => c4.same t fun q oq k1 k2 k3 => hdep q (hB.settled i o q oq t h2' k1 k2 k3 ht).2
      have hdn' : ∀ j oj, l[j]? = some oj → (listed.setIfInBounds i true).getD j false = true → ∀ d ∈ depsOf oj, (listed.setIfInBounds i true).getD d false = true := fun j oj hoj hj d hd => by
        rw [hset] at hj ⊢
        split
        · rfl
        · by_cases e : j = i
          · subst e
            rw [h2'] at hoj; cases hoj
            exact hdep d hd
          · rw [if_neg e] at hj
            exact hdn j oj hoj hj d hd
      unfold wpOp
      simp only [h2]
      cases hmi : mN i with
      | true =>
        obtain ⟨d, k1, k2, hdl⟩ := hdst i o h2' hmi
        have hfree : ∀ t, t ∈ seesOf l o → (∀ (q : Nat) o', l[q]? = some o' → mN q = true → o'.dst ≠ some t) → ∀ (q : Nat) oq, l[q]? = some oq → oq.dst = some t → mN q = false ∧ listed.getD q false = false := fun t hts hn q oq hq hod => by
          cases hmq : mN q with
          | true => exact absurd hod (hn q oq hq hmq)
          | false =>
            refine ⟨rfl, ?_⟩
            cases hl : listed.getD q false with
            | false => rfl
            | true =>
              have := hdn q oq hq hl i (hB.nsees i o q oq t h2' hmi hq hmq hod hts)
              rw [hlf] at this; cases this
        have hsee0 : ∀ t, t ∈ seesOf l o → a1.tmps.getD t undef = tf0.getD t undef := fun t ht => by
          by_cases hx : ∃ (q : Nat) (oq : Oper), l[q]? = some oq ∧ mN q = true ∧ oq.dst = some t
          · obtain ⟨q, oq, j1, j2, j3⟩ := hx
            rw [hf3 q oq t j1 j2 j3, ← hseen t ht, c4.val q oq t j1 j2 j3]
          · have hn : ∀ (q : Nat) o', l[q]? = some o' → mN q = true → o'.dst ≠ some t := fun q o' a b c => hx ⟨q, o', a, b, c⟩
            rw [hf2 t hn]
            exact c9 t (hfree t ht hn)
        have hjl : done.length ≤ lim i := by
          apply Classical.byContradiction
          intro hc
          have hlt : lim i < done.length := by omega
          have hcj : cs[lim i]? = some done[lim i] := by rw [c1, List.getElem?_append_left hlt]; exact List.getElem?_eq_getElem hlt
          have hdl2 := c2 _ (List.getElem_mem hlt)
          have hcl := hB.clt _ (List.mem_of_getElem? hcj)
          have := hlim i _ _ _ hmi rfl hcj (List.getElem?_eq_getElem hcl) (fun q => listed.getD q false = true) hdn hdl2
          rw [hlf] at this; cases this
        have hw : Region.wanted o (yielded l.toArray a1.tmps) = true := by unfold Region.wanted; rw [k2]
        rw [if_pos hw]
        left
        refine (hN i o done.length X1 a1 tf h2' hmi hjl c5 hsee0).wp fun x w' ⟨hx, X2, q1, q2, q3⟩ => ?_
        subst q1 hx
        refine ih (listed.setIfInBounds i true) X2 (a1.put o.dst (V i)) (by simp [hsz]) hcnt (by rw [put_defers]; exact hd1) ⟨tf, done, rem, c1, fun j hj => ?_, fun j hj => ?_, ⟨by rw [put_sz]; exact c4.size, fun t ht => ?_, c4.val⟩, q2, c7.trans q3, by rw [put_sz]; exact c8, fun t ht => ?_⟩ hdn'
        · rw [hset]; split
          · rfl
          · exact c2 j hj
        · rw [hset, if_neg (fun e => by
            subst e
            have := (hB.call j hil).2 (by rw [c1]; exact List.mem_append_right _ hj)
            rw [hmi] at this; cases this)]
          exact c3 j hj
        · rw [put_getD, k1]
          by_cases e : t = d
          · subst e
            rw [if_pos ⟨rfl, by rw [c8]; exact hdl⟩]
            exact c4.val i o t h2' hmi k1
          · rw [if_neg (by rintro ⟨h, _⟩; exact e (Option.some.inj h).symm)]
            refine c4.same t fun q oq j1 j2 j3 => ?_
            have := ht q oq j1 j2 j3
            rw [hset] at this
            by_cases e2 : q = i
            · subst e2
              rw [h2'] at j1; cases j1
              rw [k1] at j3; cases j3; exact absurd rfl e
            · rw [if_neg e2] at this; exact this
        · rw [put_getD, if_neg (by
            rintro ⟨h, _⟩
            have := (ht i o h2' h).1
            rw [hmi] at this; cases this)]
          refine c9 t fun q oq j1 j2 => ?_
          obtain ⟨m1, m2⟩ := ht q oq j1 j2
          refine ⟨m1, ?_⟩
          rw [hset] at m2
          by_cases e2 : q = i
          · rw [if_pos e2] at m2; cases m2
          · rw [if_neg e2] at m2; exact m2
      | false =>
        obtain ⟨hg, hsel⟩ := hB.cguard i o h2' hmi
        have hics : i ∈ cs := (hB.call i hil).1 hmi
        have hirem : i ∈ rem := by
          rw [c1] at hics
          rcases List.mem_append.1 hics with h | h
          · rw [c2 i h] at hlf; cases hlf
          · exact h
        obtain ⟨r, hr⟩ : ∃ r, rem = i :: r := by
          cases hrem : rem with
          | nil => rw [hrem] at hirem; cases hirem
          | cons c r =>
            rw [hrem] at hirem
            rcases List.mem_cons.1 hirem with rfl | hir
            · exact ⟨r, rfl⟩
            · exfalso
              obtain ⟨j, hj⟩ := List.getElem?_of_mem hir
              have hjl : j < (c :: r).length := by
                have := (List.getElem?_eq_some_iff.1 hj).1
                simp; omega
              have hpre : cs[done.length + j]? = some (c :: r)[j] := by
                rw [c1, hrem, List.getElem?_append_right (by omega), show done.length + j - done.length = j by omega]
                exact List.getElem?_eq_getElem hjl
              have hpost : cs[done.length + j + 1]? = some i := by
                rw [c1, hrem, List.getElem?_append_right (by omega), show done.length + j + 1 - done.length = j + 1 by omega]
                simpa using hj
              have h5 := hdep _ (hB.cchain _ _ _ o hpre hpost h2')
              rw [c3 _ (by rw [hrem]; exact List.getElem_mem hjl)] at h5; cases h5
        subst hr
        have hw : Region.wanted o (yielded l.toArray a1.tmps) = true := by unfold Region.wanted; rw [hg]
        rw [if_pos hw]
        left
        have hcd : cs[done.length]? = some i := by rw [c1, List.getElem?_append_right (Nat.le_refl _)]; simp
        have hrun := hC done.length i o X1 tf hcd h2' c5
        have hev : execOp ({ tmps := tf, defers := D } : Act).eval o = execOp a1.eval o := by
          refine execOp_congr o hsel fun x hx => ?_
          cases x with
          | tmp t => exact hseen t (by simp only [seesOf]; exact List.mem_append_left _ (mem_tmpsOf (by simpa using hx)))
          | const v => rfl
          | func f => rfl
          | global g => rfl
        rw [hev] at hrun
        have hnd : ∀ (q : Nat) oq t, l[q]? = some oq → mN q = true → oq.dst = some t → o.dst ≠ some t := fun q oq t j1 j2 j3 e => by
          have := hB.ndst q i oq o t j1 h2' j2 j3 e
          subst this
          rw [hmi] at j2; cases j2
        have fin2 : ∀ (x : Value) (w' : World), (∃ X' : GW, X'.w = w' ∧ J (done.length + 1) X' (({ tmps := tf, defers := D } : Act).put o.dst x).tmps ∧ Ext F X1 X') → wpAny P .any l.toArray (PostA F X D (Stk P Q ks)) fuel (listed.setIfInBounds i true) (a1.put o.dst x) w' := by
          rintro x w' ⟨X2, rfl, q3, q4⟩
          have hnodup := hB.cnodup
          rw [c1] at hnodup
          refine ih (listed.setIfInBounds i true) X2 (a1.put o.dst x) (by simp [hsz]) hcnt (by rw [put_defers]; exact hd1) ⟨(({ tmps := tf, defers := D } : Act).put o.dst x).tmps, done ++ [i], r, by rw [c1]; simp, fun j hj => ?_, fun j hj => ?_, ⟨by rw [put_sz, put_sz]; exact c4.size, fun t ht => ?_, fun q oq t j1 j2 j3 => ?_⟩, by rw [List.length_append]; exact q3, c7.trans q4, by rw [put_sz]; exact c8, fun t ht => ?_⟩ hdn'
          · rw [hset]; split
            · rfl
            · rcases List.mem_append.1 hj with hj | hj
              · exact c2 j hj
              · rename_i hne
                simp at hj; exact absurd hj hne
          · have hji : j ≠ i := by
              rintro rfl
              have h6 := (List.nodup_append.1 hnodup).2.1
              rw [List.nodup_cons] at h6
              exact h6.1 hj
            rw [hset, if_neg hji]
            exact c3 j (List.mem_cons_of_mem _ hj)
          · rw [put_getD, put_getD]
            have hsz2 : ({ tmps := tf, defers := D } : Act).tmps.size = a1.tmps.size := c4.size
            rw [hsz2]
            by_cases e : o.dst = some t ∧ t < a1.tmps.size
            · rw [if_pos e, if_pos e]
            · rw [if_neg e, if_neg e]
              refine c4.same t fun q oq j1 j2 j3 => ?_
              have := ht q oq j1 j2 j3
              rw [hset] at this
              by_cases e2 : q = i
              · subst e2; rw [hmi] at j2; cases j2
              · rw [if_neg e2] at this; exact this
          · rw [put_getD, if_neg (by rintro ⟨h, _⟩; exact hnd q oq t j1 j2 j3 h)]
            exact c4.val q oq t j1 j2 j3
          · rw [put_getD, if_neg (by
              rintro ⟨h, _⟩
              have := (ht i o h2' h).2
              rw [hset, if_pos rfl] at this; cases this)]
            refine c9 t fun q oq j1 j2 => ?_
            obtain ⟨m1, m2⟩ := ht q oq j1 j2
            refine ⟨m1, ?_⟩
            rw [hset] at m2
            by_cases e2 : q = i
            · rw [if_pos e2] at m2; cases m2
            · rw [if_neg e2] at m2; exact m2
        have pan : ∀ (v : Value) (w' : World), (∃ (X' : GW) (H2 : List (Nat × List AV)) (tm2 : Array Value), X'.w = w' ∧ Stk P Q ks (.panic [{ v := v, recovered := false }]) ⟨a.tmps.size, [], H2, []⟩ ∧ SimE F X' ⟨a.tmps.size, [], H2, []⟩ tm2 ∧ Ext F X1 X') → PostA F X D (Stk P Q ks) (.panic [{ v := v, recovered := false }]) a1 w' := by
          rintro v w' ⟨X', H2, tm2, rfl, h3, h4, h5⟩
          exact ⟨hd1, X', _, rfl, h3, h4.slotless c8, c7.trans h5⟩
        unfold Oper.wp
        generalize (execOp a1.eval o).run P X1.w = r at hrun ⊢
        cases r with
        | halt z w =>
          cases z <;> simp only [runsX] at hrun
          exact pan _ _ hrun
        | ok nx w =>
          cases nx <;> simp only [runsX] at hrun <;> simp only [Oper.upon]
          case value x => exact fin2 _ _ hrun
          case skip => exact fin2 _ _ hrun
          case enter f args =>
            refine hrun.mono fun e w' he => ?_
            cases e with
            | returned v => exact fin2 _ _ he
            | panicked ch => obtain ⟨v, rfl, he⟩ := he; exact pan _ _ he
            | outgrown => exact he.elim
  have hno : ∀ i, (Array.replicate l.toArray.size false).getD i false = false := fun i => by
    simp only [Array.getD_eq_getD_getElem?, Array.getElem?_replicate]
    split <;> simp
  refine key _ _ ⟨X.w.drew, X.g⟩ a (by simp) (by refine Nat.le_trans (List.length_filter_le _ _) (by simp)) hdf ⟨tf0, [], cs, rfl, (fun i hi => by cases hi), (fun i _ => hno i), ⟨hf1, (fun t ht => hf2 t fun q o k1 k2 k3 => by have := ht q o k1 k2 k3; rw [hno] at this; cases this), hf3⟩, hJ, hXd.ext hs.gb hs.fb, rfl, fun t _ => rfl⟩ (fun j oj _ hf => by rw [hno] at hf; cases hf)
end
end Go.Proofs.YtgmlkhfjhogdbaaGreat

/- Regions that draw: a chain of which the first part runs while boxes are set aside; then they come back. -/
namespace Go.Proofs.YtgmlkhfjhogdbaaGreat
open Go.RowKit P
set_option linter.unusedSimpArgs false
set_option linter.unusedVariables false
theorem box_cellX {F : Nat → Prop} {X : GW} {k off : Nat} {cs : List AV} {u : AV} (h : BoxOk F X k cs) (hm : isMpB cs = false) (hu : cs[off]? = some u) : ∃ v, X.w.cell? ⟨k, off, none⟩ = some v ∧ Rel X u v := by
  obtain ⟨b1, b2, arr, el, fr, b3, b4, b5, b6⟩ := h.cells hm
  have hlt : off < arr.size := by rw [b4]; exact (List.getElem?_eq_some_iff.1 hu).1
  exact ⟨arr[off], by simp [World.cell?, b3, hlt], b6 off u _ hu (Array.getElem?_eq_getElem hlt)⟩
def bst (mB : Nat → Bool) (i : Nat) (σ : AS) : AS := match mB i with | true => σ | false => σ.withH []
/-- What yields the cell of a box. -/
def LoadC (P : Program) (o : Oper) (σ : AS) (k off : Nat) (u : AV) : Prop :=
  (∃ cs u0, look σ.h k = some cs ∧ isMpB cs = false ∧ cs[off]? = some u0 ∧ u = u0.rd) ∧ (∀ s, o.op ≠ .move (.tmp s)) ∧ ∀ F X (a : Act), SimR F X σ o.op a.tmps → ∃ v, X.w.cell? ⟨k, off, none⟩ = some v ∧ (execOp a.eval o).run P X.w = .ok (.value v) X.w
def ldAt (ld : List (Nat × Nat × Nat)) (d : Nat) : Option (Nat × Nat × Nat) := ld.find? fun p => p.1 == d
def DetX (P : Program) (l : List Oper) (mN mB : Nat → Bool) (ld : List (Nat × Nat × Nat)) (i : Nat) (σ : AS) (o : Oper) (u : AV) : Prop :=
  own1 (some u) = none ∧ ∀ d, o.dst = some d → match ldAt ld d with
    | some p => mB i = true ∧ LoadC P o σ p.2.1 p.2.2 u
    | none => (∃ x, u = .v x) ∨ ∃ s, o.op = .move (.tmp s) ∧ ∀ (q : Nat) o', l[q]? = some o' → mN q = true → o'.dst ≠ some s
def NSemX (P : Program) (l : List Oper) (mN mB : Nat → Bool) (ld : List (Nat × Nat × Nat)) (K : AS → Prop) : Nat → List Oper → AS → Prop
  | _, [], σ => K σ
  | k, o :: rest, σ => match mN k with
    | true => ∃ d u, o.dst = some d ∧ o.guard = none ∧ Nat.ble (d + 1) σ.n = true ∧ OpV P o (bst mB k σ) u ∧ DetX P l mN mB ld k σ o u ∧ NSemX P l mN mB ld K (k + 1) rest (σ.put d u)
    | false => NSemX P l mN mB ld K (k + 1) rest σ
section
variable {P : Program} {Q : Exit → AS → Prop} {ks : List It} {σ : AS} {K : AS → Prop} {l : List Oper} {mN mB : Nat → Bool} {ld : List (Nat × Nat × Nat)}
theorem n_tableX (L : List Oper) : ∀ (rest : List Oper) (k : Nat) (σ : AS), NSemX P L mN mB ld K k rest σ → ∃ us : List AV, us.length = rest.length ∧ K (puts σ (msk mN k rest) us) ∧
    ∀ (i : Nat) o u, rest[i]? = some o → us[i]? = some u → mN (k + i) = true → ∃ d, o.dst = some d ∧ o.guard = none ∧ Nat.ble (d + 1) σ.n = true ∧ OpV P o (bst mB (k + i) (puts σ ((msk mN k rest).take i) (us.take i))) u ∧ DetX P L mN mB ld (k + i) (puts σ ((msk mN k rest).take i) (us.take i)) o u
  | [], k, σ, h => ⟨[], rfl, h, fun i o u h => by simp at h⟩
  | o :: rest, k, σ, h => by
    unfold NSemX at h
    cases hm : mN k with
    | true =>
      rw [hm] at h
      obtain ⟨d, u, h1, h2, h3, h4, h5, h6⟩ := h
      obtain ⟨us, k1, k2, k3⟩ := n_tableX L rest (k + 1) (σ.put d u) h6
      refine ⟨u :: us, by simp [k1], by simp only [msk, hm, puts, h1]; exact k2, fun i o' u' ho hu hmi => ?_⟩
      cases i with
      | zero => simp at ho hu; subst ho hu; exact ⟨d, h1, h2, h3, h4, h5⟩
      | succ i =>
        obtain ⟨d', m1, m2, m3, m4, m5⟩ := k3 i o' u' (by simpa using ho) (by simpa using hu) (by rw [show k + 1 + i = k + (i + 1) by omega]; exact hmi)
        rw [show k + 1 + i = k + (i + 1) by omega] at m4 m5
        refine ⟨d', m1, m2, m3, ?_, ?_⟩
        · simp only [msk, hm, List.take_succ_cons, puts, h1]; exact m4
        · simp only [msk, hm, List.take_succ_cons, puts, h1]; exact m5
    | false =>
      rw [hm] at h
      obtain ⟨us, k1, k2, k3⟩ := n_tableX L rest (k + 1) σ h
      refine ⟨.v undef :: us, by simp [k1], by simp only [msk, hm, puts, noOp]; exact k2, fun i o' u' ho hu hmi => ?_⟩
      cases i with
      | zero => rw [Nat.add_zero, hm] at hmi; cases hmi
      | succ i =>
        obtain ⟨d', m1, m2, m3, m4, m5⟩ := k3 i o' u' (by simpa using ho) (by simpa using hu) (by rw [show k + 1 + i = k + (i + 1) by omega]; exact hmi)
        rw [show k + 1 + i = k + (i + 1) by omega] at m4 m5
        refine ⟨d', m1, m2, m3, ?_, ?_⟩
        · simp only [msk, hm, List.take_succ_cons, puts, noOp]; exact m4
        · simp only [msk, hm, List.take_succ_cons, puts, noOp]; exact m5
/-- An effect, or a panic behind which boxes are known. -/
def EffX (P : Program) (o : Oper) (σ : AS) (R : AS → Prop) (RP : Value → List (Nat × List AV) → Prop) : Prop :=
  ∀ F X (a : Act), SimE F X σ a.tmps → runsX P (fun x w' => ∃ (X' : GW) (σ' : AS), X'.w = w' ∧ R σ' ∧ SimE F X' σ' (a.put o.dst x).tmps ∧ Ext F X X') (fun v w' => ∃ (X' : GW) (H2 : List (Nat × List AV)), X'.w = w' ∧ RP v H2 ∧ SimE F X' ⟨σ.n, [], H2, []⟩ a.tmps ∧ Ext F X X') ((execOp a.eval o).run P X.w)
def CSemX (P : Program) (n : Nat) (RP : Value → List (Nat × List AV) → Prop) (K : AS → Prop) : List Oper → AS → Prop
  | [], σ => K σ
  | o :: rest, σ => σ.n = n ∧ EffX P o σ (CSemX P n RP K rest) RP
def AS.alc (σ : AS) (ld : List (Nat × Nat × Nat)) : AS := { n := σ.n, t := σ.t, h := σ.h, e := ld.map (fun p => (p.1, Root.c p.2.1 p.2.2)) ++ σ.e }
theorem alc_sim {F : Nat → Prop} {X : GW} {tm : Array Value} : ∀ {ld : List (Nat × Nat × Nat)} {σ : AS}, SimE F X σ tm → (∀ p ∈ ld, X.w.cell? ⟨p.2.1, p.2.2, none⟩ = some (tm.getD p.1 undef)) → SimE F X (σ.alc ld) tm
  | [], σ, h, _ => h
  | p :: ld, σ, h, hm => (alc_sim h fun q hq => hm q (List.mem_cons_of_mem _ hq)).alias (d := p.1) (r := .c p.2.1 p.2.2) (hm p List.mem_cons_self)
theorem ldAt_self : ∀ {ld : List (Nat × Nat × Nat)} {p : Nat × Nat × Nat}, (ld.map (·.1)).Nodup → p ∈ ld → ldAt ld p.1 = some p
  | [], p, _, h => by cases h
  | q :: ld, p, hn, h => by
    rw [List.map_cons, List.nodup_cons] at hn
    unfold ldAt
    rw [List.find?_cons]
    rcases List.mem_cons.1 h with rfl | h
    · simp
    · have : (q.1 == p.1) = false := by
        simp only [beq_eq_false_iff_ne]
        exact fun e => hn.1 (by rw [e]; exact List.mem_map_of_mem h)
      rw [this]
      exact ldAt_self hn.2 h
end
end Go.Proofs.YtgmlkhfjhogdbaaGreat

/- Regions that draw, in two parts: ar_drawX. -/
namespace Go.Proofs.YtgmlkhfjhogdbaaGreat
open Go.RowKit P
set_option linter.unusedSimpArgs false
set_option linter.unusedVariables false
section
variable {P : Program} {Q : Exit → AS → Prop} {ks : List It} {σ : AS} {K : AS → Prop} {l : List Oper} {mN mB : Nat → Bool} {ld : List (Nat × Nat × Nat)}
theorem runsX.mono {R R' : Value → World → Prop} {RP RP' : Value → World → Prop} {r : Result Next} (h : runsX P R RP r) (hR : ∀ x w, R x w → R' x w) (hP : ∀ v w, RP v w → RP' v w) : runsX P R' RP' r := by
  cases r with
  | halt z w => cases z <;> simp only [runsX] at h ⊢ <;> first | exact hP _ _ h | exact h.elim
  | ok nx w =>
    cases nx <;> simp only [runsX] at h ⊢
    case value x => exact hR _ _ h
    case skip => exact hR _ _ h
    case enter f args =>
      refine h.mono fun e w' he => ?_
      cases e with
      | returned v => exact hR _ _ he
      | panicked ch => obtain ⟨v, rfl, he⟩ := he; exact ⟨v, rfl, hP _ _ he⟩
      | outgrown => exact he.elim
theorem bst_t (i : Nat) (σ : AS) : (bst mB i σ).t = σ.t := by unfold bst; cases mB i <;> rfl
theorem bst_h {i : Nat} {σ : AS} {k : Nat} {c : List AV} (h : look (bst mB i σ).h k = some c) : mB i = true ∧ look σ.h k = some c := by
  unfold bst at h
  cases hb : mB i with
  | true => rw [hb] at h; exact ⟨rfl, h⟩
  | false => rw [hb] at h; cases h
def valX (X : GW) (tm : Array Value) (ld : List (Nat × Nat × Nat)) (o : Oper) (u : AV) : Value := match o.dst with
  | some d => match ldAt ld d with
    | some p => (X.w.cell? ⟨p.2.1, p.2.2, none⟩).getD undef
    | none => valOf { tmps := tm, defers := [] } u o.op
  | none => undef
set_option maxHeartbeats 1000000
theorem ar_drawX {id : Nat} {st : Nat → Bool} {cs1 cs2 : List Nat} (hm : P.follows .mixedOrders = true) (hB : MixOk l mN (cs1 ++ cs2)) (hmB : ∀ (i c : Nat) o, mN i = true → mB i = true → cs2.head? = some c → l[c]? = some o → ∀ p : Nat → Prop, (∀ (q : Nat) oq, l[q]? = some oq → p q → ∀ d ∈ depsOf oq, p d) → p c → p i) (he : σ.e = []) (hldn : (ld.map (·.1)).Nodup) (hldb : ∀ p ∈ ld, ∃ (q : Nat) (o : Oper), l[q]? = some o ∧ mN q = true ∧ o.dst = some p.1)
    (h : NSemX P l mN mB ld (fun σ' => CSemX P σ.n (fun v H2 => ∃ H3, (∀ k cs, look H3 k = some cs → look (H2 ++ σ.h.filter fun p => st p.1) k = some cs) ∧ Stk P Q ks (.panic [{ v := v, recovered := false }]) ⟨σ.n, [], H3, []⟩) (fun σ2 => CSemX P σ.n (fun v H2 => Stk P Q ks (.panic [{ v := v, recovered := false }]) ⟨σ.n, [], H2, []⟩) (fun σ3 => ARun P Q ks σ3) (cs2.filterMap fun i => l[i]?) ((σ2.withH (σ2.h ++ σ.h.filter fun p => st p.1)).alc ld)) (cs1.filterMap fun i => l[i]?) ((σ'.withH (σ.h.filter fun p => !st p.1)).als (nMoves l mN 0 l))) 0 l (σ.withH (σ.h.filter fun p => st p.1))) :
    ARun P Q (.c (.region id l.toArray true) :: ks) σ := by
  obtain ⟨us, hul, hK, hstep⟩ := n_tableX l l 0 _ h
  simp only [Nat.zero_add] at hstep
  refine ar_drawG (cs := cs1 ++ cs2) (lim := fun i => match mB i with | true => cs1.length | false => (cs1 ++ cs2).length) hm hB (fun i j c o hmi hj hc ho => ?_) (fun i o ho hmi => ?_) fun F X tm D hs => ?_
  · cases hb : mB i with
    | true =>
      simp only [hb] at hj
      subst hj
      rw [List.getElem?_append_right (Nat.le_refl _), Nat.sub_self] at hc
      exact hmB i c o hmi hb (by rw [List.head?_eq_getElem?]; exact hc) ho
    | false =>
      simp only [hb] at hj
      subst hj
      rw [List.getElem?_eq_none (Nat.le_refl _)] at hc; cases hc
  · have hil := (List.getElem?_eq_some_iff.1 ho).1
    obtain ⟨d, k1, k2, k3, _⟩ := hstep i o us[i] ho (List.getElem?_eq_getElem (by omega)) hmi
    exact ⟨d, k1, k2, lt_of_ble k3⟩
  have hsa := hs.aside st he
  generalize hH1 : (σ.h.filter fun p => st p.1) = H1 at *
  generalize hH0 : (σ.h.filter fun p => !st p.1) = H0 at *
  have h1look : ∀ k c, look H1 k = some c → st k = true ∧ look σ.h k = some c := fun k c hk => by
    rw [← hH1, look_filt] at hk
    by_cases e : st k = true
    · rw [if_pos e] at hk; exact ⟨e, hk⟩
    · rw [if_neg e] at hk; cases hk
  have hbox1 : ∀ k c, look H1 k = some c → BoxOk F X k c := fun k c hk => hs.box k c (h1look k c hk).2
  have hmdis : ∀ (q q' : Nat) o o' d, (msk mN 0 l)[q]? = some o → (msk mN 0 l)[q']? = some o' → o.dst = some d → o'.dst = some d → q = q' := fun q q' o o' d h1 h2 h3 h4 => by
    obtain ⟨k1, k2⟩ := msk_dst h1 h3
    obtain ⟨k3, k4⟩ := msk_dst h2 h4
    exact hB.ndst q q' o o' d k2 k4 k1 h3 h4
  have hml : us.length = (msk mN 0 l).length := by rw [msk_len, hul]
  -- a slot that no operation that turns nothing writes
  have hputs : ∀ (i : Nat) (t : Nat) (u : AV), look (puts (σ.withH H1) ((msk mN 0 l).take i) (us.take i)).t t = some u → (∃ q o, q < i ∧ l[q]? = some o ∧ mN q = true ∧ o.dst = some t ∧ us[q]? = some u) ∨ (look σ.t t = some u ∧ ∀ q o, q < i → l[q]? = some o → mN q = true → o.dst ≠ some t) := by
    intro i t u hu
    rw [puts_look _ _ _ _ (by simp [hml]) (fun q q' o1 o2 d h1 h2 h3 h4 => by
      rw [List.getElem?_take] at h1 h2
      split at h1
      · split at h2
        · exact hmdis q q' o1 o2 d h1 h2 h3 h4
        · cases h2
      · cases h1)] at hu
    cases hf : (((msk mN 0 l).take i).zip (us.take i)).find? (fun p => p.1.dst == some t) with
    | some p =>
      rw [hf] at hu; cases hu
      have hmem := List.mem_of_find?_eq_some hf
      have hpd : p.1.dst = some t := by simpa using List.find?_some hf
      obtain ⟨q, hq⟩ := List.getElem?_of_mem hmem
      rw [List.getElem?_zip_eq_some, List.getElem?_take, List.getElem?_take] at hq
      have hqi : q < i := by
        apply Classical.byContradiction
        intro hc
        rw [if_neg hc] at hq; cases hq.1
      rw [if_pos hqi, if_pos hqi] at hq
      obtain ⟨k1, k2⟩ := msk_dst hq.1 hpd
      exact .inl ⟨q, p.1, hqi, k2, k1, hpd, hq.2⟩
    | none =>
      rw [hf] at hu
      refine .inr ⟨hu, fun q o hqi hlo hmq hod => ?_⟩
      have hql := (List.getElem?_eq_some_iff.1 hlo).1
      have hmq' : (msk mN 0 l)[q]? = some o := by rw [msk_get mN 0 l q o hlo, Nat.zero_add, hmq]
      have hmem : (o, us[q]'(by omega)) ∈ ((msk mN 0 l).take i).zip (us.take i) := by
        refine List.mem_of_getElem? (i := q) (List.getElem?_zip_eq_some.2 ⟨?_, ?_⟩)
        · rw [List.getElem?_take, if_pos hqi]; exact hmq'
        · rw [List.getElem?_take, if_pos hqi]; exact List.getElem?_eq_getElem (by omega)
      exact absurd (by simpa using hod) (List.find?_eq_none.1 hf _ hmem)
  refine ⟨fun (q : Nat) => match l[q]?, us[q]? with
    | some o, some u => valX X tm ld o u
    | _, _ => undef, ?_⟩
  generalize hVdef : (fun (q : Nat) => match l[q]?, us[q]? with
    | some o, some u => valX X tm ld o u
    | _, _ => undef) = V
  have hV : ∀ (q : Nat) o u, l[q]? = some o → us[q]? = some u → V q = valX X tm ld o u := fun q o u ho hu => by rw [← hVdef]; simp only [ho, hu]
  have hmv : ∀ (q : Nat) o u s, l[q]? = some o → us[q]? = some u → mN q = true → o.op = .move (.tmp s) → (∀ (q' : Nat) o', l[q']? = some o' → mN q' = true → o'.dst ≠ some s) → Rel X u (tm.getD s undef) := by
    intro q o u s ho hu hmq hop hns
    obtain ⟨d, k1, k2, k3, k4, k5, k6⟩ := hstep q o u ho hu hmq
    refine (move_run (F := F) (a := { tmps := tm, defers := [] }) hop k4 ⟨hs.gb, hs.fb, fun t u' ht hu' => ?_, fun k c hk => ?_⟩).1
    · rw [hop] at ht
      simp [Op.operands] at ht
      subst ht
      rw [bst_t] at hu'
      rcases hputs q t u' hu' with ⟨q', o', _, k7, k9, k8, _⟩ | ⟨k7, _⟩
      · exact absurd k8 (hns q' o' k7 k9)
      · exact hs.slot t u' k7
    · have := (bst_h hk).2
      rw [puts_h] at this; exact hbox1 k c this
  have relV : ∀ (q : Nat) o u, l[q]? = some o → us[q]? = some u → mN q = true → Rel X u (V q) ∧ own1 (some u) = none := by
    intro q o u ho hu hmq
    obtain ⟨d, k1, k2, k3, k4, k5, k6⟩ := hstep q o u ho hu hmq
    refine ⟨?_, k5⟩
    rw [hV q o u ho hu]
    have k7 := k6 d k1
    unfold valX
    simp only [k1]
    cases hld : ldAt ld d with
    | some p =>
      rw [hld] at k7
      obtain ⟨_, ⟨cs, u0, j1, j2, j3, rfl⟩, _, _⟩ := k7
      rw [puts_h] at j1
      obtain ⟨v, g1, g2⟩ := box_cellX (hbox1 _ _ j1) j2 j3
      simp only [g1, Option.getD_some]
      exact g2.rd
    | none =>
      rw [hld] at k7
      rcases k7 with ⟨x, rfl⟩ | ⟨s, hop, hns⟩
      · exact .v x
      · by_cases hx : ∃ x, u = .v x
        · obtain ⟨x, rfl⟩ := hx; exact .v x
        · have hval : valOf { tmps := tm, defers := [] } u o.op = tm.getD s undef := by
            rw [hop]
            cases u <;> first | rfl | exact absurd ⟨_, rfl⟩ hx
          rw [hval]
          exact hmv q o u s ho hu hmq hop hns
  refine ⟨fun j X1 tf => tf.size = tm.size ∧ (∀ (q : Nat) o t, l[q]? = some o → mN q = true → o.dst = some t → tf.getD t undef = V q) ∧ Ext F X X1 ∧ ((j ≤ cs1.length ∧ ∃ σ1, SimE (AsideF F X H1) X1 σ1 tf ∧ Ext (AsideF F X H1) X X1 ∧ CSemX P σ.n (fun v H2 => ∃ H3, (∀ k cs, look H3 k = some cs → look (H2 ++ H1) k = some cs) ∧ Stk P Q ks (.panic [{ v := v, recovered := false }]) ⟨σ.n, [], H3, []⟩) (fun σ2 => CSemX P σ.n (fun v H2 => Stk P Q ks (.panic [{ v := v, recovered := false }]) ⟨σ.n, [], H2, []⟩) (fun σ3 => ARun P Q ks σ3) (cs2.filterMap fun i => l[i]?) ((σ2.withH (σ2.h ++ H1)).alc ld)) ((cs1.drop j).filterMap fun i => l[i]?) σ1) ∨
    (cs1.length < j ∧ ∃ σ1, SimE F X1 σ1 tf ∧ CSemX P σ.n (fun v H2 => Stk P Q ks (.panic [{ v := v, recovered := false }]) ⟨σ.n, [], H2, []⟩) (fun σ3 => ARun P Q ks σ3) ((cs2.drop (j - cs1.length)).filterMap fun i => l[i]?) σ1)), fun tf0 hf => ?_⟩
  obtain ⟨hf1, hf2, hf3⟩ := hf
  have hfull : ∀ t u, look (puts (σ.withH H1) (msk mN 0 l) us).t t = some u → (∃ (q : Nat) (o : Oper), l[q]? = some o ∧ mN q = true ∧ o.dst = some t ∧ us[q]? = some u) ∨ (look σ.t t = some u ∧ ∀ (q : Nat) o, l[q]? = some o → mN q = true → o.dst ≠ some t) := by
    intro t u hu
    have e1 : (msk mN 0 l).take l.length = msk mN 0 l := List.take_of_length_le (by rw [msk_len]; omega)
    have e2 : us.take l.length = us := List.take_of_length_le (by omega)
    rcases hputs l.length t u (by rw [e1, e2]; exact hu) with ⟨q, o, _, k⟩ | ⟨k1, k2⟩
    · exact .inl ⟨q, o, k⟩
    · exact .inr ⟨k1, fun q o ho => k2 q o (List.getElem?_eq_some_iff.1 ho).1 ho⟩
  have hs0 : SimE (AsideF F X H1) X (((puts (σ.withH H1) (msk mN 0 l) us).withH H0).als (nMoves l mN 0 l)) tf0 := by
    refine als_sim (hsa.other (by rw [hf1, hs.size]; exact (puts_n (msk mN 0 l) us (σ.withH H1)).symm) hsa.fb (fun t u hu => ?_) (fun k c hk => ⟨hk, (hsa.box k c hk).nF⟩) (puts_e (msk mN 0 l) us (σ.withH H1) he) (fun r => r) (fun r sz lw ho => .inr ?_) (fun _ _ _ _ _ _ _ _ hne _ _ _ _ => hne)) fun p hp => ?_
    · rcases hfull t u hu with ⟨q, o, k1, k2, k3, k4⟩ | ⟨k1, k2⟩
      · rw [hf3 q o t k1 k2 k3]; exact (relV q o u k1 k4 k2).1
      · rw [hf2 t k2]; exact hs.slot t u k1
    · have fin : ∀ r, (σ.withH H0).own r = some (sz, lw) → rootV tf0 X.w r = rootV tm X.w r → (σ.withH H0).own r = some (sz, lw) ∧ rootV tf0 X.w r = rootV tm X.w r ∧ ∀ a n c, rootV tf0 X.w r = some (.slice (some a) n c) → ¬ AsideF F X H1 a.block := fun r h1 h2 => ⟨h1, h2, fun a n c hr => by
        obtain ⟨x, hx, hok⟩ := hsa.own r sz lw h1
        rw [h2, hx] at hr
        cases hr
        exact (own_blk hok).2.1⟩
      cases r with
      | s t =>
        obtain ⟨k0⟩ : look (puts (σ.withH H1) (msk mN 0 l) us).t t = some (.sl true sz lw) ∧ True := ⟨own_s_look ho, trivial⟩
        rcases hfull t _ k0 with ⟨q, o, k1, k2, k3, k4⟩ | ⟨k1, k2⟩
        · have := (relV q o _ k1 k4 k2).2
          cases this
        · exact fin (.s t) (by simp only [AS.own, AS.withH, k1]; rfl) (by simp only [rootV, hf2 t k2])
      | c k o => exact fin (.c k o) ho rfl
    · obtain ⟨i, o, k1, k2, k3, k4, k5⟩ := nMoves_get l 0 p hp
      rw [Nat.zero_add] at k2
      have hil := (List.getElem?_eq_some_iff.1 k1).1
      have hui : us[i]? = some us[i] := List.getElem?_eq_getElem (by omega)
      obtain ⟨d, j1, _, _, _, _, j6⟩ := hstep i o us[i] k1 hui k2
      have j7 := j6 p.1 k3
      rw [hf3 i o p.1 k1 k2 k3, hf2 p.2 k5, hV i o us[i] k1 hui]
      unfold valX
      simp only [k3]
      cases hld : ldAt ld p.1 with
      | some p' =>
        rw [hld] at j7
        exact absurd k4 (j7.2.2.1 p.2)
      | none =>
        have hr := hmv i o us[i] p.2 k1 hui k2 k4 k5
        generalize us[i] = u at hr ⊢
        by_cases hx : ∃ x, u = .v x
        · obtain ⟨x, rfl⟩ := hx
          exact (rel_v hr).symm
        · rw [k4]
          cases u <;> first | rfl | exact absurd ⟨_, rfl⟩ hx
  -- the boxes come back
  have back : ∀ X1 tf σ1, (∀ (q : Nat) o t, l[q]? = some o → mN q = true → o.dst = some t → tf.getD t undef = V q) → SimE (AsideF F X H1) X1 σ1 tf → Ext (AsideF F X H1) X X1 → SimE F X1 ((σ1.withH (σ1.h ++ H1)).alc ld) tf := by
    intro X1 tf σ1 hv h1 hx
    refine alc_sim (hs.backO (fun k cs hk => (h1look k cs hk).2) h1 (fun b hb => hb) hx) fun p hp => ?_
    obtain ⟨q, o, j1, j2, j3⟩ := hldb p hp
    have hql := (List.getElem?_eq_some_iff.1 j1).1
    have huq : us[q]? = some us[q] := List.getElem?_eq_getElem (by omega)
    obtain ⟨d, k1, _, _, _, _, k6⟩ := hstep q o us[q] j1 huq j2
    have k7 := k6 p.1 j3
    rw [ldAt_self hldn hp] at k7
    obtain ⟨_, ⟨cs, u0, g1, g2, g3, _⟩, _, _⟩ := k7
    rw [puts_h] at g1
    obtain ⟨v, g4, _⟩ := box_cellX (hbox1 _ _ g1) g2 g3
    rw [hv q o p.1 j1 j2 j3, hV q o us[q] j1 huq, cell_of_heap (hx.frame p.2.1 (.inr (.inl ⟨cs, g1⟩))).1, g4]
    unfold valX
    simp only [j3, ldAt_self hldn hp, g4, Option.getD_some]
  refine ⟨⟨hf1, hf3, Ext.refl _ _, .inl ⟨Nat.zero_le _, _, hs0, Ext.refl _ _, by rw [List.drop_zero]; exact hK⟩⟩, ?_, ?_, ?_⟩
  · rintro i o j X1 a1 tf ho hmi hj ⟨g0, g1, gx, hJ⟩ hsee
    have hil := (List.getElem?_eq_some_iff.1 ho).1
    have hui : us[i]? = some us[i] := List.getElem?_eq_getElem (by omega)
    obtain ⟨d, k1, k2, k3, k4, k5, k6⟩ := hstep i o us[i] ho hui hmi
    have hgb : (∀ b n, X1.g b = some n → b < X1.w.heap.size) ∧ (∀ b, F b → b < X1.w.heap.size) := by
      rcases hJ with ⟨_, σ1, q1, _⟩ | ⟨_, σ1, q1, _⟩
      · exact ⟨q1.gb, fun b hb => q1.fb b (.inl hb)⟩
      · exact ⟨q1.gb, q1.fb⟩
    have hph : mB i = true → Ext (AsideF F X H1) X X1 := fun hb => by
      simp only [hb] at hj
      rcases hJ with ⟨_, σ1, _, q2, _⟩ | ⟨q0, _⟩
      · exact q2
      · omega
    have hR : SimR F X1 (bst mB i (puts (σ.withH H1) ((msk mN 0 l).take i) (us.take i))) o.op a1.tmps := by
      refine ⟨hgb.1, hgb.2, fun t u ht hu => ?_, fun k c hk => ?_⟩
      · have hts : t ∈ seesOf l o := by simp only [seesOf]; exact List.mem_append_left _ (mem_tmpsOf ht)
        rw [bst_t] at hu
        rw [hsee t hts]
        rcases hputs i t u hu with ⟨q, oq, _, j1, j2, j3, j4⟩ | ⟨j1, j2⟩
        · rw [hf3 q oq t j1 j2 j3]
          exact (relV q oq u j1 j4 j2).1.mono gx.pres
        · rw [hf2 t fun q o' hq hmq hod => j2 q o' (hB.settled i o q o' t ho hq hmq hod hts).1 hq hmq hod]
          exact (hs.slot t u j1).mono gx.pres
      · obtain ⟨hb, hk⟩ := bst_h hk
        rw [puts_h] at hk
        have hbx := hbox1 k c hk
        have hE := hph hb
        exact hbx.keep ⟨(hE.frame k (.inr (.inl ⟨c, hk⟩))).1, (hE.frame k (.inr (.inl ⟨c, hk⟩))).2, hbx.nF⟩ hE.pres
    have k7 := k6 d k1
    have hVi := hV i o us[i] ho hui
    unfold valX at hVi
    simp only [k1] at hVi
    cases hld : ldAt ld d with
    | some p =>
      rw [hld] at k7
      simp only [hld] at hVi
      obtain ⟨hb, ⟨cs, u0, e1, e2, e3, _⟩, _, hrun⟩ := k7
      have hR2 : SimR F X1 (puts (σ.withH H1) ((msk mN 0 l).take i) (us.take i)) o.op a1.tmps := by
        have : bst mB i (puts (σ.withH H1) ((msk mN 0 l).take i) (us.take i)) = puts (σ.withH H1) ((msk mN 0 l).take i) (us.take i) := by unfold bst; rw [hb]
        rw [this] at hR; exact hR
      obtain ⟨v, v1, v2⟩ := hrun F X1 a1 hR2
      rw [puts_h] at e1
      have hc : X.w.cell? ⟨p.2.1, p.2.2, none⟩ = some v := by
        rw [← cell_of_heap ((hph hb).frame p.2.1 (.inr (.inl ⟨cs, e1⟩))).1]; exact v1
      unfold Runs
      rw [v2]
      exact ⟨by rw [hVi, hc]; rfl, X1, rfl, ⟨g0, g1, gx, hJ⟩, Ext.refl _ _⟩
    | none =>
      rw [hld] at k7
      simp only [hld] at hVi
      rcases k7 with ⟨x, hx⟩ | ⟨s, hop, hns⟩
      · refine (k4 F X1 a1 hR).mono fun y w' ⟨X2, q1, q2, q3, q4, _⟩ => ⟨?_, X2, q1, ⟨g0, g1, gx.trans (q2.ext hgb.1 hgb.2), ?_⟩, q2.ext hgb.1 hgb.2⟩
        · rw [hx] at q4 hVi
          rw [hVi]
          exact rel_v q4
        · rcases hJ with ⟨e1, σ1, e2, e3, e4⟩ | ⟨e1, σ1, e2, e3⟩
          · exact .inl ⟨e1, σ1, e2.new q2 q3, e3.trans (q2.ext e2.gb e2.fb), e4⟩
          · exact .inr ⟨e1, σ1, e2.new q2 q3, e3⟩
      · have hex := (move_run hop k4 hR).2
        unfold Runs
        rw [hex]
        refine ⟨?_, X1, rfl, ⟨g0, g1, gx, hJ⟩, Ext.refl _ _⟩
        rw [hsee s (by simp only [seesOf, hop]; exact List.mem_append_left _ (by simp [Op.operands, tmpsOf])), hf2 s hns, hVi]
        have hr := hmv i o us[i] s ho hui hmi hop hns
        generalize us[i] = u at hr ⊢
        by_cases hx : ∃ x, u = .v x
        · obtain ⟨x, rfl⟩ := hx
          exact rel_v hr
        · rw [hop]
          cases u <;> first | rfl | exact absurd ⟨_, rfl⟩ hx
  · rintro j c o X1 tf hcj hlo ⟨g0, g1, gx, hJ⟩
    have hcm : mN c = false := (hB.call c (List.getElem?_eq_some_iff.1 hlo).1).2 (List.mem_of_getElem? hcj)
    have hsz : tm.size = σ.n := hs.size
    have hput : ∀ x, (({ tmps := tf, defers := D } : Act).put o.dst x).tmps.size = tm.size ∧ ∀ (q : Nat) oq t, l[q]? = some oq → mN q = true → oq.dst = some t → (({ tmps := tf, defers := D } : Act).put o.dst x).tmps.getD t undef = V q := fun x => by
      refine ⟨by rw [put_sz]; exact g0, fun q oq t h1 h2 h3 => ?_⟩
      rw [put_getD, if_neg]
      · exact g1 q oq t h1 h2 h3
      · rintro ⟨e, _⟩
        have := hB.ndst q c oq o t h1 hlo h2 h3 e
        subst this
        rw [hcm] at h2; cases h2
    have two : ∀ (σ1 : AS) (rest : List Nat), cs1.length ≤ j → rest = cs2.drop (j + 1 - cs1.length) → SimE F X1 σ1 tf → CSemX P σ.n (fun v H2 => Stk P Q ks (.panic [{ v := v, recovered := false }]) ⟨σ.n, [], H2, []⟩) (fun σ3 => ARun P Q ks σ3) (o :: rest.filterMap fun i => l[i]?) σ1 → _ := fun σ1 rest hjl hrest h1 h2 =>
      runsX.mono (R' := fun x w' => ∃ X' : GW, X'.w = w' ∧ (((({ tmps := tf, defers := D } : Act).put o.dst x).tmps.size = tm.size ∧ (∀ (q : Nat) oq t, l[q]? = some oq → mN q = true → oq.dst = some t → (({ tmps := tf, defers := D } : Act).put o.dst x).tmps.getD t undef = V q) ∧ Ext F X X' ∧ ∃ σ2, SimE F X' σ2 (({ tmps := tf, defers := D } : Act).put o.dst x).tmps ∧ CSemX P σ.n (fun v H2 => Stk P Q ks (.panic [{ v := v, recovered := false }]) ⟨σ.n, [], H2, []⟩) (fun σ3 => ARun P Q ks σ3) ((cs2.drop (j + 1 - cs1.length)).filterMap fun i => l[i]?) σ2)) ∧ Ext F X1 X') (RP' := fun v w' => ∃ (X' : GW) (H2 : List (Nat × List AV)) (tm2 : Array Value), X'.w = w' ∧ Stk P Q ks (.panic [{ v := v, recovered := false }]) ⟨tm.size, [], H2, []⟩ ∧ SimE F X' ⟨tm.size, [], H2, []⟩ tm2 ∧ Ext F X1 X') (h2.2 F X1 { tmps := tf, defers := D } h1) (fun x w' ⟨X', σ', e1, e2, e3, e4⟩ => ⟨X', e1, ⟨(hput x).1, (hput x).2, gx.trans e4, σ', e3, by rw [← hrest]; exact e2⟩, e4⟩) (fun v w' ⟨X', H2, e1, e2, e3, e4⟩ => ⟨X', H2, tf, e1, by rw [hsz]; exact e2, by rw [hsz, ← h2.1]; exact e3, e4⟩)
    rcases hJ with ⟨e1, σ1, e2, e3, e4⟩ | ⟨e1, σ1, e2, e3⟩
    · by_cases hjl : j < cs1.length
      · have hc1 : cs1[j]? = some c := by rw [List.getElem?_append_left hjl] at hcj; exact hcj
        have hdr : cs1.drop j = c :: cs1.drop (j + 1) := by
          rw [List.drop_eq_getElem_cons hjl]
          have := List.getElem?_eq_getElem hjl
          rw [hc1] at this
          rw [Option.some.inj this]
        rw [hdr, List.filterMap_cons, hlo] at e4
        refine (e4.2 _ X1 { tmps := tf, defers := D } e2).mono (fun x w' ⟨X', σ', f1, f2, f3, f4⟩ => ⟨X', f1, ⟨(hput x).1, (hput x).2, gx.trans (f4.mono fun b hb => .inl hb), .inl ⟨hjl, σ', f3, e3.trans f4, f2⟩⟩, f4.mono fun b hb => .inl hb⟩) (fun v w' ⟨X', H2, f1, ⟨H3, f5, f2⟩, f3, f4⟩ => ⟨X', H3, tf, f1, by rw [hsz]; exact f2, ?_, f4.mono fun b hb => .inl hb⟩)
        have := hs.backO (fun k cs hk => (h1look k cs hk).2) f3 (fun b hb => hb) (e3.trans f4)
        rw [hsz, ← e4.1]
        exact SimE.sub this rfl (fun _ _ h => by cases h) f5 (fun p hp => by cases hp)
      · have hje : j = cs1.length := by omega
        have hc2 : cs2[0]? = some c := by
          rw [List.getElem?_append_right (by omega), hje, Nat.sub_self] at hcj; exact hcj
        cases hcs2 : cs2 with
        | nil => rw [hcs2] at hc2; cases hc2
        | cons c' r =>
          rw [hcs2] at hc2
          simp at hc2
          subst hc2
          rw [hje, List.drop_length] at e4
          have e5 : CSemX P σ.n (fun v H2 => Stk P Q ks (.panic [{ v := v, recovered := false }]) ⟨σ.n, [], H2, []⟩) (fun σ3 => ARun P Q ks σ3) (cs2.filterMap fun i => l[i]?) ((σ1.withH (σ1.h ++ H1)).alc ld) := e4
          rw [hcs2, List.filterMap_cons, hlo] at e5
          refine (two _ r (by omega) (by rw [hcs2, hje]; simp) (back X1 tf σ1 g1 e2 e3) e5).mono (fun x w' ⟨X', f1, ⟨f2, f3, f4, σ2, f5, f6⟩, f7⟩ => ⟨X', f1, ⟨f2, f3, f4, .inr ⟨by omega, σ2, f5, by rw [← hcs2]; exact f6⟩⟩, f7⟩) (fun v w' h => h)
    · have hc2 : cs2[j - cs1.length]? = some c := by
        rw [List.getElem?_append_right (by omega)] at hcj; exact hcj
      have hlt := (List.getElem?_eq_some_iff.1 hc2).1
      have hdr : cs2.drop (j - cs1.length) = c :: cs2.drop (j + 1 - cs1.length) := by
        rw [List.drop_eq_getElem_cons hlt, show j - cs1.length + 1 = j + 1 - cs1.length by omega]
        have := List.getElem?_eq_getElem hlt
        rw [hc2] at this
        rw [Option.some.inj this]
      rw [hdr, List.filterMap_cons, hlo] at e3
      exact (two σ1 _ (by omega) rfl e2 e3).mono (fun x w' ⟨X', f1, ⟨f2, f3, f4, σ2, f5, f6⟩, f7⟩ => ⟨X', f1, ⟨f2, f3, f4, .inr ⟨by omega, σ2, f5, f6⟩⟩, f7⟩) (fun v w' h => h)
  · rintro X1 tf ⟨g0, g1, gx, ⟨g2, σ1, g3, g4, g5⟩ | ⟨g2, σ1, g3, g4⟩⟩
    · have e2 : cs2 = [] := by
        rw [List.length_append] at g2
        exact List.length_eq_zero_iff.1 (by omega)
      subst e2
      rw [List.append_nil, List.drop_length] at g5
      exact ⟨_, back X1 tf σ1 g1 g3 g4, g5⟩
    · rw [List.length_append, List.drop_eq_nil_of_le (by omega)] at g4
      exact ⟨σ1, g3, g4⟩
end
end Go.Proofs.YtgmlkhfjhogdbaaGreat

/- What ar_drawX asks for, out of the layer's own: effects, calls, loads. -/
namespace Go.Proofs.YtgmlkhfjhogdbaaGreat
open Go.RowKit P
set_option linter.unusedSimpArgs false
set_option linter.unusedVariables false
section
variable {P : Program} {Q : Exit → AS → Prop} {ks : List It} {T : Tys P} {σ : AS} {R : AS → Prop} {RP : Value → List (Nat × List AV) → Prop} {post : AOut → List (Nat × List AV) → Prop} {us : List AV} {ρs : List (Option Root)} {xs : Array Operand} {ats : Array TypeId} {f : FuncId} {d : Nat} {t ty : TypeId} {x : Operand} {pos : String} {af : Array Edge} {g : Option (Nat × Bool)}
theorem runsX_upon {R0 : Value → World → Prop} {RP0 : Value → World → Prop} {r : Result Next} (h : runsUpon P R0 r) : runsX P R0 RP0 r := by
  cases r with
  | halt z w => exact h.elim
  | ok nx w =>
    cases nx <;> simp only [runsUpon] at h <;> simp only [runsX]
    case value x => exact h
    case skip => exact h
    case enter f args =>
      refine h.mono fun e w' he => ?_
      cases e with
      | returned v => exact he
      | panicked ch => exact he.elim
      | outgrown => exact he.elim
theorem effX_eff {o : Oper} (h : EffOp P o σ R) : EffX P o σ R RP := fun F X a hs => runsX_upon (h F X a hs)
theorem loadC_box {b o : Nat} {cs : List AV} {u : AV} {dsc : TypeDesc} {dd : Option Tmp} (hx : opV σ x = some (.v (.pointer (some ⟨b, o, none⟩)))) (hb : look σ.h b = some cs) (hu : cs[o]? = some u) (h0 : look T.ty t = some dsc) (h1 : oneB dsc = true) (hm : isMpB cs = false) : LoadC P ⟨dd, .load t x, ty, pos, af, g⟩ σ b o u.rd := by
  refine ⟨⟨cs, u, hb, hm, hu, rfl⟩, fun s e => (by cases e), fun F X a hs => ?_⟩
  have e1 := opV_val hs (by simp [Op.operands]) hx
  obtain ⟨v, hc, _⟩ := box_cellX (hs.box b cs hb) hm hu
  exact ⟨v, hc, by simp only [execOp, e1]; exact run_val (run_load1 (T.tyOk _ _ h0) h1 hc)⟩
theorem effX_call {Hp Hr : List (Nat × List AV)} (hc : ACalls P f us Hp post) (ha : PArgs σ xs.toList us ρs) (h1 : oneSome ρs = true) (hroot : ∀ k o, some (Root.c k o) ∈ ρs → look Hp k = none) (hHp : ∀ k cs, look Hp k = some cs → look σ.h k = some cs) (hHr : ∀ k cs, look Hr k = some cs → look (layAll ρs σ).h k = some cs ∧ look Hp k = none) (hd : Nat.ble (d + 1) σ.n = true)
    (hR : ∀ u H', post (.ret u) H' → R (AS.nf ((callSt σ ρs Hr H').put d u))) (hP : ∀ v H', post (.pan v) H' → ∃ H2, (∀ k cs, look H2 k = some cs → look (callSt σ ρs Hr H').h k = some cs) ∧ RP v H2) (hn : ∀ H', (callSt σ ρs Hr H').n = σ.n) : EffX P ⟨some d, .call { callee := .value (.func f), args := xs, argTypes := ats }, ty, pos, af, g⟩ σ R RP := by
  intro F X a hs
  have hlen := ha.len
  rw [Conc.execOp_call_func rfl, run_enter hc.1]
  simp only [runsX]
  refine (call_core (vs := xs.map a.eval) hs hc (by simp [hlen.1]) (fun i u hu => ?_) (fun i j r hi hj => oneSome_spec h1 i j r r hi hj) hroot hHp hHr (lt_of_ble hd)).mono fun e w' ⟨X', out, H', p1, p2, p3, p4, p5⟩ => ?_
  · obtain ⟨x, ρ, hx, hρ, hp⟩ := ha.get i u hu
    have hx' : xs[i]? = some x := by simpa using hx
    have : (xs.map a.eval).getD i undef = a.eval x := by simp [hx']
    rw [this]; exact ⟨ρ, hρ, hp.val hs⟩
  · cases out with
    | ret u => obtain ⟨v, rfl, hv⟩ := p5; exact ⟨X', _, p1, hR u H' p2, hv, p3⟩
    | pan x =>
      subst p5
      obtain ⟨H2, k1, k2⟩ := hP x H' p2
      have h9 : SimE F X' ⟨(callSt σ ρs Hr H').n, [], H2, []⟩ a.tmps := p4.sub rfl (fun _ _ h => by cases h) k1 (fun p hp => by cases hp)
      rw [hn] at h9
      exact ⟨x, rfl, X', H2, p1, k2, h9, p3⟩
end
/-! ### Regions that draw: every order is walked -/
def hasW : List Nat → Nat → Bool
  | [], _ => false
  | a :: r, i => match Nat.beq i a with | true => true | false => hasW r i
def rdyOf (l : List Oper) (done : List Nat) : List Nat := (List.range l.length).filter fun i => !hasW done i && match l[i]? with
  | some o => (depsOf o).all (hasW done)
  | none => false
def AAny (P : Program) (Q : Exit → AS → Prop) (ks : List It) (l : List Oper) (n0 : Nat) : Nat → List Nat → AS → Prop
  | 0, done, σ => rdyOf l done = [] ∧ ARun P Q ks σ
  | n + 1, done, σ => (rdyOf l done = [] → ARun P Q ks σ) ∧ ∀ i ∈ rdyOf l done, ∀ o, l[i]? = some o → σ.n = n0 ∧ o.guard = none ∧ EffX P o σ (AAny P Q ks l n0 n (i :: done)) fun v H2 => Stk P Q ks (.panic [{ v := v, recovered := false }]) ⟨n0, [], H2, []⟩
theorem hasW_mem {i : Nat} : ∀ {l : List Nat}, hasW l i = true ↔ i ∈ l
  | [] => ⟨fun h => (by cases h), fun h => (by cases h)⟩
  | a :: r => by
    unfold hasW
    rw [List.mem_cons]
    cases e : Nat.beq i a with
    | true => exact ⟨fun _ => .inl (Nat.eq_of_beq_eq_true e), fun _ => rfl⟩
    | false =>
      refine ⟨fun h => .inr (hasW_mem.1 h), fun h => ?_⟩
      rcases h with rfl | h
      · rw [Nat.beq_refl] at e; cases e
      · exact hasW_mem.2 h
section
variable {P : Program} {Q : Exit → AS → Prop} {ks : List It} {σ : AS} {l : List Oper}
theorem mem_rdy {done : List Nat} {i : Nat} : i ∈ rdyOf l done ↔ i ∉ done ∧ ∃ o, l[i]? = some o ∧ ∀ d ∈ depsOf o, d ∈ done := by
  unfold rdyOf
  rw [List.mem_filter, List.mem_range]
  constructor
  · rintro ⟨h1, h2⟩
    rw [Bool.and_eq_true] at h2
    have ho : l[i]? = some l[i] := List.getElem?_eq_getElem h1
    refine ⟨fun hc => ?_, l[i], ho, fun d hd => ?_⟩
    · rw [hasW_mem.2 hc] at h2; exact absurd h2.1 (by simp)
    · have h3 := h2.2
      rw [ho] at h3
      exact hasW_mem.1 (List.all_eq_true.1 h3 d hd)
  · rintro ⟨h1, o, ho, h2⟩
    refine ⟨(List.getElem?_eq_some_iff.1 ho).1, ?_⟩
    rw [Bool.and_eq_true]
    refine ⟨?_, ?_⟩
    · cases e : hasW done i with
      | false => rfl
      | true => exact absurd (hasW_mem.1 e) h1
    · rw [ho]
      exact List.all_eq_true.2 fun d hd => hasW_mem.2 (h2 d hd)
theorem ar_any {id : Nat} (hm : P.follows .mixedOrders = true) (h : AAny P Q ks l σ.n l.length [] σ) : ARun P Q (.c (.region id l.toArray true) :: ks) σ := by
  intro F X a hs D hdf
  have hXd : New X ⟨X.w.drew, X.g⟩ := ⟨rfl, rfl, rfl, Nat.le_refl _, fun _ _ => ⟨rfl, rfl⟩⟩
  refine wp_region_any hm ?_
  have key : ∀ (fuel : Nat) (done : List Nat) (listed : Array Bool) (X1 : GW) (a1 : Act) (σ1 : AS), listed.size = l.length → (∀ j, j < l.length → (listed.getD j false = true ↔ j ∈ done)) → (∀ d ∈ done, d < l.length) → a1.defers = D → a1.tmps.size = σ.n → Ext F X X1 → SimE F X1 σ1 a1.tmps → AAny P Q ks l σ.n fuel done σ1 → wpAny P .any l.toArray (PostA F X D (Stk P Q ks)) fuel listed a1 X1.w := by
    intro fuel
    induction fuel with
    | zero =>
      intro done listed X1 a1 σ1 hsz hl hdn hd1 hn1 hx1 hs1 hA
      have hr : ∀ i, i ∈ Region.ready .any l.toArray listed → i ∈ rdyOf l done := fun i hi => by
        obtain ⟨h1, o, h2, h3⟩ := mem_ready.1 hi
        have h2' : l[i]? = some o := by simpa using h2
        have hil := (List.getElem?_eq_some_iff.1 h2').1
        have hlf : listed.getD i false = false := by rw [← getD_tf (by omega)]; exact h1
        refine mem_rdy.2 ⟨fun hc => (by rw [(hl i hil).2 hc] at hlf; cases hlf), o, h2', fun d hd => ?_⟩
        obtain ⟨e, k1, k2, k3⟩ := mem_depsOf.1 hd
        have := h3 e k1 k2
        rw [k3] at this
        have hdl : d < l.length := by
          apply Classical.byContradiction
          intro hc
          rw [Array.getD_eq_getD_getElem?, Array.getElem?_eq_none (by omega)] at this; cases this
        exact (hl d hdl).1 this
      refine ⟨List.eq_nil_iff_forall_not_mem.2 fun i hi => ?_, hd1, X1, σ1, rfl, hA.2, hs1, hx1⟩
      have := hr i hi
      rw [hA.1] at this; cases this
    | succ fuel ih =>
      intro done listed X1 a1 σ1 hsz hl hdn hd1 hn1 hx1 hs1 hA
      have hr : ∀ i, i ∈ Region.ready .any l.toArray listed ↔ i ∈ rdyOf l done := fun i => by
        rw [mem_ready, mem_rdy]
        constructor
        · rintro ⟨h1, o, h2, h3⟩
          have h2' : l[i]? = some o := by simpa using h2
          have hil := (List.getElem?_eq_some_iff.1 h2').1
          have hlf : listed.getD i false = false := by rw [← getD_tf (by omega)]; exact h1
          refine ⟨fun hc => (by rw [(hl i hil).2 hc] at hlf; cases hlf), o, h2', fun d hd => ?_⟩
          obtain ⟨e, k1, k2, k3⟩ := mem_depsOf.1 hd
          have := h3 e k1 k2
          rw [k3] at this
          have hdl : d < l.length := by
            apply Classical.byContradiction
            intro hc
            rw [Array.getD_eq_getD_getElem?, Array.getElem?_eq_none (by omega)] at this; cases this
          exact (hl d hdl).1 this
        · rintro ⟨h1, o, h2, h3⟩
          have hil := (List.getElem?_eq_some_iff.1 h2).1
          refine ⟨?_, o, by simpa using h2, fun e he hb => ?_⟩
          · rw [getD_tf (by omega)]
            cases hc : listed.getD i false with
            | false => rfl
            | true => exact absurd ((hl i hil).1 hc) h1
          · have hd := h3 e.on (mem_depsOf.2 ⟨e, he, hb, rfl⟩)
            exact (hl _ (hdn _ hd)).2 hd
      refine ⟨fun hnil => ⟨hd1, X1, σ1, rfl, hA.1 (List.eq_nil_iff_forall_not_mem.2 fun i hi => by rw [← hr i, hnil] at hi; cases hi), hs1, hx1⟩, fun i hi => ?_⟩
      have hi' := (hr i).1 hi
      obtain ⟨h1, o, h2, h3⟩ := mem_rdy.1 hi'
      have hil := (List.getElem?_eq_some_iff.1 h2).1
      obtain ⟨hn, hg, hE⟩ := hA.2 i hi' o h2
      have hrun := hE F X1 a1 hs1
      have fin2 : ∀ (x : Value) (w' : World), (∃ (X' : GW) (σ' : AS), X'.w = w' ∧ AAny P Q ks l σ.n fuel (i :: done) σ' ∧ SimE F X' σ' (a1.put o.dst x).tmps ∧ Ext F X1 X') → wpAny P .any l.toArray (PostA F X D (Stk P Q ks)) fuel (listed.setIfInBounds i true) (a1.put o.dst x) w' := by
        rintro x w' ⟨X', σ', rfl, k1, k2, k3⟩
        refine ih (i :: done) (listed.setIfInBounds i true) X' (a1.put o.dst x) σ' (by simp [hsz]) (fun j hj => ?_) (fun d hd => (List.mem_cons.1 hd).elim (fun e => e ▸ hil) (hdn d)) (by rw [put_defers]; exact hd1) (by rw [put_sz]; exact hn1) (hx1.trans k3) k2 k1
        rw [getD_setb false (by omega), List.mem_cons]
        by_cases e : j = i
        · subst e; simp
        · rw [if_neg e, hl j hj]; simp [e]
      have pan : ∀ (v : Value) (w' : World), (∃ (X' : GW) (H2 : List (Nat × List AV)), X'.w = w' ∧ Stk P Q ks (.panic [{ v := v, recovered := false }]) ⟨σ.n, [], H2, []⟩ ∧ SimE F X' ⟨σ1.n, [], H2, []⟩ a1.tmps ∧ Ext F X1 X') → PostA F X D (Stk P Q ks) (.panic [{ v := v, recovered := false }]) a1 w' := by
        rintro v w' ⟨X', H2, rfl, k1, k2, k3⟩
        rw [hn] at k2
        exact ⟨hd1, X', _, rfl, k1, k2, hx1.trans k3⟩
      have ho2 : l.toArray[i]? = some o := by simpa using h2
      unfold wpOp
      simp only [ho2]
      have hw : Region.wanted o (yielded l.toArray a1.tmps) = true := by unfold Region.wanted; rw [hg]
      rw [if_pos hw]
      left
      unfold Oper.wp
      generalize (execOp a1.eval o).run P X1.w = r at hrun ⊢
      cases r with
      | halt z w =>
        cases z <;> simp only [runsX] at hrun
        exact pan _ _ hrun
      | ok nx w =>
        cases nx <;> simp only [runsX] at hrun <;> simp only [Oper.upon]
        case value x => exact fin2 _ _ hrun
        case skip => exact fin2 _ _ hrun
        case enter f args =>
          refine hrun.mono fun e w' he => ?_
          cases e with
          | returned v => exact fin2 _ _ he
          | panicked ch => obtain ⟨v, rfl, he⟩ := he; exact pan _ _ he
          | outgrown => exact he.elim
  have hno : ∀ i, (Array.replicate l.toArray.size false).getD i false = false := fun i => by
    simp only [Array.getD_eq_getD_getElem?, Array.getElem?_replicate]
    split <;> simp
  have := key l.toArray.size [] (Array.replicate l.toArray.size false) ⟨X.w.drew, X.g⟩ a σ (by simp) (fun j _ => by rw [hno]; simp) (fun d hd => by cases hd) hdf hs.size (hXd.ext hs.gb hs.fb) (hs.new hXd hs.gb) (by simpa using h)
  exact this
end
end Go.Proofs.YtgmlkhfjhogdbaaGreat

/- Typed abstract values: code. -/
namespace Go.Proofs.YtgmlkhfjhogdbaaGreat
open Go.RowKit P
set_option linter.unusedSimpArgs false
set_option linter.unusedVariables false

/-- Is an operation wanted? -/
inductive Want where
  | yes
  | no
  | nor
  | sym (b want : Bool) (d : Nat)
  | bad
def wantT {T : Nat → Type} (l : List Oper) (σ : TS T) (o : Oper) : Want :=
  match o.guard with
  | none => .yes
  | some (j, want) => match (l[j]?).bind (·.dst) with
    | some d => match Nat.ble (d + 1) σ.n with
      | true => match look σ.t d with
        | some (.a .tt) => (match want with | true => .yes | false => .no)
        | some (.a .ff) => (match want with | true => .no | false => .yes)
        | some (.a (.d .bool b)) => .sym b want d
        | some (.a (.raw (.tuple _))) => .nor
        | _ => .bad
      | false => .bad
    | none => .bad
def TS.know {T : Nat → Type} (σ : TS T) (d : Nat) (x : TA T) : TS T := { n := σ.n, t := (d, .a x) :: σ.t, h := σ.h, e := σ.e }
section
variable {P : Program} (Y : Tys P) (E : Env) (G : Gam E)
/-- What comes of an operation. -/
inductive OL (T : Nat → Type) where
  | st (σ : TS T)
  | pan (v : Value)
def goodIds {T : Nat → Type} (h : List (Nat × TB T)) : List Nat → Bool
  | [] => true
  | i :: r => match look h i, memN r i with
    | some _, false => goodIds h r
    | _, _ => false
def TS.give {T : Nat → Type} (σ : TS T) (ids : List Nat) (h' : List (Nat × TB T)) : TS T := { n := σ.n, t := σ.t, h := h' ++ dropHH ids σ.h, e := dropCT σ.e }
def evXR {T : Nat → Type} (σ : TS T) (d : Nat) : XR T → Tree (OL T)
  | .bad => .fail
  | .ret o ids u h => match goodIds σ.h ids with
    | true => .bnd o fun z => .leaf (.st ((σ.give ids (h z)).put d (u z)))
    | false => .fail
  | .may o ids u h => match goodIds σ.h ids with
    | true => .bnd o fun p => .sm p (fun z => .leaf (.st ((σ.give ids (h z)).put d (u z)))) fun v => .leaf (.pan v)
    | false => .fail
/-- What is panicked with. -/
def panT (E : Env) (u : TV E.T) : Option Value := match u.ids fun _ => false with
  | true => panV (u.to E.toEnc id)
  | false => none
def evX (o : Oper) (σ : TS E.T) : Tree (OL E.T) :=
  match o.dst with
  | some d => match Nat.ble (d + 1) σ.n with
    | true => match o.op with
      | .call { callee := .value (.func f), args := xs, argTypes := ats } => match xHas G.x f with
        | true => match opTs σ xs.toList with
          | some us => evXR σ d (xRun G.x f (fixArgs E ats.toList us) σ.h)
          | none => .fail
        | false => (evOp Y E G o σ).bind fun σ' => .leaf (.st σ')
      | .call { callee := .value (.tmp s), args := xs, argTypes := ats } => match look σ.t s, opTs σ xs.toList with
        | some (.fn f caps), some us => match caps.all TA.plain with
          | true => evXR σ d (xRun G.x f (fixArgs E ats.toList us ++ caps.map .a) σ.h)
          | false => .fail
        | some (.a (.fnb f is)), some us => evXR σ d (xRun G.x f (fixArgs E ats.toList us ++ is.map fun i => .a (.box i 0)) σ.h)
        | _, _ => .fail
      | .binOp op t x y _ => match asL (opT σ x), opT σ y, look Y.ty t, op with
        | some ⟨_, l⟩, some (.a (.raw (.slice none 0 0))), some (.slice _), .eql => .nl l (.leaf (.st (σ.put d (.a .tt)))) (.leaf (.st (σ.put d (.a .ff))))
        | some ⟨_, l⟩, some (.a (.raw (.slice none 0 0))), some (.slice _), .neq => .nl l (.leaf (.st (σ.put d (.a .ff)))) (.leaf (.st (σ.put d (.a .tt))))
        | _, _, _, _ => (evOp Y E G o σ).bind fun σ' => .leaf (.st σ')
      | _ => (evOp Y E G o σ).bind fun σ' => .leaf (.st σ')
    | false => .fail
  | none => match o.op with
    | .panic x => match opT σ x with
      | some u => match panT E u with
        | some v => .leaf (.pan v)
        | none => .fail
      | none => .fail
    | _ => (evOp Y E G o σ).bind fun σ' => .leaf (.st σ')
/-- On, unless there was a panic. -/
def andT {T : Nat → Type} (f : TS T → Tree (OL T)) : OL T → Tree (OL T)
  | .st σ => f σ
  | .pan v => .leaf (.pan v)
def passT (σ : TS E.T) (o : Oper) : Tree (TS E.T) :=
  match o.dst with
  | some d => match Nat.ble (d + 1) σ.n with
    | true => .leaf (σ.put d (.a (.raw undef)))
    | false => .fail
  | none => .fail
def evOps (l : List Oper) : List Oper → TS E.T → Tree (OL E.T)
  | [], σ => .leaf (.st σ)
  | o :: rest, σ => match wantT l σ o with
    | .yes => (evX Y E G o σ).bind (andT (evOps l rest))
    | .no => (passT E σ o).bind (evOps l rest)
    | .nor => (passT E σ o).bind (evOps l rest)
    | .sym b true d => .cond b ((evX Y E G o (σ.know d .tt)).bind (andT (evOps l rest))) ((passT E (σ.know d .ff) o).bind (evOps l rest))
    | .sym b false d => .cond b ((passT E (σ.know d .tt) o).bind (evOps l rest)) ((evX Y E G o (σ.know d .ff)).bind (andT (evOps l rest)))
    | .bad => .fail
/-- An operation in a region that draws: it turns nothing. -/
def evQ (o : Oper) (σ : TS E.T) : Tree (TS E.T) :=
  match o.dst with
  | some d => match Nat.ble (d + 1) σ.n with
    | true => match o.op with
      | .pick c x y => match opT σ c with
        | some (.a .tt) => match opT σ x with
          | some u => .leaf (σ.put d u.rd)
          | none => .fail
        | some (.a .ff) => match opT σ y with
          | some u => .leaf (σ.put d u.rd)
          | none => .fail
        | some (.a (.d .bool b)) => match opT σ x, opT σ y with
          | some u, some v => .cond b (.leaf (σ.put d u.rd)) (.leaf (σ.put d v.rd))
          | _, _ => .fail
        | _ => .fail
      | .buildSlice t 0 ⟨[]⟩ => match look Y.ty t, look E.et t with
        | some (.slice e), some (.sl ty) => match look Y.sz e with
          | some (sz, _) => match Nat.beq sz (csz E.toEnc ty) with
            | true => .leaf (σ.put d (.a (.clip ty [])))
            | false => .fail
          | none => .fail
        | _, _ => .fail
      | .call { callee := .builtin .append, args := ⟨[x, y]⟩, argTypes := ⟨[t, u]⟩ } => match opT σ x, look Y.ty t, look Y.ty u with
        | some (.a (.clip ty l)), some (.slice e), some du => match look Y.sz e, addT ty (opT σ y) with
          | some (sz, by_), some m => match isStrSl du && Nat.ble 1 by_ && Nat.beq sz (csz E.toEnc ty) with
            | true => .nl m (.leaf (σ.put d (.a (.clip ty l)))) (.bnd (appC by_ l m) fun r => .leaf (σ.put d (.a (.own ty r))))
            | false => .fail
          | _, _ => .fail
        | _, _, _ => .fail
      | op => pureT Y E G σ d op o.type
    | false => .fail
  | none => .fail
def evQs (l : List Oper) : List Oper → TS E.T → Tree (TS E.T)
  | [], σ => .leaf σ
  | o :: rest, σ => match wantT l σ o with
    | .yes => (evQ Y E G o σ).bind (evQs l rest)
    | .no => (passT E σ o).bind (evQs l rest)
    | .sym b true d => .cond b ((evQ Y E G o (σ.know d .tt)).bind (evQs l rest)) ((passT E (σ.know d .ff) o).bind (evQs l rest))
    | .sym b false d => .cond b ((passT E (σ.know d .tt) o).bind (evQs l rest)) ((evQ Y E G o (σ.know d .ff)).bind (evQs l rest))
    | _ => .fail
/-- Does an operation turn something? -/
def bs0 (l : List Oper) (s : Nat) : Bool := l.any fun o => match o.dst, o.op with
  | some d, .buildSlice _ 0 ⟨[]⟩ => Nat.beq d s
  | _, _ => false
def effB (xs bs : Nat → Bool) : Op → Bool
  | .store _ _ _ => true
  | .mapUpdate _ _ _ _ => true
  | .alloc _ => true
  | .box _ _ => true
  | .makeMap _ _ => true
  | .panic _ => true
  | .call { callee := .builtin .append, args := ⟨.tmp s :: _⟩, argTypes := _ } => !bs s
  | .call { callee := .builtin .append, args := _, argTypes := _ } => true
  | .call { callee := .value (.func f), args := _, argTypes := _ } => xs f
  | _ => false
def effD (mu : List Nat) : Option Nat → Bool
  | some d => hasB mu d
  | none => false
def splitE (xs bs : Nat → Bool) (mu : List Nat) : List Oper → List Oper × List Oper
  | [] => ([], [])
  | o :: r => match effD mu o.dst || effB xs bs o.op with
    | true => ([], o :: r)
    | false => match splitE xs bs mu r with
      | (a, b) => (o :: a, b)
def ownS {T : Nat → Type} (σ : TS T) (s : Nat) : Bool := match look σ.t s with
  | some (.a (.own _ _)) => true
  | _ => false
def TS.alsT {T : Nat → Type} (σ : TS T) (m : List (Nat × Nat)) : TS T := { n := σ.n, t := σ.t, h := σ.h, e := (m.filter fun p => ownS σ p.2).map (fun p => (p.1, Root.s p.2)) ++ σ.e }
def TS.withB {T : Nat → Type} (σ : TS T) (h : List (Nat × TB T)) : TS T := { n := σ.n, t := σ.t, h := h, e := σ.e }
def storeL (σ : TS E.T) (t : TypeId) (k o n : Nat) (y : Operand) : Option (List (TA E.T)) :=
  match look σ.h k, opT σ y with
  | some (.cs cs), some u => match u.cs1 with
    | some vs => match Nat.beq vs.length n && Nat.ble (o + n) cs.length with
      | true => some (spl cs o (nilC ((look E.ct t).getD []) vs))
      | false => none
    | none => none
  | _, _ => none
def lateB (ops body : List Oper) (om oa : Oper) (after : List Oper) : Bool := match om.op with
  | .store _ _ _ => drawLB ops body om oa after
  | _ => false
/-- A region that draws, with a store among it. -/
def lateR (ops body : List Oper) (om oa : Oper) (after : List Oper) (σ : TS E.T) : Tree (OL E.T) :=
  match om.op with
  | .store t x y => match opT σ x, look Y.sz t with
    | some (.a (.box kk _)), some (n, _) => match drawLB ops body om oa after && (look σ.h kk).isSome with
      | true => (evQs Y E G ops body (σ.withB (noBox kk σ.h))).bind fun σ' => match opT σ' x with
        | some (.a (.box k2 p)) => match Nat.beq k2 kk with
          | true => match storeL E (σ'.withB σ.h) t kk p n y with
            | some cs => evOps Y E G ops (oa :: after) (((σ'.withB σ.h).setc kk cs).alsT (slotMoves body))
            | none => .fail
          | false => .fail
        | _ => .fail
      | false => .fail
    | _, _ => .fail
  | _ => .fail
/-! Regions that draw: what turns nothing, in whatever order, among a chain of what does. -/
def detV {T : Nat → Type} : TV T → Bool
  | .a (.d (.int _) _) => true
  | .a (.d .byte _) => true
  | .a (.d .bool _) => true
  | .a (.d .str _) => true
  | .a (.box _ _) => true
  | .a (.mpr _) => true
  | .a (.raw _) => true
  | .a .tt => true
  | .a .ff => true
  | .a (.bsl _ _ _ _) => true
  | _ => false
def kindN : Op → Bool
  | .move _ => true
  | .fieldAddr _ _ _ => true
  | .load _ _ => true
  | .binOp _ _ _ _ _ => true
  | .unOp _ _ _ => true
  | .index _ _ _ => true
  | .nilCheck _ => true
  | .slice _ _ _ _ _ => true
  | .convert _ _ _ => true
  | .call { callee := .builtin .len, args := _, argTypes := _ } => true
  | _ => false
def clsN (xs bs : Nat → Bool) (mu : List Nat) (l : List Oper) : List Oper → List Nat → List Bool
  | [], _ => []
  | o :: r, cd => match kindN o.op && !(effD mu o.dst || effB xs bs o.op) && o.guard.isNone && o.dst.isSome && !(seesOf l o).any (hasB cd) with
    | true => true :: clsN xs bs mu l r cd
    | false => false :: clsN xs bs mu l r (match o.dst with | some d => d :: cd | none => cd)
def mNf (fl : List Bool) (i : Nat) : Bool := fl.getD i false
def chainOf : Nat → List Bool → List Nat
  | _, [] => []
  | k, true :: r => chainOf (k + 1) r
  | k, false :: r => k :: chainOf (k + 1) r
def dstIs (s : Nat) (o : Oper) : Bool := match o.dst with
  | some d => Nat.beq d s
  | none => false
/-- Where a pointer points to, as far as is seen. -/
def ptrB (l : List Oper) (σ : TS E.T) : Nat → Operand → Option (Nat × Nat)
  | 0, _ => none
  | n + 1, .tmp s => match l.find? (dstIs s) with
    | some o => match o.op with
      | .move y => ptrB l σ n y
      | .nilCheck y => ptrB l σ n y
      | .fieldAddr t y i => match look Y.ty t, ptrB l σ n y with
        | some (.struct fs), some (k, p) => match fs[i]? with
          | some f => some (k, p + f.offset)
          | none => none
        | _, _ => none
      | .load _ y => match ptrB l σ n y with
        | some (k, p) => match look σ.h k with
          | some (.cs cs) => match cs[p]? with
            | some (.box j q) => some (j, q)
            | _ => none
          | _ => none
        | none => none
      | _ => none
    | none => match look σ.t s with
      | some (.a (.box k p)) => some (k, p)
      | _ => none
  | _, _ => none
def inH {T : Nat → Type} (ids : List Nat) (h : List (Nat × TB T)) : List (Nat × TB T) := h.filter fun p => memN ids p.1
def outH {T : Nat → Type} (ids : List Nat) (h : List (Nat × TB T)) : List (Nat × TB T) := h.filter fun p => !memN ids p.1
def mixIds (l : List Oper) (σ : TS E.T) (fl : List Bool) : List Nat := l.zipIdx.filterMap fun q => match mNf fl q.2, q.1.op with
  | true, .load _ y => (ptrB Y E l σ l.length y).map (·.1)
  | _, _ => none
def baseB (l : List Oper) (σ : TS E.T) (x : Operand) : Option Nat := match x with
  | .tmp s => match l.find? (dstIs s) with
    | some o => match o.op with
      | .load _ y => (ptrB Y E l σ l.length y).map (·.1)
      | _ => none
    | none => none
  | _ => none
def isIn (ids : List Nat) : Option Nat → Bool
  | some k => memN ids k
  | none => false
/-- Does an operation turn a box among these? -/
def touchB (l : List Oper) (σ : TS E.T) (ids : List Nat) (i : Nat) : Bool := match l[i]? with
  | some o => match o.op with
    | .store _ x _ => isIn ids ((ptrB Y E l σ l.length x).map (·.1))
    | .call { callee := .builtin .append, args := xs, argTypes := _ } => xs.toList.any fun x => isIn ids (baseB Y E l σ x)
    | .call { callee := .value _, args := xs, argTypes := _ } => xs.toList.any fun x => isIn ids ((ptrB Y E l σ l.length x).map (·.1))
    | _ => false
  | none => false
/-- What an operation waits for, through others too. -/
def cloD (l : List Oper) : Nat → List Nat → List Nat
  | 0, S => S
  | i + 1, S => cloD l i (match hasB S i, l[i]? with
    | true, some o => depsOf o ++ S
    | _, _ => S)
def mBf (l : List Oper) (cs2 : List Nat) (i : Nat) : Bool := match cs2 with
  | [] => true
  | c :: _ => hasB (cloD l (c + 1) [c]) i
def ldsOf (l : List Oper) (σ : TS E.T) (fl : List Bool) (mB : Nat → Bool) : List (Nat × Nat × Nat) := l.zipIdx.filterMap fun q => match mNf fl q.2 && mB q.2, q.1.op, q.1.dst with
  | true, .load _ y, some d => match ptrB Y E l σ l.length y with
    | some (k, p) => match look σ.h k with
      | some (.cs cs) => match cs[p]? with
        | some c => match detV (.a c : TV E.T) with
          | true => none
          | false => some (d, k, p)
        | none => none
      | _ => none
    | none => none
  | _, _, _ => none
def ldCell (σ : TS E.T) (op : Op) (kk p : Nat) : Option (TA E.T) := match op with
  | .load t x => match opT σ x, look Y.ty t, look σ.h kk with
    | some (.a (.box k2 p2)), some dsc, some (.cs cs) => match Nat.beq k2 kk && Nat.beq p2 p && oneB dsc with
      | true => cs[p]?
      | false => none
    | _, _, _ => none
  | _ => none
def mvN (l : List Oper) (fl : List Bool) (σ : TS E.T) (op : Op) : Option (TV E.T) := match op with
  | .move (.tmp s) => match l.zipIdx.all fun q => !mNf fl q.2 || !(dstIs s q.1) with
    | true => opT σ (.tmp s)
    | false => none
  | _ => none
def bstT {T : Nat → Type} (mB : Nat → Bool) (i : Nat) (σ : TS T) : TS T := match mB i with
  | true => σ
  | false => σ.withB []
def evN (l : List Oper) (fl : List Bool) (mB : Nat → Bool) (ld : List (Nat × Nat × Nat)) : Nat → List Oper → TS E.T → Tree (TS E.T)
  | _, [], σ => .leaf σ
  | k, o :: rest, σ => match mNf fl k with
    | false => evN l fl mB ld (k + 1) rest σ
    | true => match o.dst, o.guard with
      | some d, none => match Nat.ble (d + 1) σ.n with
        | true => match ldAt ld d with
          | some (_, kk, p) => match mB k, ldCell Y E σ o.op kk p with
            | true, some c => evN l fl mB ld (k + 1) rest (σ.put d (.a c.rd))
            | _, _ => .fail
          | none => match mvN E l fl σ o.op with
            | some u => evN l fl mB ld (k + 1) rest (σ.put d u.rd)
            | none => match evP Y E G (bstT mB k σ) o.op o.type with
              | .one u => match detV u with
                | true => evN l fl mB ld (k + 1) rest (σ.put d u)
                | false => .fail
              | .opt z u => .bnd z fun x => match detV (u x) with
                | true => evN l fl mB ld (k + 1) rest (σ.put d (u x))
                | false => .fail
              | .bad => .fail
        | false => .fail
      | _, _ => .fail
/-- An operation of the chain. -/
def evE (all : Bool) (o : Oper) (σ : TS E.T) : Tree (OL E.T) :=
  match o.guard with
  | some _ => .fail
  | none => match o.op with
    | .call { callee := .value (.func f), args := xs, argTypes := ats } => match xHas G.x f, o.dst with
      | true, some d => match Nat.ble (d + 1) σ.n, opTs σ xs.toList with
        | true, some us => evXR σ d (xRun G.x f (fixArgs E ats.toList us) σ.h)
        | _, _ => .fail
      | false, some d => match Nat.ble (d + 1) σ.n with
        | true => (pureT Y E G σ d o.op o.type).bind fun σ' => .leaf (.st σ')
        | false => .fail
      | _, _ => .fail
    | op => match all, o.dst with
      | true, _ => match creO G.mu o with
        | false => (evOp Y E G o σ).bind fun σ' => .leaf (.st σ')
        | true => .fail
      | false, some d => match Nat.ble (d + 1) σ.n with
        | true => (pureT Y E G σ d op o.type).bind fun σ' => .leaf (.st σ')
        | false => .fail
      | false, none => .fail
def evCs (all : Bool) (n : Nat) (l : List Oper) : List Nat → TS E.T → Tree (OL E.T)
  | [], σ => .leaf (.st σ)
  | c :: cs, σ => match Nat.beq σ.n n, l[c]? with
    | true, some o => (evE Y E G all o σ).bind (andT (evCs all n l cs))
    | _, _ => .fail
def TS.alsA {T : Nat → Type} (σ : TS T) (m : List (Nat × Nat)) : TS T := { n := σ.n, t := σ.t, h := σ.h, e := m.map (fun p => (p.1, Root.s p.2)) ++ σ.e }
def TS.alcT {T : Nat → Type} (σ : TS T) (ld : List (Nat × Nat × Nat)) : TS T := { n := σ.n, t := σ.t, h := σ.h, e := ld.map (fun p => (p.1, Root.c p.2.1 p.2.2)) ++ σ.e }
def TS.ownE {T : Nat → Type} (σ : TS T) : TS T := { n := σ.n, t := σ.t, h := σ.h, e := σ.e.filter fun p => (σ.ownAt p.2).isSome }
def ldOkB (l : List Oper) (fl : List Bool) (ld : List (Nat × Nat × Nat)) : Bool := decide (ld.map (·.1)).Nodup && ld.all fun p => l.zipIdx.any fun q => mNf fl q.2 && dstIs p.1 q.1
def hasAll {T : Nat → Type} (h : List (Nat × TB T)) (ids : List Nat) : Bool := ids.all fun k => (look h k).isSome
/-! Regions that draw, small ones: every order is walked. -/
def parT {L : Type} : List (Tree L) → Tree L
  | [] => .fail
  | [t] => t
  | t :: r => .nl ([] : List Nat) t (parT r)
def evA (o : Oper) (σ : TS E.T) : Tree (OL E.T) :=
  match o.guard with
  | some _ => .fail
  | none => match o.op with
    | .call { callee := .value (.func f), args := xs, argTypes := ats } => match xHas G.x f, o.dst with
      | true, some d => match Nat.ble (d + 1) σ.n, opTs σ xs.toList with
        | true, some us => evXR σ d (xRun G.x f (fixArgs E ats.toList us) σ.h)
        | _, _ => .fail
      | _, _ => (evOp Y E G o σ).bind fun σ' => .leaf (.st σ')
    | _ => (evOp Y E G o σ).bind fun σ' => .leaf (.st σ')
def anyT (n0 : Nat) (l : List Oper) : Nat → List Nat → TS E.T → Tree (OL E.T)
  | 0, done, σ => match rdyOf l done with
    | [] => .leaf (.st σ)
    | _ => .fail
  | n + 1, done, σ => match rdyOf l done with
    | [] => .leaf (.st σ)
    | is => parT (is.map fun i => match Nat.beq σ.n n0, l[i]? with
      | true, some o => (evA Y E G o σ).bind (andT (anyT n0 l n (i :: done)))
      | _, _ => .fail)
def anyR (ops : List Oper) (σ : TS E.T) : Tree (OL E.T) :=
  match Nat.ble ops.length 8 with
  | true => anyT Y E G σ.n ops ops.length [] σ
  | false => .fail
def mixR2 (ops : List Oper) (σ : TS E.T) (fl : List Bool) (ids cs1 cs2 : List Nat) (ld : List (Nat × Nat × Nat)) : Tree (OL E.T) :=
  match mixB ops (mNf fl) (cs1 ++ cs2) && hasAll σ.h ids && ldOkB ops fl ld with
  | true => (evN Y E G ops fl (mBf ops cs2) ld 0 ops (σ.withB (inH ids σ.h))).bind fun σN =>
    (evCs Y E G false σ.n ops cs1 ((σN.withB (outH ids σ.h)).alsA (nMoves ops (mNf fl) 0 ops))).bind (andT fun σ1 =>
      match hasAll σ.h (σ1.h.map (·.1)) && (σ1.h.all fun p => !memN ids p.1) with
      | true => evCs Y E G true σ.n ops cs2 ((σ1.withB (σ1.h ++ inH ids σ.h)).alcT ld).ownE
      | false => .fail)
  | false => anyR Y E G ops σ
def mixR1 (ops : List Oper) (σ : TS E.T) (fl : List Bool) (ids ch : List Nat) : Tree (OL E.T) :=
  mixR2 Y E G ops σ fl ids (ch.takeWhile fun i => !touchB Y E ops σ ids i) (ch.dropWhile fun i => !touchB Y E ops σ ids i) (ldsOf Y E ops σ fl (mBf ops (ch.dropWhile fun i => !touchB Y E ops σ ids i)))
def mixR (ops : List Oper) (σ : TS E.T) : Tree (OL E.T) :=
  match σ.e with
  | [] => mixR1 Y E G ops σ (clsN (xHas G.x) (bs0 ops) G.mu ops ops []) (mixIds Y E ops σ (clsN (xHas G.x) (bs0 ops) G.mu ops ops [])) (chainOf 0 (clsN (xHas G.x) (bs0 ops) G.mu ops ops []))
  | _ => .fail
def evR (ops : List Oper) (draw : Bool) (σ : TS E.T) : Tree (OL E.T) :=
  match draw with
  | false => evOps Y E G ops ops σ
  | true => match splitE (xHas G.x) (bs0 ops) G.mu ops, σ.e with
    | (_, []), [] => match drawB ops with
      | true => (evQs Y E G ops ops σ).bind fun σ' => .leaf (.st σ')
      | false => .fail
    | (body, om :: after), [] => match drawCB ops body om after with
      | true => (evQs Y E G ops body σ).bind fun σ' => evOps Y E G ops (om :: after) (σ'.alsT (slotMoves body))
      | false => match after with
        | oa :: after => match lateB ops body om oa after with
          | true => lateR Y E G ops body om oa after σ
          | false => mixR Y E G ops σ
        | [] => mixR Y E G ops σ
    | _, _ => .fail
end
section
variable {P : Program} {Y : Tys P} {E : Env} {G : Gam E} {ρ : Nat → Nat} {σ : TS E.T} {Q : Exit → AS → Prop} {ks : List It} {l : List Oper} {k : Nat} {o : Oper} {rest : List Oper}
theorem know_sub {d : Nat} {b : Bool} {x : TA E.T} (hx : x.to E.toEnc ρ = .v (.bool b)) (hl : look σ.t d = some (.a (.d .bool b))) : SubS (σ.to E.toEnc ρ) ((σ.know d x).to E.toEnc ρ) := fun F X tm hs => by
  refine hs.le2 rfl (fun t u' hu => ⟨u', ?_, .refl _⟩) (fun q cs' hq => ⟨cs', hq, LeL.refl _⟩) (fun p hp => hp)
  have e : ((σ.know d x).to E.toEnc ρ).t = (d, x.to E.toEnc ρ) :: tTo E.toEnc ρ σ.t := rfl
  rw [e, look_cons] at hu
  split at hu
  · rename_i e2; subst e2
    simp only [TS.to, look_tTo, hl]
    rw [hx] at hu
    cases hu; rfl
  · exact hu
theorem wantT_yes (h : wantT l σ o = .yes) : wantedA l (σ.to E.toEnc ρ) o = some true := by
  unfold wantT at h
  unfold wantedA
  split at h
  · rename_i hg; rw [hg]
  · rename_i j want hg
    rw [hg]
    split at h
    · rename_i d hd
      simp only [hd]
      split at h
      · rename_i hn
        have hlt := lt_of_ble hn
        rw [if_pos (show d < (σ.to E.toEnc ρ).n from hlt)]
        split at h
        · rename_i hl
          simp only [TS.to, look_tTo, hl]
          cases want <;> first | rfl | cases h
        · rename_i hl
          simp only [TS.to, look_tTo, hl]
          cases want <;> first | rfl | cases h
        · cases h
        · cases h
        · cases h
      · cases h
    · cases h
theorem wantT_no (h : wantT l σ o = .no) : wantedA l (σ.to E.toEnc ρ) o = some false := by
  unfold wantT at h
  unfold wantedA
  split at h
  · cases h
  · rename_i j want hg
    rw [hg]
    split at h
    · rename_i d hd
      simp only [hd]
      split at h
      · rename_i hn
        have hlt := lt_of_ble hn
        rw [if_pos (show d < (σ.to E.toEnc ρ).n from hlt)]
        split at h
        · rename_i hl
          simp only [TS.to, look_tTo, hl]
          cases want <;> first | rfl | cases h
        · rename_i hl
          simp only [TS.to, look_tTo, hl]
          cases want <;> first | rfl | cases h
        · cases h
        · cases h
        · cases h
      · cases h
    · cases h
theorem wantT_nor (h : wantT l σ o = .nor) : wantedU l (σ.to E.toEnc ρ) o = true := by
  unfold wantT at h
  unfold wantedU
  split at h
  · cases h
  · rename_i j want hg
    rw [hg]
    split at h
    · rename_i d hd
      simp only [hd]
      split at h
      · rename_i hn
        have hlt := lt_of_ble hn
        split at h
        · cases want <;> cases h
        · cases want <;> cases h
        · cases h
        · rename_i xs hl
          simp only [TS.to, look_tTo, hl, Option.map_some, TV.to, TA.to]
          exact decide_eq_true hlt
        · cases h
      · cases h
    · cases h
theorem wantT_sym {b want : Bool} {d : Nat} (h : wantT l σ o = .sym b want d) : look σ.t d = some (.a (.d .bool b)) ∧ ∀ (c : Bool) (x : TA E.T), (∀ ρ, x.to E.toEnc ρ = .v (.bool c)) → wantedA l ((σ.know d x).to E.toEnc ρ) o = some (c == want) := by
  unfold wantT at h
  unfold wantedA
  split at h
  · cases h
  · rename_i j want' hg
    rw [hg]
    split at h
    · rename_i d' hd
      split at h
      · rename_i hn
        have hlt := lt_of_ble hn
        split at h
        · cases want' <;> cases h
        · cases want' <;> cases h
        · rename_i b' hl
          cases h
          refine ⟨hl, fun c x hx => ?_⟩
          simp only [hd]
          rw [if_pos (show d < ((σ.know d x).to E.toEnc ρ).n from hlt)]
          have e : look ((σ.know d x).to E.toEnc ρ).t d = some (.v (.bool c)) := by
            show look ((d, x.to E.toEnc ρ) :: tTo E.toEnc ρ σ.t) d = _
            rw [look_hd, hx]
          rw [e]
        · cases h
        · cases h
      · cases h
    · cases h
theorem passT_ok (hi : Inj ρ σ.h) (ho : l[k]? = some o) (hw : wantedA l (σ.to E.toEnc ρ) o = some false) (h : (passT E σ o).holds (On P E Q ρ (.o l (k + 1) rest :: ks))) : ARun P Q (.o l k (o :: rest) :: ks) (σ.to E.toEnc ρ) := by
  unfold passT at h
  split at h
  · rename_i d hd
    split at h
    · rename_i hn
      refine ar_unwanted' ho hw hd hn ?_
      have := h ρ hi (Agr.refl ρ)
      rw [put_to] at this
      exact this
    · cases h
  · cases h
theorem passU_ok (hi : Inj ρ σ.h) (ho : l[k]? = some o) (hw : wantedU l (σ.to E.toEnc ρ) o = true) (h : (passT E σ o).holds (On P E Q ρ (.o l (k + 1) rest :: ks))) : ARun P Q (.o l k (o :: rest) :: ks) (σ.to E.toEnc ρ) := by
  unfold passT at h
  split at h
  · rename_i d hd
    split at h
    · rename_i hn
      refine ar_unwantedU ho hw hd hn ?_
      have := h ρ hi (Agr.refl ρ)
      rw [put_to] at this
      exact this
    · cases h
  · cases h
/-- Left by a panic, whatever stands in the slots. -/
def PanX (P : Program) (Q : Exit → AS → Prop) (ks : List It) (v : Value) : Prop := ∀ n, Stk P Q ks (.panic [{ v := v, recovered := false }]) ⟨n, [], [], []⟩
theorem PanX.toK {v : Value} {σ : AS} (h : PanX P Q ks v) : PanK P Q ks v σ := ⟨[], [], fun _ _ h => (by simp [look_nil] at h), fun _ _ h => (by simp [look_nil] at h), h _⟩
/-- Whence one goes on, or a panic. -/
def OnX (P : Program) (E : Env) (Q : Exit → AS → Prop) (ρ : Nat → Nat) (its ks : List It) : OL E.T → Prop
  | .st σ => On P E Q ρ its σ
  | .pan v => PanX P Q ks v
theorem goodIds_get {T : Nat → Type} {h : List (Nat × TB T)} : ∀ {ids : List Nat}, goodIds h ids = true → ∀ i ∈ ids, ∃ b, look h i = some b
  | [], _, i, hi => by cases hi
  | j :: r, hg, i, hi => by
    simp only [goodIds] at hg
    split at hg
    · rename_i b hb hm
      rcases List.mem_cons.1 hi with rfl | hi
      · exact ⟨b, hb⟩
      · exact goodIds_get hg i hi
    · cases hg
theorem keep_sub (hi : Inj ρ σ.h) (ids : List Nat) : ∀ k cs, look (hTo E.toEnc ρ (keepHH σ.h ids)) k = some cs → look (σ.to E.toEnc ρ).h k = some cs := fun k cs hk => by
  obtain ⟨i, b, h1, h2, h3⟩ := look_hTo_inv hk
  rw [← h1, ← h3]
  exact look_hTo E.toEnc hi (look_keepHH h2)
theorem drop_sub (hi : Inj ρ σ.h) (ids : List Nat) : ∀ k cs, look (hTo E.toEnc ρ (dropHH ids σ.h)) k = some cs → look (σ.to E.toEnc ρ).h k = some cs ∧ look (hTo E.toEnc ρ (keepHH σ.h ids)) k = none := fun k cs hk => by
  obtain ⟨i, b, h1, h2, h3⟩ := look_hTo_inv hk
  obtain ⟨h4, h5⟩ := look_dropHH h2
  refine ⟨by rw [← h1, ← h3]; exact look_hTo E.toEnc hi h4, ?_⟩
  cases hn : look (hTo E.toEnc ρ (keepHH σ.h ids)) k with
  | none => rfl
  | some cs' =>
    obtain ⟨j, b', m1, m2, m3⟩ := look_hTo_inv hn
    obtain ⟨m4, m5⟩ := look_keepIn m2
    have := hi _ (look_mem h4) _ (look_mem m4) (h1.trans m1.symm)
    simp only at this
    subst this
    exact absurd m5 h5
theorem layAll_none : ∀ (n : Nat) (σ : AS), layAll (List.replicate n none) σ = σ
  | 0, _ => rfl
  | n + 1, σ => layAll_none n σ
theorem give_inj {ids : List Nat} {h' : List (Nat × TB E.T)} (hi : Inj ρ σ.h) (hg : goodIds σ.h ids = true) (hm : h'.map (·.1) = ids) : Inj ρ (σ.give ids h').h := hi.sub fun p hp => by
  rcases List.mem_append.1 hp with hp | hp
  · have : p.1 ∈ ids := hm ▸ List.mem_map_of_mem hp
    obtain ⟨b, hb⟩ := goodIds_get hg _ this
    exact ⟨_, look_mem hb, rfl⟩
  · exact ⟨p, dropHH_ids p hp, rfl⟩
theorem give_to (ids : List Nat) (h' : List (Nat × TB E.T)) : (σ.give ids h').to E.toEnc ρ = callSt (σ.to E.toEnc ρ) [] (hTo E.toEnc ρ (dropHH ids σ.h)) (hTo E.toEnc ρ h') := by
  unfold callSt TS.give TS.to
  simp only [layAll, AS.dropC]
  congr 1
  · exact List.map_append
  · exact (dropC_eTo σ.e).symm
theorem callSt_none {σ : AS} {n : Nat} {Hr H' : List (Nat × List AV)} : callSt σ (List.replicate n none) Hr H' = callSt σ [] Hr H' := by
  unfold callSt
  rw [layAll_none]; rfl
theorem oneSome_none : ∀ n, oneSome (List.replicate n none) = true
  | 0 => rfl
  | n + 1 => oneSome_none n
theorem slotsOnly_none : ∀ n, slotsOnly (List.replicate n none) = true
  | 0 => rfl
  | n + 1 => slotsOnly_none n
theorem pargs_rd {σ : AS} : ∀ {xs : List Operand} {us0 us : List AV}, opVs σ xs = some us0 → LeL us0 us → us.all (fun u => (own1 (some u)).isNone) = true → PArgs σ xs us (List.replicate us.length none)
  | [], us0, us, h, hl, hp => by
    cases h
    cases hl
    exact .nil
  | x :: xs, us0, us, h, hl, hp => by
    simp only [opVs] at h
    split at h
    · rename_i u us1 h1 h2
      cases h
      cases hl with
      | cons hu hr =>
        simp only [List.all_cons, Bool.and_eq_true] at hp
        exact .cons (.rd h1 hu (by simpa using hp.1)) (pargs_rd h2 hr hp.2)
    · cases h
/-- A call out of what is known of the callee. -/
theorem evXR_ok {d : Nat} {f : FuncId} {us : List (TV E.T)} {x : XR E.T} (hi : Inj ρ σ.h) (hx : x.ok P f us σ.h)
    (run : ∀ {post : AOut → List (Nat × List AV) → Prop} {ids : List Nat}, goodIds σ.h ids = true → ACalls P f (us.map (TV.to E.toEnc ρ)) (hTo E.toEnc ρ (keepHH σ.h ids)) post → (∀ out H', post out H' → CallEnd P Q ks l k rest d (callSt (σ.to E.toEnc ρ) [] (hTo E.toEnc ρ (dropHH ids σ.h)) H') out) → ARun P Q (.o l k (o :: rest) :: ks) (σ.to E.toEnc ρ))
    (h : (evXR σ d x).holds (OnX P E Q ρ (.o l (k + 1) rest :: ks) ks)) : ARun P Q (.o l k (o :: rest) :: ks) (σ.to E.toEnc ρ) := by
  have goOn : ∀ {ids : List Nat} {h' : List (Nat × TB E.T)} {u : TV E.T}, goodIds σ.h ids = true → h'.map (·.1) = ids → On P E Q ρ (.o l (k + 1) rest :: ks) ((σ.give ids h').put d u) → CallEnd P Q ks l k rest d (callSt (σ.to E.toEnc ρ) [] (hTo E.toEnc ρ (dropHH ids σ.h)) (hTo E.toEnc ρ h')) (.ret (u.to E.toEnc ρ)) := fun {ids h' u} hg hm hq => by
    have := hq ρ (give_inj hi hg hm) (Agr.refl ρ)
    rw [put_to, give_to] at this
    exact this
  cases x with
  | bad => cases h
  | ret ov ids u hh =>
    unfold evXR at h
    simp only at h
    split at h
    · rename_i hg
      obtain ⟨z, hz, h⟩ := h
      obtain ⟨hm, hc⟩ := hx z hz
      refine run hg (hc ρ hi) ?_
      rintro out H' ⟨rfl, rfl⟩
      exact goOn hg hm h
    · cases h
  | may ov ids u hh =>
    unfold evXR at h
    simp only at h
    split at h
    · rename_i hg
      obtain ⟨p, hp, h⟩ := h
      obtain ⟨hm, hc⟩ := hx p hp
      refine run hg (hc ρ hi) ?_
      intro out H' ho
      cases p with
      | ok z =>
        obtain ⟨rfl, rfl⟩ := ho
        exact goOn hg (hm z rfl) (h.1 z rfl)
      | pan v =>
        subst ho
        exact PanX.toK (h.2 v rfl)
    · cases h
theorem panT_to {u : TV E.T} {v : Value} (h : panT E u = some v) : panV (u.to E.toEnc ρ) = some v := by
  unfold panT at h
  split at h
  · rename_i hu
    rw [TV.ids_to (ρ := id) (ρ' := ρ) (fun i e => by cases e) hu]
    exact h
  · cases h
theorem eff_nil {σ : AS} {op : BinOp} {neg : Bool} (hop : (op = .eql ∧ neg = false) ∨ (op = .neq ∧ neg = true)) {d : Nat} {t ty yt e : TypeId} {x y : Operand} {pos : String} {af : Array Edge} {g : Option (Nat × Bool)} {ow : Bool} {sz : Nat} {L : List (List AV)} (ht : P.underlying t = some (.slice e)) (hx : opV σ x = some (.sl ow sz L)) (hy : opV σ y = some (.v (.slice none 0 0))) (hd : Nat.ble (d + 1) σ.n = true) {R : AS → Prop} (hR : ∀ b, (b = true → L = []) → R (σ.put d (.v (.bool (b != neg))))) : EffOp P ⟨some d, .binOp op t x y yt, ty, pos, af, g⟩ σ R := by
  intro F X a hs
  have h1 := opV_rel (hs.r (.binOp op t x y yt)) (by simp [Op.operands]) hx
  have h2 := opV_val (hs.r (.binOp op t x y yt)) (by simp [Op.operands]) hy
  have key : ∃ (ad : Option Addr) (n c : Nat), a.eval x = .slice ad n c ∧ (ad.isNone = true → L = []) := by
    generalize a.eval x = v at h1
    cases h1 with
    | nl _ _ ad c => exact ⟨ad, 0, c, rfl, fun _ => rfl⟩
    | sl _ _ _ b off cap n c hg hn hc hs' hm hr => exact ⟨_, _, _, rfl, fun h => by cases h⟩
  obtain ⟨ad, n, c, e1, e2⟩ := key
  have hrun : (execOp a.eval ⟨some d, .binOp op t x y yt, ty, pos, af, g⟩).run P X.w = .ok (.value (.bool (ad.isNone != neg))) X.w := by
    simp only [execOp, e1, h2]
    refine run_val ?_
    have q := Lib.run_eql_slice_nil X.w t e ad n c 0 0 ht
    rcases hop with ⟨rfl, rfl⟩ | ⟨rfl, rfl⟩
    · simp [eqGuard, q, go_sem]
    · have q' : (Op.equal t (.slice ad n c) (.slice none 0 0)).run P X.w = .ok ad.isNone X.w := by
        simp [Op.equal, Op.maxDepth, Lib.run_equalIn_slice_nil X.w 9999 t e ad n c 0 0 ht]
      simp [eqGuard, binOp, go_sem, q']
  unfold Runs
  rw [hrun]
  refine ⟨X, _, rfl, hR ad.isNone e2, ?_, Ext.refl F X⟩
  exact hs.put_new (lt_of_ble hd) (New.refl X) hs.gb (.v _) (FreshOk.plain rfl)
theorem evX_ok (hi : Inj ρ σ.h) (hG : GOk P Y E G) (ho : l[k]? = some o) (hw : wantedA l (σ.to E.toEnc ρ) o = some true) (h : (evX Y E G o σ).holds (OnX P E Q ρ (.o l (k + 1) rest :: ks) ks)) : ARun P Q (.o l k (o :: rest) :: ks) (σ.to E.toEnc ρ) := by
  have old : ((evOp Y E G o σ).bind fun σ' => Tree.leaf (OL.st σ')).holds (OnX P E Q ρ (.o l (k + 1) rest :: ks) ks) → ARun P Q (.o l k (o :: rest) :: ks) (σ.to E.toEnc ρ) := fun h => evOp_ok (Y := Y) hi hG ho hw (holds_bind h)
  obtain ⟨dst, op, ty, pos, af, g⟩ := o
  unfold evX at h
  simp only at h
  split at h
  · rename_i d
    split at h
    · rename_i hd
      split at h
      · rename_i f xs ats
        split at h
        · split at h
          · rename_i us hx
            refine evXR_ok hi (xRun_ok hG.x f _ σ.h) (fun {post ids} hg hc hR => ?_) h
            have hpa := pargs_rd (opTs_to (ρ := ρ) hx) (fixArgs_le ats.toList us (fixArgs_len _ _)) (fixArgs_plain _ _)
            refine ar_callX rfl hc ho hw hpa (oneSome_none _) (fun kk oo hm => absurd (List.eq_of_mem_replicate hm) (by simp)) (keep_sub hi ids) (fun kk cs hk => by rw [layAll_none]; exact drop_sub hi ids kk cs hk) hd ?_
            intro out H' hp
            rw [callSt_none]
            exact hR out H' hp
          · cases h
        · exact old h
      · rename_i s xs ats
        split at h
        · rename_i f caps us hs hx
          split at h
          · rename_i hcap
            refine evXR_ok hi (xRun_ok hG.x f _ σ.h) (fun {post ids} hg hc hR => ?_) h
            have hpa := pargs_rd (opTs_to (ρ := ρ) hx) (fixArgs_le ats.toList us (fixArgs_len _ _)) (fixArgs_plain _ _)
            have hcaps : (caps.map (TV.a)).map (TV.to E.toEnc ρ) = caps.map (TA.to E.toEnc ρ) := by simp only [List.map_map]; rfl
            rw [List.map_append, hcaps] at hc
            refine ar_callXF rfl (by simp only [TS.to, look_tTo, hs]; rfl) hc ho hw hpa ?_ (oneSome_none _) (slotsOnly_none _) (keep_sub hi ids) (fun kk cs hk => drop_sub hi ids kk cs hk) hd ?_
            · rw [List.all_eq_true]
              intro u hu
              obtain ⟨x, hx1, rfl⟩ := List.mem_map.1 hu
              exact Option.isNone_iff_eq_none.2 (TA.plain_to _ _ (List.all_eq_true.1 hcap x hx1))
            · intro out H' hp
              rw [callSt_none]
              exact hR out H' hp
          · cases h
        · rename_i f is us hs hx
          refine evXR_ok hi (xRun_ok hG.x f _ σ.h) (fun {post ids} hg hc hR => ?_) h
          have hpa := pargs_rd (opTs_to (ρ := ρ) hx) (fixArgs_le ats.toList us (fixArgs_len _ _)) (fixArgs_plain _ _)
          have hcaps : (is.map fun i => (TV.a (.box i 0) : TV E.T)).map (TV.to E.toEnc ρ) = is.map fun i => AV.v (.pointer (some ⟨ρ i, 0, none⟩)) := by simp only [List.map_map]; rfl
          rw [List.map_append, hcaps] at hc
          refine ar_callXF rfl (by simp only [TS.to, look_tTo, hs]; rfl) hc ho hw hpa ?_ (oneSome_none _) (slotsOnly_none _) (keep_sub hi ids) (fun kk cs hk => drop_sub hi ids kk cs hk) hd ?_
          · rw [List.all_eq_true]
            intro u hu
            obtain ⟨x, hx1, rfl⟩ := List.mem_map.1 hu
            rfl
          · intro out H' hp
            rw [callSt_none]
            exact hR out H' hp
        · cases h
      · rename_i op t x y yt
        split at h
        · rename_i ty' l e hl hy ht
          obtain ⟨ow, hx⟩ := asL_to (ρ := ρ) hl
          refine ar_eff ho hw (eff_nil (.inl ⟨rfl, rfl⟩) (Y.tyOk _ _ ht) hx (opT_to (ρ := ρ) hy) hd fun b hb => ?_)
          cases b with
          | true =>
            have := h.1 (by simpa using hb rfl) ρ hi (Agr.refl ρ)
            rw [put_to] at this
            exact this
          | false =>
            have := h.2 ρ hi (Agr.refl ρ)
            rw [put_to] at this
            exact this
        · rename_i ty' l e hl hy ht
          obtain ⟨ow, hx⟩ := asL_to (ρ := ρ) hl
          refine ar_eff ho hw (eff_nil (.inr ⟨rfl, rfl⟩) (Y.tyOk _ _ ht) hx (opT_to (ρ := ρ) hy) hd fun b hb => ?_)
          cases b with
          | true =>
            have := h.1 (by simpa using hb rfl) ρ hi (Agr.refl ρ)
            rw [put_to] at this
            exact this
          | false =>
            have := h.2 ρ hi (Agr.refl ρ)
            rw [put_to] at this
            exact this
        · exact old h
      · exact old h
    · cases h
  · split at h
    · rename_i x
      split at h
      · rename_i u hx
        split at h
        · rename_i v hv
          exact ar_panic ho hw (opT_to (ρ := ρ) hx) (panT_to hv) (PanX.toK h)
        · cases h
      · cases h
    · exact old h
theorem OnX.agr {its ks : List It} {ρ' : Nat → Nat} (ha : Agr ρ ρ') : ∀ {x : OL E.T}, OnX P E Q ρ its ks x → OnX P E Q ρ' its ks x
  | .st σ, h => fun ρ'' hi h' => h ρ'' hi (ha.trans h')
  | .pan v, h => h
theorem evOps_ok (hG : GOk P Y E G) (l : List Oper) : ∀ (rest : List Oper) (k : Nat) (σ : TS E.T) (ρ : Nat → Nat), (∀ (i : Nat) o, rest[i]? = some o → l[k + i]? = some o) → k + rest.length = l.length → Inj ρ σ.h → (evOps Y E G l rest σ).holds (OnX P E Q ρ ks ks) → ARun P Q (.o l k rest :: ks) (σ.to E.toEnc ρ)
  | [], k, σ, ρ, hl, hk, hi, h => ar_end (by simpa using hk) (h ρ hi (Agr.refl ρ))
  | o :: rest, k, σ, ρ, hl, hk, hi, h => by
    have ho : l[k]? = some o := by simpa using hl 0 o rfl
    have hl' : ∀ (i : Nat) o', rest[i]? = some o' → l[k + 1 + i]? = some o' := fun i o' hq => by
      have := hl (i + 1) o' (by simpa using hq)
      rw [show k + 1 + i = k + (i + 1) by omega]; exact this
    have hk' : k + 1 + rest.length = l.length := by simp only [List.length_cons] at hk; omega
    have next : ∀ {t : Tree (TS E.T)}, (t.bind (evOps Y E G l rest)).holds (OnX P E Q ρ ks ks) → t.holds (On P E Q ρ (.o l (k + 1) rest :: ks)) := fun {t} h =>
      (holds_bind h).mono fun σ' hσ ρ' hi' ha => evOps_ok hG l rest (k + 1) σ' ρ' hl' hk' hi' (hσ.mono fun x hx => hx.agr ha)
    have nextX : ∀ {t : Tree (OL E.T)}, (t.bind (andT (evOps Y E G l rest))).holds (OnX P E Q ρ ks ks) → t.holds (OnX P E Q ρ (.o l (k + 1) rest :: ks) ks) := fun {t} h =>
      (holds_bind h).mono fun x hx => by
        cases x with
        | st σ' => exact fun ρ' hi' ha => evOps_ok hG l rest (k + 1) σ' ρ' hl' hk' hi' (Tree.holds.mono (fun x hx => OnX.agr ha hx) hx)
        | pan v => exact hx
    simp only [evOps] at h
    split at h
    · rename_i hw
      exact evX_ok (Y := Y) hi hG ho (wantT_yes hw) (nextX h)
    · rename_i hw
      exact passT_ok hi ho (wantT_no hw) (next h)
    · rename_i hw
      exact passU_ok hi ho (wantT_nor hw) (next h)
    · rename_i b d hw
      obtain ⟨h1, h2⟩ := wantT_sym (ρ := ρ) hw
      cases hb : b with
      | true =>
        refine ar_subO rfl (know_sub (x := .tt) (b := b) (by rw [hb]; rfl) h1) ?_
        exact evX_ok (Y := Y) (σ := σ.know d .tt) hi hG ho (h2 true .tt fun _ => rfl) (nextX (h.1 hb))
      | false =>
        refine ar_subO rfl (know_sub (x := .ff) (b := b) (by rw [hb]; rfl) h1) ?_
        exact passT_ok (σ := σ.know d .ff) hi ho (h2 false .ff fun _ => rfl) (next (h.2 hb))
    · rename_i b d hw
      obtain ⟨h1, h2⟩ := wantT_sym (ρ := ρ) hw
      cases hb : b with
      | true =>
        refine ar_subO rfl (know_sub (x := .tt) (b := b) (by rw [hb]; rfl) h1) ?_
        exact passT_ok (σ := σ.know d .tt) hi ho (h2 true .tt fun _ => rfl) (next (h.1 hb))
      | false =>
        refine ar_subO rfl (know_sub (x := .ff) (b := b) (by rw [hb]; rfl) h1) ?_
        exact evX_ok (Y := Y) (σ := σ.know d .ff) hi hG ho (h2 false .ff fun _ => rfl) (nextX (h.2 hb))
    · cases h

/-! ### Regions that draw -/
/-- States that read alike. -/
def Alike (σ σ' : AS) : Prop := σ.n = σ'.n ∧ σ.h = σ'.h ∧ σ.e = σ'.e ∧ ∀ i, look σ.t i = look σ'.t i
theorem Alike.opv {σ σ' : AS} {u : AV} (h : Alike σ σ') (ho : OpV P o σ' u) : OpV P o σ u := fun F X a hs => ho F X a ⟨hs.gb, hs.fb, fun t u hm hu => hs.slot t u hm (by rw [h.2.2.2]; exact hu), fun k cs hk => hs.box k cs (by rw [h.2.1]; exact hk)⟩
theorem Alike.put {σ σ' : AS} (h : Alike σ σ') (d : Nat) (u : AV) : Alike (σ.put d u) (σ'.put d u) := by
  obtain ⟨h1, h2, h3, h4⟩ := h
  refine ⟨h1, h2, by simp only [AS.put, h3], fun i => ?_⟩
  simp only [AS.put, look_cons]
  rw [h4]
theorem Alike.q {K : AS → Prop} (hK : ∀ σ σ', Alike σ σ' → K σ' → K σ) (l : List Oper) : ∀ (rest : List Oper) (σ σ' : AS), Alike σ σ' → QSem P l K rest σ' → QSem P l K rest σ
  | [], σ, σ', h, hq => hK σ σ' h hq
  | o :: rest, σ, σ', h, hq => by
    obtain ⟨d, u, h1, h2, h3, h4⟩ := hq
    refine ⟨d, u, h1, by rw [h.1]; exact h2, ?_, Alike.q hK l rest _ _ (h.put d u) h4⟩
    have hw : wantedA l σ o = wantedA l σ' o := wantedA_congr h.1 fun j want d hg hd => h.2.2.2 d
    rw [hw]
    rcases h3 with ⟨k1, k2⟩ | h3
    · exact .inl ⟨k1, h.opv k2⟩
    · exact .inr h3
theorem Alike.know {d : Nat} {b : Bool} {x : TA E.T} (hx : x.to E.toEnc ρ = .v (.bool b)) (hl : look σ.t d = some (.a (.d .bool b))) : Alike (σ.to E.toEnc ρ) ((σ.know d x).to E.toEnc ρ) := by
  refine ⟨rfl, rfl, rfl, fun i => ?_⟩
  show look (tTo E.toEnc ρ σ.t) i = look ((d, x.to E.toEnc ρ) :: tTo E.toEnc ρ σ.t) i
  rw [look_cons]
  split
  · rename_i e; subst e; rw [look_tTo, hl, hx]; rfl
  · rfl
abbrev OnQ (P : Program) (E : Env) (ρ : Nat → Nat) (K : AS → Prop) (l : List Oper) (rest : List Oper) (h : List (Nat × TB E.T)) (σ' : TS E.T) : Prop := σ'.h = h → QSem P l K rest (σ'.to E.toEnc ρ)
theorem evQ_ok {K : AS → Prop} (hi : Inj ρ σ.h) (hG : GOk P Y E G) (hw : wantedA l (σ.to E.toEnc ρ) o = some true) (h : (evQ Y E G o σ).holds (OnQ P E ρ K l rest σ.h)) : QSem P l K (o :: rest) (σ.to E.toEnc ρ) := by
  obtain ⟨dst, op, ty, pos, af, g⟩ := o
  unfold evQ at h
  simp only at h
  have pick : ∀ {d : Nat} {u : TV E.T}, dst = some d → Nat.ble (d + 1) σ.n = true → OpV P ⟨dst, op, ty, pos, af, g⟩ (σ.to E.toEnc ρ) (u.to E.toEnc ρ).rd → OnQ P E ρ K l rest σ.h (σ.put d u.rd) → QSem P l K (⟨dst, op, ty, pos, af, g⟩ :: rest) (σ.to E.toEnc ρ) := by
    intro d u hdst hd hv hq
    refine q_op hw hdst hd hv ?_
    have := hq rfl
    rw [put_to, TV.rd_to] at this
    exact this
  split at h
  · rename_i d
    split at h
    · rename_i hd
      split at h
      · rename_i c x y
        split at h
        · rename_i hc
          split at h
          · rename_i u hu
            exact pick rfl hd (opv_pickt (b := true) (opT_to hc) rfl (opT_to hu)) h
          · cases h
        · rename_i hc
          split at h
          · rename_i u hu
            exact pick rfl hd (opv_pickf (b := false) (opT_to hc) rfl (opT_to hu)) h
          · cases h
        · rename_i b hc
          split at h
          · rename_i u v hu hv
            cases hb : b with
            | true => exact pick rfl hd (opv_pickt (b := b) (opT_to hc) hb (opT_to hu)) (h.1 hb)
            | false => exact pick rfl hd (opv_pickf (b := b) (opT_to hc) hb (opT_to hv)) (h.2 hb)
          · cases h
        · cases h
      · rename_i t
        split at h
        · rename_i e ty' h0 het
          split at h
          · rename_i sz by_ hz
            split at h
            · rename_i hs
              have hs' := beq_of hs
              subst hs'
              refine q_op hw rfl hd (opv_build0 (T := Y) h0 hz) ?_
              have := h rfl
              rw [put_to] at this
              exact this
            · cases h
          · cases h
        · cases h
      · rename_i x y t u
        split at h
        · rename_i ty' L e du hx h0 hu
          split at h
          · rename_i sz by_ m hz hm
            split at h
            · rename_i hc
              simp only [Bool.and_eq_true] at hc
              obtain ⟨⟨hnz, hb⟩, hs⟩ := hc
              have hs' := beq_of hs
              subst hs'
              obtain ⟨v, S, k1, k2, k3⟩ := addT_to (ρ := ρ) hm
              have hnz' : du = .string ∨ ∃ e', du = .slice e' := by cases du <;> first | exact .inl rfl | exact .inr ⟨_, rfl⟩ | cases hnz
              by_cases hm0 : m = []
              · have hq := h.1 hm0
                refine q_op hw rfl hd (opv_append_cl0 (T := Y) (L := L.map (cells E.toEnc ty')) (opT_to (ρ := ρ) hx) h0 hu hnz' hz k1 (by rw [k2, hm0]; rfl) k3) ?_
                have := hq rfl
                rw [put_to] at this
                exact this
              · obtain ⟨r', hr, hq⟩ := h.2
                obtain ⟨h1, h2⟩ := appC_some hr
                refine q_op hw rfl hd (opv_append_cl (T := Y) (L := L.map (cells E.toEnc ty')) (m := m.map (cells E.toEnc ty')) (opT_to (ρ := ρ) hx) h0 hu hnz' hz hb k1 k2 k3 (by simpa using h1) (by simpa using hm0)) ?_
                have := hq rfl
                rw [put_to, h2] at this
                have e2 : (TV.a (TA.own ty' (L ++ m)) : TV E.T).to E.toEnc ρ = .sl true (csz E.toEnc ty') (L.map (cells E.toEnc ty') ++ m.map (cells E.toEnc ty')) := by
                  show AV.sl true _ (List.map _ (L ++ m)) = _
                  rw [List.map_append]
                rw [e2] at this
                exact this
            · cases h
          · cases h
        · cases h
      · have hok := evP_ok (Y := Y) (σ := σ) (d := some d) (ty := ty) (pos := pos) (af := af) (g := g) hi hG op
        unfold pureT at h
        cases hp : evP Y E G σ op ty with
        | one u =>
          rw [hp] at h hok
          refine q_op hw rfl hd hok ?_
          rw [← put_to]
          exact h rfl
        | opt q u =>
          rw [hp] at h hok
          obtain ⟨z, hz, h⟩ := h
          refine q_op hw rfl hd (hok z hz) ?_
          rw [← put_to]
          exact h rfl
        | bad => rw [hp] at h; cases h
    · cases h
  · cases h
theorem passQ_ok {K : AS → Prop} (hw : wantedA l (σ.to E.toEnc ρ) o = some false) (h : (passT E σ o).holds (OnQ P E ρ K l rest σ.h)) : QSem P l K (o :: rest) (σ.to E.toEnc ρ) := by
  unfold passT at h
  split at h
  · rename_i d hd
    split at h
    · rename_i hn
      refine q_unwanted hw hd hn ?_
      have := h rfl
      rw [put_to] at this
      exact this
    · cases h
  · cases h
theorem evQs_ok {K : AS → Prop} (hK : ∀ σ σ', Alike σ σ' → K σ' → K σ) (hG : GOk P Y E G) (l : List Oper) (H : List (Nat × TB E.T)) (hi : Inj ρ H) : ∀ (rest : List Oper) (σ : TS E.T), σ.h = H → (evQs Y E G l rest σ).holds (fun σ' => σ'.h = H → K (σ'.to E.toEnc ρ)) → QSem P l K rest (σ.to E.toEnc ρ)
  | [], σ, hh, h => h hh
  | o :: rest, σ, hh, h => by
    have next : ∀ {t : Tree (TS E.T)}, (t.bind (evQs Y E G l rest)).holds (fun σ' => σ'.h = H → K (σ'.to E.toEnc ρ)) → t.holds (OnQ P E ρ K l rest σ.h) := fun {t} h =>
      (holds_bind h).mono fun σ' hσ (hh' : σ'.h = σ.h) => evQs_ok hK hG l H hi rest σ' (hh'.trans hh) hσ
    have hi' : Inj ρ σ.h := hh ▸ hi
    simp only [evQs] at h
    split at h
    · rename_i hw
      exact evQ_ok (Y := Y) hi' hG (wantT_yes hw) (next h)
    · rename_i hw
      exact passQ_ok (wantT_no hw) (next h)
    · rename_i b d hw
      obtain ⟨h1, h2⟩ := wantT_sym (ρ := ρ) hw
      cases hb : b with
      | true =>
        refine Alike.q hK l _ _ _ (Alike.know (x := .tt) (b := b) (by rw [hb]; rfl) h1) ?_
        exact evQ_ok (Y := Y) (σ := σ.know d .tt) hi' hG (h2 true .tt fun _ => rfl) (next (h.1 hb))
      | false =>
        refine Alike.q hK l _ _ _ (Alike.know (x := .ff) (b := b) (by rw [hb]; rfl) h1) ?_
        exact passQ_ok (σ := σ.know d .ff) (h2 false .ff fun _ => rfl) (next (h.2 hb))
    · rename_i b d hw
      obtain ⟨h1, h2⟩ := wantT_sym (ρ := ρ) hw
      cases hb : b with
      | true =>
        refine Alike.q hK l _ _ _ (Alike.know (x := .tt) (b := b) (by rw [hb]; rfl) h1) ?_
        exact passQ_ok (σ := σ.know d .tt) (h2 true .tt fun _ => rfl) (next (h.1 hb))
      | false =>
        refine Alike.q hK l _ _ _ (Alike.know (x := .ff) (b := b) (by rw [hb]; rfl) h1) ?_
        exact evQ_ok (Y := Y) (σ := σ.know d .ff) hi' hG (h2 false .ff fun _ => rfl) (next (h.2 hb))
    · cases h
theorem alike_sub {σ σ' : AS} (h : Alike σ σ') : SubS σ σ' := fun F X tm hs => hs.le2 h.1.symm (fun t u' hu => ⟨u', by rw [h.2.2.2]; exact hu, .refl _⟩) (fun q cs' hq => ⟨cs', by rw [h.2.1]; exact hq, LeL.refl _⟩) (fun p hp => by rw [h.2.2.1]; exact hp)
theorem splitE_eq {xs bs : Nat → Bool} {mu : List Nat} : ∀ {l a b : List Oper}, splitE xs bs mu l = (a, b) → l = a ++ b
  | [], _, _, h => by cases h; rfl
  | o :: r, a, b, h => by
    simp only [splitE] at h
    split at h
    · cases h; rfl
    · cases hs : splitE xs bs mu r with
      | mk a' b' =>
        rw [hs] at h
        cases h
        rw [splitE_eq hs]; rfl
theorem Alike.als {σ σ' : AS} (h : Alike σ σ') (m : List (Nat × Nat)) : Alike (σ.als m) (σ'.als m) := ⟨h.1, h.2.1, by simp only [AS.als, h.2.2.1], h.2.2.2⟩
theorem als_subT {m : List (Nat × Nat)} : SubS ((σ.to E.toEnc ρ).als m) ((σ.alsT m).to E.toEnc ρ) := fun F X tm hs => by
  refine hs.le2 rfl (fun t u' hu => ⟨u', hu, .refl _⟩) (fun q cs' hq => ⟨cs', hq, LeL.refl _⟩) (fun p hp => ?_)
  have e : ((σ.alsT m).to E.toEnc ρ).e = eTo ρ ((m.filter fun p => ownS σ p.2).map (fun p => (p.1, Root.s p.2)) ++ σ.e) := rfl
  rw [e] at hp
  simp only [eTo, List.map_append, List.map_map] at hp
  simp only [AS.als, TS.to, eTo]
  rcases List.mem_append.1 hp with hp | hp
  · obtain ⟨q, hq, rfl⟩ := List.mem_map.1 hp
    exact List.mem_append_left _ (List.mem_map.2 ⟨q, (List.mem_filter.1 hq).1, rfl⟩)
  · exact List.mem_append_right _ hp
theorem noBox_to {kk : Nat} : ∀ {h : List (Nat × TB E.T)}, (∀ p ∈ h, ρ p.1 = ρ kk → p.1 = kk) → hTo E.toEnc ρ (noBox kk h) = noBox (ρ kk) (hTo E.toEnc ρ h)
  | [], _ => rfl
  | p :: r, hi => by
    have ih := noBox_to (kk := kk) (h := r) fun q hq => hi q (List.mem_cons_of_mem _ hq)
    show hTo E.toEnc ρ (if p.1 = kk then noBox kk r else p :: noBox kk r) = if ρ p.1 = ρ kk then noBox (ρ kk) (hTo E.toEnc ρ r) else (ρ p.1, p.2.to E.toEnc ρ) :: noBox (ρ kk) (hTo E.toEnc ρ r)
    by_cases e : p.1 = kk
    · rw [if_pos e, if_pos (by rw [e]), ih]
    · rw [if_neg e, if_neg (fun e2 => e (hi p List.mem_cons_self e2)), ← ih]; rfl
theorem noBox_sub {α : Type} {kk : Nat} {p : Nat × α} : ∀ {h : List (Nat × α)}, p ∈ noBox kk h → p ∈ h
  | [], h => by cases h
  | q :: r, h => by
    simp only [noBox] at h
    split at h
    · exact List.mem_cons_of_mem _ (noBox_sub h)
    · rcases List.mem_cons.1 h with rfl | h
      · exact List.mem_cons_self
      · exact List.mem_cons_of_mem _ (noBox_sub h)
theorem opV_congr {σ σ' : AS} {x : Operand} (h : ∀ t, Operand.tmp t = x → look σ.t t = look σ'.t t) : opV σ x = opV σ' x := by
  cases x with
  | tmp t => exact h t rfl
  | const v => rfl
  | func f => rfl
  | global g => rfl
theorem alike_setc {σ1 σ2 : AS} (h1 : Alike σ1 σ2) (H : List (Nat × List AV)) (kk : Nat) (cs : List AV) : Alike ((σ1.withH H).setc kk cs) ((σ2.withH H).setc kk cs) :=
  ⟨h1.1, rfl, by simp only [AS.setc, AS.dropC, AS.withH, h1.2.2.1], h1.2.2.2⟩
theorem lateR_ok {id : Nat} {ops : List Oper} {body after : List Oper} {om oa : Oper} (hm : P.follows .mixedOrders = true) (hG : GOk P Y E G) (hi : Inj ρ σ.h) (he : σ.e = []) (hl : ops = body ++ om :: oa :: after) (h : (lateR Y E G ops body om oa after σ).holds (OnX P E Q ρ ks ks)) : ARun P Q (.c (.region id ops.toArray true) :: ks) (σ.to E.toEnc ρ) := by
  obtain ⟨dst, op, ty, pos, af, g⟩ := om
  unfold lateR at h
  simp only at h
  split at h
  · rename_i t x y
    split at h
    · rename_i kk p0 n by_ hx hz
      split at h
      · rename_i hB
        simp only [Bool.and_eq_true] at hB
        obtain ⟨hB, hK0⟩ := hB
        have hdst : dst = none := by
          simp only [drawLB, Bool.and_eq_true] at hB
          have := hB.1.1.2.2
          simpa using this
        subst hdst
        obtain ⟨b0, hb0⟩ := Option.isSome_iff_exists.1 hK0
        have hn0 : hTo E.toEnc ρ (noBox kk σ.h) = noBox (ρ kk) (hTo E.toEnc ρ σ.h) := noBox_to fun p hp e => hi p hp (kk, b0) (look_mem hb0) e
        have hn1 : (σ.to E.toEnc ρ).withH (noBox (ρ kk) (σ.to E.toEnc ρ).h) = (σ.withB (noBox kk σ.h)).to E.toEnc ρ := by
          show AS.mk _ _ _ _ = AS.mk _ _ _ _
          rw [show (σ.withB (noBox kk σ.h)).h = noBox kk σ.h from rfl, hn0]; rfl
        refine ar_drawL (k' := ρ kk) hm hl hB (by simp only [TS.to, he]; rfl) ?_
        rw [hn1]
        refine evQs_ok (Y := Y) (K := fun σ' => ∃ cs' : List AV, (∀ σ1 : AS, σ1.n = (σ.to E.toEnc ρ).n → σ1.e = [] → σ1.h = (σ.to E.toEnc ρ).h → (∀ t0, Operand.tmp t0 ∈ (Oper.mk none (.store t x y) ty pos af g).op.operands.toList → look σ1.t t0 = look σ'.t t0) → EffTo P ⟨none, .store t x y, ty, pos, af, g⟩ σ1 (σ1.setc (ρ kk) cs')) ∧ ARun P Q (.o ops (body.length + 1) (oa :: after) :: ks) (((σ'.withH (σ.to E.toEnc ρ).h).setc (ρ kk) cs').als (slotMoves body))) (fun σ1 σ2 h1 ⟨cs', q1, q2⟩ => ⟨cs', fun τ e1 e2 e3 e4 => q1 τ e1 e2 e3 fun t0 ht => (e4 t0 ht).trans (h1.2.2.2 t0), ar_subO rfl (alike_sub (Alike.als (alike_setc h1 _ _ _) _)) q2⟩) hG ops (noBox kk σ.h) (fun p hp q hq e => hi p (noBox_sub hp) q (noBox_sub hq) e) body (σ.withB (noBox kk σ.h)) rfl ?_
        refine (holds_bind h).mono fun σ' hσ (hh : σ'.h = noBox kk σ.h) => ?_
        split at hσ
        · rename_i k2 p hx2
          split at hσ
          · rename_i hk2
            have hk2 := beq_of hk2
            subst hk2
            split at hσ
            · rename_i cs hst
              unfold storeL at hst
              split at hst
              · rename_i cs0 u hb hy
                split at hst
                · rename_i vs hvs
                  split at hst
                  · rename_i hc
                    cases hst
                    simp only [Bool.and_eq_true] at hc
                    obtain ⟨c1, c2, c3, c4⟩ := cs1_to (ρ := ρ) hvs
                    have hb' : look σ.h k2 = some (.cs cs0) := hb
                    have hy' : opT σ' y = some u := hy
                    refine ⟨splice (cs0.map (TA.to E.toEnc ρ)) p (u.to E.toEnc ρ).rd.cells, fun τ e1 e2 e3 e4 => ?_, ?_⟩
                    · refine effTo_store (P := P) (T := Y) (ty := ty) (pos := pos) (af := af) (g := g) ?_ (by rw [e3]; exact look_box hi hb') ?_ c1 hz (by rw [c2, List.length_map]; exact hc.1) c3 c4 (by simpa using hc.2) (notMpB cs0)
                      · exact (opV_congr fun t0 ht => e4 t0 (by rw [← ht]; simp [Op.operands])).trans (opT_to (ρ := ρ) hx2)
                      · exact (opV_congr fun t0 ht => e4 t0 (by rw [← ht]; simp [Op.operands])).trans (opT_to (ρ := ρ) hy')
                    · have hle := nilC_to (E := E) (ρ := ρ) ((look E.ct t).getD []) vs
                      refine ar_subO rfl ?_ (ar_subO rfl (als_subT (σ := (σ'.withB σ.h).setc k2 (spl cs0 p (nilC ((look E.ct t).getD []) vs))) (m := slotMoves body)) (evOps_ok (Y := Y) hG ops (oa :: after) (body.length + 1) _ ρ (fun i o ho => ?_) ?_ ?_ hσ))
                      · intro F X tm hs
                        refine hs.le2 rfl (fun t u' hu => ⟨u', hu, .refl _⟩) (fun q cs' hq => ?_) (fun pp hp => ?_)
                        · have e : ((((σ'.withB σ.h).setc k2 (spl cs0 p (nilC ((look E.ct t).getD []) vs))).to E.toEnc ρ).als (slotMoves body)).h = (ρ k2, (spl cs0 p (nilC ((look E.ct t).getD []) vs)).map (TA.to E.toEnc ρ)) :: hTo E.toEnc ρ σ.h := rfl
                          rw [e, look_cons] at hq
                          have e2 : ((((σ'.to E.toEnc ρ).withH (σ.to E.toEnc ρ).h).setc (ρ k2) (splice (cs0.map (TA.to E.toEnc ρ)) p (u.to E.toEnc ρ).rd.cells)).als (slotMoves body)).h = (ρ k2, splice (cs0.map (TA.to E.toEnc ρ)) p (u.to E.toEnc ρ).rd.cells) :: hTo E.toEnc ρ σ.h := rfl
                          rw [e2, look_cons]
                          split at hq
                          · rename_i e3
                            rw [if_pos e3]
                            cases hq
                            refine ⟨_, rfl, ?_⟩
                            rw [map_spl, c2]
                            unfold splice
                            rw [hle.length]
                            exact ((LeL.refl _).append hle).append (LeL.refl _)
                          · rename_i e3
                            rw [if_neg e3]
                            exact ⟨cs', hq, LeL.refl _⟩
                        · simp only [AS.als] at hp ⊢
                          rw [setc_to] at hp; exact hp
                      · rw [hl, List.getElem?_append_right (by omega), show body.length + 1 + i - body.length = i + 1 by omega]; simpa using ho
                      · rw [hl]; simp only [List.length_append, List.length_cons]; omega
                      · exact setc_inj (σ := σ'.withB σ.h) hi hb _
                  · cases hst
                · cases hst
              · cases hst
            · cases hσ
          · cases hσ
        · cases hσ
      · cases h
    · cases h
  · cases h
/-! ### Mixed regions -/
theorem detV_to {u : TV E.T} (h : detV u = true) : ∃ x, u.to E.toEnc ρ = .v x := by
  unfold detV at h
  split at h <;> first | exact ⟨_, rfl⟩ | cases h
def stA (ρ : Nat → Nat) (ids : List Nat) (b : Nat) : Bool := ids.any fun k => Nat.beq (ρ k) b
theorem stA_mem {ids : List Nat} {H : List (Nat × TB E.T)} (hi : Inj ρ H) (hids : hasAll H ids = true) {p : Nat × TB E.T} (hp : p ∈ H) : memN ids p.1 = stA ρ ids (ρ p.1) := by
  rw [Bool.eq_iff_iff]
  unfold stA
  rw [memN_mem, List.any_eq_true]
  constructor
  · exact fun h => ⟨p.1, h, Nat.beq_refl _⟩
  · rintro ⟨k, hk, e⟩
    have := List.all_eq_true.1 hids k hk
    obtain ⟨b, hb⟩ := Option.isSome_iff_exists.1 this
    have := hi (k, b) (look_mem hb) p hp (Nat.eq_of_beq_eq_true e)
    simp only at this
    rw [← this]; exact hk
theorem inH_to {ids : List Nat} {H : List (Nat × TB E.T)} (hi : Inj ρ H) (hids : hasAll H ids = true) : hTo E.toEnc ρ (inH ids H) = (hTo E.toEnc ρ H).filter fun p => stA ρ ids p.1 := by
  unfold hTo inH
  rw [List.filter_map]
  congr 1
  exact List.filter_congr fun p hp => stA_mem hi hids hp
theorem outH_to {ids : List Nat} {H : List (Nat × TB E.T)} (hi : Inj ρ H) (hids : hasAll H ids = true) : hTo E.toEnc ρ (outH ids H) = (hTo E.toEnc ρ H).filter fun p => !stA ρ ids p.1 := by
  unfold hTo outH
  rw [List.filter_map]
  congr 1
  exact List.filter_congr fun p hp => by rw [stA_mem hi hids hp]; rfl
theorem inH_sub {T : Nat → Type} {ids : List Nat} {h : List (Nat × TB T)} : ∀ p ∈ inH ids h, p ∈ h := fun p hp => (List.mem_filter.1 hp).1
theorem outH_sub {T : Nat → Type} {ids : List Nat} {h : List (Nat × TB T)} : ∀ p ∈ outH ids h, p ∈ h := fun p hp => (List.mem_filter.1 hp).1
theorem Inj.of_mem {T : Nat → Type} {ρ : Nat → Nat} {h h' : List (Nat × TB T)} (hi : Inj ρ h) (hs : ∀ p ∈ h', p ∈ h) : Inj ρ h' := hi.sub fun p hp => ⟨p, hs p hp, rfl⟩
def ldR (ρ : Nat → Nat) (ld : List (Nat × Nat × Nat)) : List (Nat × Nat × Nat) := ld.map fun p => (p.1, ρ p.2.1, p.2.2)
theorem ldAt_R (ρ : Nat → Nat) (ld : List (Nat × Nat × Nat)) (d : Nat) : ldAt (ldR ρ ld) d = (ldAt ld d).map fun p => (p.1, ρ p.2.1, p.2.2) := by
  unfold ldAt ldR
  rw [List.find?_map]; rfl
theorem bstT_to {mB : Nat → Bool} {k : Nat} : (bstT mB k σ).to E.toEnc ρ = bst mB k (σ.to E.toEnc ρ) := by
  unfold bstT bst
  cases mB k <;> rfl
theorem bstT_inj {mB : Nat → Bool} {k : Nat} (hi : Inj ρ σ.h) : Inj ρ (bstT mB k σ).h := by
  unfold bstT
  cases mB k
  · exact fun p hp => by cases hp
  · exact hi
theorem dstIs_iff {s : Nat} {o : Oper} : dstIs s o = true ↔ o.dst = some s := by
  unfold dstIs
  split
  · rename_i d h; rw [h]; simp [Nat.beq_eq]
  · rename_i h; rw [h]; simp
theorem mvN_some {fl : List Bool} {op : Op} {u : TV E.T} (h : mvN E l fl σ op = some u) : ∃ s, op = .move (.tmp s) ∧ opT σ (.tmp s) = some u ∧ ∀ (q : Nat) o', l[q]? = some o' → mNf fl q = true → o'.dst ≠ some s := by
  unfold mvN at h
  split at h
  · rename_i s
    split at h
    · rename_i ha
      refine ⟨s, rfl, h, fun q o' ho hm hd => ?_⟩
      have := List.all_eq_true.1 ha (o', q) (mem_zi ho)
      simp only [hm, dstIs_iff.2 hd] at this
      cases this
    · cases h
  · cases h
theorem ldCell_some {op : Op} {kk p : Nat} {c : TA E.T} (h : ldCell Y E σ op kk p = some c) : ∃ t x dsc cs, op = .load t x ∧ opT σ x = some (.a (.box kk p)) ∧ look Y.ty t = some dsc ∧ oneB dsc = true ∧ look σ.h kk = some (.cs cs) ∧ cs[p]? = some c := by
  unfold ldCell at h
  split at h
  · rename_i t x
    split at h
    · rename_i k2 p2 dsc cs hx h0 hb
      split at h
      · rename_i hc
        simp only [Bool.and_eq_true] at hc
        have e1 := Nat.eq_of_beq_eq_true hc.1.1
        have e2 := Nat.eq_of_beq_eq_true hc.1.2
        subst e1 e2
        exact ⟨t, x, dsc, cs, rfl, hx, h0, hc.2, hb, h⟩
      · cases h
    · cases h
  · cases h
theorem evN_ok {K : AS → Prop} {fl : List Bool} {mB : Nat → Bool} {ld : List (Nat × Nat × Nat)} {H : List (Nat × TB E.T)} (hG : GOk P Y E G) (hi : Inj ρ H) : ∀ (rest : List Oper) (k : Nat) (σ : TS E.T), σ.h = H → (evN Y E G l fl mB ld k rest σ).holds (fun σ' => K (σ'.to E.toEnc ρ)) → NSemX P l (mNf fl) mB (ldR ρ ld) K k rest (σ.to E.toEnc ρ)
  | [], k, σ, hh, h => h
  | o :: rest, k, σ, hh, h => by
    have hi' : Inj ρ σ.h := hh ▸ hi
    unfold evN at h
    unfold NSemX
    cases hm : mNf fl k with
    | false => rw [hm] at h; exact evN_ok hG hi rest (k + 1) σ hh h
    | true =>
      rw [hm] at h
      simp only at h
      obtain ⟨dst, op, ty, pos, af, g⟩ := o
      simp only at h
      split at h
      · rename_i d
        split at h
        · rename_i hd
          have fin : ∀ {u : TV E.T}, OpV P ⟨some d, op, ty, pos, af, none⟩ (bst mB k (σ.to E.toEnc ρ)) (u.to E.toEnc ρ) → DetX P l (mNf fl) mB (ldR ρ ld) k (σ.to E.toEnc ρ) ⟨some d, op, ty, pos, af, none⟩ (u.to E.toEnc ρ) → (evN Y E G l fl mB ld (k + 1) rest (σ.put d u)).holds (fun σ' => K (σ'.to E.toEnc ρ)) → ∃ d' u', some d = some d' ∧ (none : Option (Nat × Bool)) = none ∧ Nat.ble (d' + 1) (σ.to E.toEnc ρ).n = true ∧ OpV P ⟨some d, op, ty, pos, af, none⟩ (bst mB k (σ.to E.toEnc ρ)) u' ∧ DetX P l (mNf fl) mB (ldR ρ ld) k (σ.to E.toEnc ρ) ⟨some d, op, ty, pos, af, none⟩ u' ∧ NSemX P l (mNf fl) mB (ldR ρ ld) K (k + 1) rest ((σ.to E.toEnc ρ).put d' u') := fun {u} h1 h2 h3 => by
            refine ⟨d, u.to E.toEnc ρ, rfl, rfl, hd, h1, h2, ?_⟩
            have := evN_ok hG hi rest (k + 1) (σ.put d u) hh h3
            rw [put_to] at this
            exact this
          split at h
          · rename_i d' kk p hld
            split at h
            · rename_i c hmb hc
              obtain ⟨t, x, dsc, cs, rfl, hx, h0, h1, hb, hcp⟩ := ldCell_some hc
              have e : (TV.a c.rd : TV E.T).to E.toEnc ρ = (c.to E.toEnc ρ).rd := TA.rd_to _ _ _
              have hcs : (cs.map (TA.to E.toEnc ρ))[p]? = some (c.to E.toEnc ρ) := by simp [hcp]
              have hbk : bst mB k (σ.to E.toEnc ρ) = σ.to E.toEnc ρ := by unfold bst; rw [hmb]
              refine fin (u := .a c.rd) ?_ ⟨by rw [e]; exact plain_rd _, fun d2 hd2 => ?_⟩ h
              · rw [e, hbk]
                exact opv_load_box (T := Y) (opT_to (ρ := ρ) hx) (look_box hi' hb) hcs h0 h1 (TA.to_notMp _ _ _)
              · cases hd2
                rw [ldAt_R, hld, e]
                refine ⟨hmb, ?_⟩
                exact loadC_box (T := Y) (opT_to (ρ := ρ) hx) (look_box hi' hb) hcs h0 h1 (notMpB cs)
            · cases h
          · rename_i hld
            have hldn : ∀ d2, some d = some d2 → ldAt (ldR ρ ld) d2 = none := fun d2 e => by cases e; rw [ldAt_R, hld]; rfl
            split at h
            · rename_i u hu
              obtain ⟨s, rfl, hx, hs⟩ := mvN_some hu
              refine fin (u := u.rd) ?_ ⟨by rw [TV.rd_to]; exact plain_rd _, fun d2 hd2 => ?_⟩ h
              · rw [TV.rd_to]
                refine opv_move_rd (x := .tmp s) ?_ (.inl rfl)
                have := opT_to (ρ := ρ) hx
                show look (bst mB k (σ.to E.toEnc ρ)).t s = _
                have e : (bst mB k (σ.to E.toEnc ρ)).t = (σ.to E.toEnc ρ).t := by unfold bst; cases mB k <;> rfl
                rw [e]; exact this
              · rw [hldn d2 hd2]
                exact .inr ⟨s, rfl, hs⟩
            · have hok := evP_ok (Y := Y) (σ := bstT mB k σ) (d := some d) (ty := ty) (pos := pos) (af := af) (g := none) (bstT_inj hi') hG op
              cases hp : evP Y E G (bstT mB k σ) op ty with
              | one u =>
                rw [hp] at h hok
                simp only at h
                split at h
                · rename_i hdet
                  obtain ⟨x, hx⟩ := detV_to (ρ := ρ) hdet
                  have hok' : OpV P ⟨some d, op, ty, pos, af, none⟩ ((bstT mB k σ).to E.toEnc ρ) (u.to E.toEnc ρ) := hok
                  rw [bstT_to] at hok'
                  exact fin hok' ⟨by rw [hx]; rfl, fun d2 hd2 => by rw [hldn d2 hd2]; exact .inl ⟨x, hx⟩⟩ h
                · cases h
              | opt q u =>
                rw [hp] at h hok
                obtain ⟨z, hz, h⟩ := h
                simp only at h
                split at h
                · rename_i hdet
                  obtain ⟨x, hx⟩ := detV_to (ρ := ρ) hdet
                  have hok' : OpV P ⟨some d, op, ty, pos, af, none⟩ ((bstT mB k σ).to E.toEnc ρ) ((u z).to E.toEnc ρ) := hok z hz
                  rw [bstT_to] at hok'
                  exact fin hok' ⟨by rw [hx]; rfl, fun d2 hd2 => by rw [hldn d2 hd2]; exact .inl ⟨x, hx⟩⟩ h
                · cases h
              | bad => rw [hp] at h; cases h
        · cases h
      · cases h
/-- Whence one goes on, the names being as they are. -/
def OnS (R : AS → Prop) (RP : Value → List (Nat × List AV) → Prop) (ρ : Nat → Nat) : OL E.T → Prop
  | .st σ' => Inj ρ σ'.h → R (σ'.to E.toEnc ρ)
  | .pan v => RP v []
theorem evXR_effX {R : AS → Prop} {RP : Value → List (Nat × List AV) → Prop} {d : Nat} {f : FuncId} {us : List (TV E.T)} {x : XR E.T} (hi : Inj ρ σ.h) (hx : x.ok P f us σ.h)
    (run : ∀ {post : AOut → List (Nat × List AV) → Prop} {ids : List Nat}, ACalls P f (us.map (TV.to E.toEnc ρ)) (hTo E.toEnc ρ (keepHH σ.h ids)) post → (∀ u H', post (.ret u) H' → R ((callSt (σ.to E.toEnc ρ) [] (hTo E.toEnc ρ (dropHH ids σ.h)) H').put d u)) → (∀ v H', post (.pan v) H' → RP v []) → EffX P o (σ.to E.toEnc ρ) R RP)
    (h : (evXR σ d x).holds (OnS R RP ρ)) : EffX P o (σ.to E.toEnc ρ) R RP := by
  have goOn : ∀ {ids : List Nat} {h' : List (Nat × TB E.T)} {u : TV E.T}, goodIds σ.h ids = true → h'.map (·.1) = ids → OnS R RP ρ (.st ((σ.give ids h').put d u)) → R ((callSt (σ.to E.toEnc ρ) [] (hTo E.toEnc ρ (dropHH ids σ.h)) (hTo E.toEnc ρ h')).put d (u.to E.toEnc ρ)) := fun {ids h' u} hg hm hq => by
    have := hq (give_inj hi hg hm)
    rw [put_to, give_to] at this
    exact this
  cases x with
  | bad => cases h
  | ret ov ids u hh =>
    unfold evXR at h
    simp only at h
    split at h
    · rename_i hg
      obtain ⟨z, hz, h⟩ := h
      obtain ⟨hm, hc⟩ := hx z hz
      refine run (hc ρ hi) ?_ ?_
      · rintro u' H' ⟨e, rfl⟩
        cases e
        exact goOn hg hm h
      · rintro v H' ⟨e, _⟩
        cases e
    · cases h
  | may ov ids u hh =>
    unfold evXR at h
    simp only at h
    split at h
    · rename_i hg
      obtain ⟨p, hp, h⟩ := h
      obtain ⟨hm, hc⟩ := hx p hp
      cases p with
      | ok z =>
        refine run (hc ρ hi) ?_ ?_
        · rintro u' H' ⟨e, rfl⟩
          cases e
          exact goOn hg (hm z rfl) (h.1 z rfl)
        · rintro v H' ⟨e, _⟩
          cases e
      | pan v =>
        refine run (hc ρ hi) ?_ ?_
        · intro u' H' e
          cases e
        · intro v' H' e
          cases e
          exact h.2 v rfl
    · cases h
theorem evE_ok {R : AS → Prop} {RP : Value → List (Nat × List AV) → Prop} {all : Bool} (hi : Inj ρ σ.h) (hG : GOk P Y E G) (hR : all = true → Low R) (h : (evE Y E G all o σ).holds (OnS R RP ρ)) : EffX P o (σ.to E.toEnc ρ) R RP := by
  have pure : ∀ {d : Nat}, o.dst = some d → Nat.ble (d + 1) σ.n = true → ((pureT Y E G σ d o.op o.type).bind fun σ' => Tree.leaf (OL.st σ')).holds (OnS R RP ρ) → EffX P o (σ.to E.toEnc ρ) R RP := fun {d} h1 h2 h3 => by
    refine effX_eff (pureT_eff (Y := Y) (R := R) (A := fun ρ' => ρ' = ρ) hi hG rfl h1 h2 ?_)
    refine (holds_bind h3).mono fun σ' hσ ρ' hi' e => ?_
    subst e
    exact hσ hi'
  unfold evE at h
  split at h
  · cases h
  · rename_i hg
    split at h
    · rename_i f xs ats hop
      split at h
      · rename_i d hf hdst
        split at h
        · rename_i us hd hx
          obtain ⟨dst, op, ty, pos, af, g⟩ := o
          simp only at hop hdst hg
          subst hop hdst hg
          refine evXR_effX hi (xRun_ok hG.x f _ σ.h) (fun {post ids} hc hr hp => ?_) h
          have hpa := pargs_rd (opTs_to (ρ := ρ) hx) (fixArgs_le ats.toList us (fixArgs_len _ _)) (fixArgs_plain _ _)
          refine effX_call hc hpa (oneSome_none _) (fun kk oo hm => absurd (List.eq_of_mem_replicate hm) (by simp)) (keep_sub hi ids) (fun kk cs hk => by rw [layAll_none]; exact drop_sub hi ids kk cs hk) hd ?_ ?_ ?_
          · intro u H' hp'
            rw [callSt_none]
            exact hr u H' hp'
          · intro v H' hp'
            exact ⟨[], fun k cs hk => by simp [look_nil] at hk, hp v H' hp'⟩
          · intro H'
            rw [callSt_none]; rfl
        · cases h
      · rename_i d hf hdst
        split at h
        · rename_i hd
          exact pure hdst hd h
        · cases h
      · cases h
    · split at h
      · split at h
        · rename_i hc
          refine effX_eff (evOp_eff (Y := Y) (R := R) (A := fun ρ' => ρ' = ρ) hi hG (hR rfl) rfl (fun e => by rw [hc] at e; cases e) ?_)
          refine (holds_bind h).mono fun σ' hσ ρ' hi' e => ?_
          subst e
          exact hσ hi'
        · cases h
      · rename_i d hdst
        split at h
        · rename_i hd
          exact pure hdst hd h
        · cases h
      · cases h
theorem low_csemX {n : Nat} {RP : Value → List (Nat × List AV) → Prop} {K : AS → Prop} (hK : Low K) : ∀ l : List Oper, Low (CSemX P n RP K l)
  | [] => hK
  | o :: rest => fun σ σ' hn hs h => by
    refine ⟨hn.trans h.1, fun F X a hsim => ?_⟩
    rw [hn]
    exact h.2 F X a (hs _ _ _ hsim)
theorem evCs_ok {K : AS → Prop} {RP : Value → List (Nat × List AV) → Prop} {all : Bool} {n : Nat} (hG : GOk P Y E G) (hK : all = true → Low K) : ∀ (cs : List Nat) (σ : TS E.T), Inj ρ σ.h → (evCs Y E G all n l cs σ).holds (OnS K RP ρ) → CSemX P n RP K (cs.filterMap fun i => l[i]?) (σ.to E.toEnc ρ)
  | [], σ, hi, h => h hi
  | c :: cs, σ, hi, h => by
    unfold evCs at h
    split at h
    · rename_i o hn ho
      rw [List.filterMap_cons, ho]
      refine ⟨Nat.eq_of_beq_eq_true hn, evE_ok (Y := Y) hi hG (fun e => low_csemX (hK e) _) ?_⟩
      refine (holds_bind h).mono fun x hx => ?_
      cases x with
      | st σ' => exact fun hi' => evCs_ok hG hK cs σ' hi' hx
      | pan v => exact hx
    · cases h
theorem alsA_to (m : List (Nat × Nat)) : (σ.alsA m).to E.toEnc ρ = (σ.to E.toEnc ρ).als m := by
  have e : eTo ρ (m.map (fun p => (p.1, Root.s p.2)) ++ σ.e) = m.map (fun p => (p.1, Root.s p.2)) ++ eTo ρ σ.e := by
    unfold eTo
    rw [List.map_append, List.map_map]; rfl
  show AS.mk _ _ _ _ = AS.mk _ _ _ _
  congr 1
theorem alcT_to (ld : List (Nat × Nat × Nat)) : (σ.alcT ld).to E.toEnc ρ = (σ.to E.toEnc ρ).alc (ldR ρ ld) := by
  have e : eTo ρ (ld.map (fun p => (p.1, Root.c p.2.1 p.2.2)) ++ σ.e) = (ldR ρ ld).map (fun p => (p.1, Root.c p.2.1 p.2.2)) ++ eTo ρ σ.e := by
    unfold eTo ldR
    rw [List.map_append, List.map_map, List.map_map]; rfl
  show AS.mk _ _ _ _ = AS.mk _ _ _ _
  congr 1
theorem ownE_sub : SubS (σ.to E.toEnc ρ) (σ.ownE.to E.toEnc ρ) := fun F X tm hs => by
  refine hs.le2 rfl (fun t u' hu => ⟨u', hu, .refl _⟩) (fun q cs' hq => ⟨cs', hq, LeL.refl _⟩) (fun p hp => ?_)
  simp only [TS.to, TS.ownE, eTo, List.mem_map] at hp ⊢
  obtain ⟨q, hq, rfl⟩ := hp
  exact ⟨q, (List.mem_filter.1 hq).1, rfl⟩
theorem ldOkB_ok {fl : List Bool} {ld : List (Nat × Nat × Nat)} (h : ldOkB l fl ld = true) : ((ldR ρ ld).map (·.1)).Nodup ∧ ∀ p ∈ ldR ρ ld, ∃ (q : Nat) (o : Oper), l[q]? = some o ∧ mNf fl q = true ∧ o.dst = some p.1 := by
  unfold ldOkB at h
  rw [Bool.and_eq_true] at h
  have e : (ldR ρ ld).map (·.1) = ld.map (·.1) := by unfold ldR; rw [List.map_map]; rfl
  refine ⟨by rw [e]; exact of_decide_eq_true h.1, fun p hp => ?_⟩
  obtain ⟨p0, hp0, rfl⟩ := List.mem_map.1 hp
  have := List.all_eq_true.1 h.2 p0 hp0
  obtain ⟨q, hq, hc⟩ := List.any_eq_true.1 this
  rw [Bool.and_eq_true] at hc
  have hq' : l[q.2]? = some q.1 := by
    have := List.mem_zipIdx_iff_getElem?.1 hq
    simpa using this
  exact ⟨q.2, q.1, hq', hc.1, dstIs_iff.1 hc.2⟩
theorem hasB_mem {l : List Nat} {i : Nat} (h : hasB l i = true) : i ∈ l := by
  induction l with
  | nil => cases h
  | cons a r ih =>
    simp only [hasB] at h
    first
      | (split at h
         · rename_i e; rw [Nat.eq_of_beq_eq_true e]; exact List.mem_cons_self
         · exact List.mem_cons_of_mem _ (ih h))
      | (simp only [Bool.or_eq_true] at h
         rcases h with h | h
         · have := Nat.eq_of_beq_eq_true h; subst this; exact List.mem_cons_self
         · exact List.mem_cons_of_mem _ (ih h))
theorem parT_holds {L : Type} {K : L → Prop} : ∀ {ts : List (Tree L)}, (parT ts).holds K → ∀ t ∈ ts, t.holds K
  | [], h, t, ht => by cases ht
  | [t], h, t', ht => by
    rw [List.mem_singleton] at ht
    subst ht; exact h
  | t :: t2 :: r, h, t', ht => by
    rcases List.mem_cons.1 ht with rfl | ht
    · exact h.1 rfl
    · exact parT_holds (ts := t2 :: r) h.2 t' ht
def OnA (R : AS → Prop) (RP : Value → List (Nat × List AV) → Prop) (ρ : Nat → Nat) : OL E.T → Prop
  | .st σ' => ∀ ρ', Inj ρ' σ'.h → Agr ρ ρ' → R (σ'.to E.toEnc ρ')
  | .pan v => RP v []
theorem OnA.toS {R : AS → Prop} {RP : Value → List (Nat × List AV) → Prop} {x : OL E.T} (h : OnA R RP ρ x) : OnS R RP ρ x := by
  cases x with
  | st σ' => exact fun hi => h ρ hi (Agr.refl ρ)
  | pan v => exact h
theorem evA_ok {R : AS → Prop} {RP : Value → List (Nat × List AV) → Prop} (hi : Inj ρ σ.h) (hG : GOk P Y E G) (hR : Low R) (h : (evA Y E G o σ).holds (OnA R RP ρ)) : o.guard = none ∧ EffX P o (σ.to E.toEnc ρ) R RP := by
  have old : ((evOp Y E G o σ).bind fun σ' => Tree.leaf (OL.st σ')).holds (OnA R RP ρ) → EffX P o (σ.to E.toEnc ρ) R RP := fun h =>
    effX_eff (evOp_eff (Y := Y) (R := R) (A := Agr ρ) hi hG hR (Agr.refl ρ) (fun _ d b hn => Agr.upd hn) ((holds_bind h).mono fun σ' hσ => hσ))
  unfold evA at h
  split at h
  · cases h
  · rename_i hg
    refine ⟨hg, ?_⟩
    split at h
    · rename_i f xs ats hop
      split at h
      · rename_i d hf hdst
        split at h
        · rename_i us hd hx
          obtain ⟨dst, op, ty, pos, af, g⟩ := o
          simp only at hop hdst hg
          subst hop hdst hg
          refine evXR_effX hi (xRun_ok hG.x f _ σ.h) (fun {post ids} hc hr hp => ?_) (h.mono fun x hx => hx.toS)
          have hpa := pargs_rd (opTs_to (ρ := ρ) hx) (fixArgs_le ats.toList us (fixArgs_len _ _)) (fixArgs_plain _ _)
          refine effX_call hc hpa (oneSome_none _) (fun kk oo hm => absurd (List.eq_of_mem_replicate hm) (by simp)) (keep_sub hi ids) (fun kk cs hk => by rw [layAll_none]; exact drop_sub hi ids kk cs hk) hd ?_ ?_ ?_
          · intro u H' hp'
            rw [callSt_none]
            exact hr u H' hp'
          · intro v H' hp'
            exact ⟨[], fun k cs hk => by simp [look_nil] at hk, hp v H' hp'⟩
          · intro H'
            rw [callSt_none]; rfl
        · cases h
      · exact old h
    · exact old h
theorem low_aany {n0 : Nat} (hK : Low (fun τ => ARun P Q ks τ)) : ∀ (n : Nat) (done : List Nat), Low (AAny P Q ks l n0 n done)
  | 0, done => fun σ σ' hn hs h => ⟨h.1, hK σ σ' hn hs h.2⟩
  | n + 1, done => fun σ σ' hn hs h => ⟨fun e => hK σ σ' hn hs (h.1 e), fun i hi o ho => by
    obtain ⟨h1, h2, h3⟩ := h.2 i hi o ho
    refine ⟨hn.trans h1, h2, fun F X a hsim => ?_⟩
    rw [hn]
    exact h3 F X a (hs _ _ _ hsim)⟩
theorem anyT_ok {n0 : Nat} (hG : GOk P Y E G) (hK : Low (fun τ => ARun P Q ks τ)) (l : List Oper) : ∀ (n : Nat) (done : List Nat) (σ : TS E.T) (ρ : Nat → Nat), Inj ρ σ.h → (anyT Y E G n0 l n done σ).holds (OnX P E Q ρ ks ks) → AAny P Q ks l n0 n done (σ.to E.toEnc ρ)
  | 0, done, σ, ρ, hi, h => by
    unfold anyT at h
    split at h
    · rename_i e; exact ⟨e, h ρ hi (Agr.refl ρ)⟩
    · cases h
  | n + 1, done, σ, ρ, hi, h => by
    unfold anyT at h
    split at h
    · rename_i e
      exact ⟨fun _ => h ρ hi (Agr.refl ρ), fun i hi' => by rw [e] at hi'; cases hi'⟩
    · rename_i e
      refine ⟨fun e' => absurd e' (by simpa using e), fun i hi' o ho => ?_⟩
      have hb := parT_holds h _ (List.mem_map_of_mem hi')
      simp only [ho] at hb
      split at hb
      · rename_i o' hn e1
        have e2 : o = o' := Option.some.inj e1
        subst e2
        have := evA_ok (Y := Y) (R := AAny P Q ks l n0 n (i :: done)) (RP := fun v H2 => Stk P Q ks (.panic [{ v := v, recovered := false }]) ⟨n0, [], H2, []⟩) hi hG (low_aany hK n _) ((holds_bind hb).mono fun x hx => by
          cases x with
          | st σ' => exact fun ρ' hi2 ha => anyT_ok hG hK l n (i :: done) σ' ρ' hi2 (Tree.holds.mono (fun y hy => OnX.agr ha hy) hx)
          | pan v => exact hx _)
        exact ⟨Nat.eq_of_beq_eq_true hn, this.1, this.2⟩
      · cases hb
theorem anyR_ok {id : Nat} {ops : List Oper} (hm : P.follows .mixedOrders = true) (hG : GOk P Y E G) (hi : Inj ρ σ.h) (h : (anyR Y E G ops σ).holds (OnX P E Q ρ ks ks)) : ARun P Q (.c (.region id ops.toArray true) :: ks) (σ.to E.toEnc ρ) := by
  unfold anyR at h
  split at h
  · refine ar_nop ?_
    refine ar_any hm ?_
    refine anyT_ok (Y := Y) hG (low_arun rfl) ops ops.length [] σ ρ hi (h.mono fun x hx => ?_)
    cases x with
    | st σ' => exact fun ρ' hi' ha => ar_end rfl (hx ρ' hi' ha)
    | pan v => exact hx
  · cases h
theorem cloD_ok {p : Nat → Prop} (hp : ∀ (q : Nat) oq, l[q]? = some oq → p q → ∀ d ∈ depsOf oq, p d) : ∀ (n : Nat) (S : List Nat), (∀ j ∈ S, p j) → ∀ j ∈ cloD l n S, p j
  | 0, S, h => h
  | n + 1, S, h => cloD_ok hp n _ (by
    split
    · rename_i o h1 h2
      intro j hj
      rcases List.mem_append.1 hj with hj | hj
      · exact hp n o h2 (h n (hasB_mem h1)) j hj
      · exact h j hj
    · exact h)
theorem mixR2_ok {id : Nat} {ops : List Oper} {fl : List Bool} {ids cs1 cs2 : List Nat} {ld : List (Nat × Nat × Nat)} (hm : P.follows .mixedOrders = true) (hG : GOk P Y E G) (hi : Inj ρ σ.h) (he : σ.e = []) (h : (mixR2 Y E G ops σ fl ids cs1 cs2 ld).holds (OnX P E Q ρ ks ks)) : ARun P Q (.c (.region id ops.toArray true) :: ks) (σ.to E.toEnc ρ) := by
  unfold mixR2 at h
  split at h
  · rename_i hB
    simp only [Bool.and_eq_true] at hB
    obtain ⟨⟨hB, hids⟩, hld⟩ := hB
    obtain ⟨hld1, hld2⟩ := ldOkB_ok (ρ := ρ) hld
    refine ar_nop ?_
    refine ar_drawX (st := stA ρ ids) (mN := mNf fl) (mB := mBf ops cs2) (ld := ldR ρ ld) (cs1 := cs1) (cs2 := cs2) hm (mixB_ok hB) (fun i c o hmi hmb hc ho => ?_) (by simp only [TS.to, he]; rfl) hld1 hld2 ?_
    · unfold mBf at hmb
      cases cs2 with
      | nil => cases hc
      | cons c' r =>
        simp only [List.head?_cons, Option.some.injEq] at hc
        subst hc
        exact fun p hp hc => cloD_ok hp (c' + 1) [c'] (fun j hj => by rw [List.mem_singleton] at hj; subst hj; exact hc) i (hasB_mem hmb)
    · have e1 : (σ.to E.toEnc ρ).withH ((σ.to E.toEnc ρ).h.filter fun p => stA ρ ids p.1) = (σ.withB (inH ids σ.h)).to E.toEnc ρ := by
        show AS.mk _ _ _ _ = AS.mk _ _ _ _
        rw [show (σ.withB (inH ids σ.h)).h = inH ids σ.h from rfl, inH_to hi hids]; rfl
      rw [e1]
      refine evN_ok (Y := Y) hG (hi.of_mem inH_sub) ops 0 _ rfl ?_
      refine (holds_bind h).mono fun σN hN => ?_
      have e2 : ((σN.to E.toEnc ρ).withH ((σ.to E.toEnc ρ).h.filter fun p => !stA ρ ids p.1)).als (nMoves ops (mNf fl) 0 ops) = ((σN.withB (outH ids σ.h)).alsA (nMoves ops (mNf fl) 0 ops)).to E.toEnc ρ := by
        rw [alsA_to]
        congr 1
        show AS.mk _ _ _ _ = AS.mk _ _ _ _
        rw [show (σN.withB (outH ids σ.h)).h = outH ids σ.h from rfl, outH_to hi hids]; rfl
      rw [e2]
      refine evCs_ok (Y := Y) (all := false) hG (fun e => by cases e) cs1 _ (hi.of_mem outH_sub) ?_
      refine (holds_bind hN).mono fun x hx => ?_
      cases x with
      | pan v => exact ⟨[], fun k cs hk => by simp [look_nil] at hk, hx _⟩
      | st σ1 =>
        intro hi1
        simp only [andT] at hx
        split at hx
        · rename_i hs
          rw [Bool.and_eq_true] at hs
          have hin : Inj ρ (σ1.h ++ inH ids σ.h) := hi.sub fun p hp => by
            rcases List.mem_append.1 hp with hp | hp
            · have := List.all_eq_true.1 hs.1 p.1 (List.mem_map_of_mem hp)
              obtain ⟨b, hb⟩ := Option.isSome_iff_exists.1 this
              exact ⟨(p.1, b), look_mem hb, rfl⟩
            · exact ⟨p, inH_sub p hp, rfl⟩
          have e3 : ((σ1.to E.toEnc ρ).withH ((σ1.to E.toEnc ρ).h ++ (σ.to E.toEnc ρ).h.filter fun p => stA ρ ids p.1)).alc (ldR ρ ld) = ((σ1.withB (σ1.h ++ inH ids σ.h)).alcT ld).to E.toEnc ρ := by
            rw [alcT_to]
            congr 1
            show AS.mk _ _ _ _ = AS.mk _ _ _ _
            have : hTo E.toEnc ρ (σ1.h ++ inH ids σ.h) = hTo E.toEnc ρ σ1.h ++ hTo E.toEnc ρ (inH ids σ.h) := List.map_append
            rw [show (σ1.withB (σ1.h ++ inH ids σ.h)).h = σ1.h ++ inH ids σ.h from rfl, this, inH_to hi hids]; rfl
          rw [e3]
          refine (low_csemX (low_arun rfl) _).low ?_ ownE_sub rfl
          refine evCs_ok (Y := Y) (all := true) hG (fun _ => low_arun rfl) cs2 _ hin ?_
          refine hx.mono fun y hy => ?_
          cases y with
          | pan v => exact hy _
          | st σ3 => exact fun hi3 => ar_end rfl (hy ρ hi3 (Agr.refl ρ))
        · cases hx
  · exact anyR_ok (Y := Y) hm hG hi h
theorem mixR_ok {id : Nat} {ops : List Oper} (hm : P.follows .mixedOrders = true) (hG : GOk P Y E G) (hi : Inj ρ σ.h) (h : (mixR Y E G ops σ).holds (OnX P E Q ρ ks ks)) : ARun P Q (.c (.region id ops.toArray true) :: ks) (σ.to E.toEnc ρ) := by
  unfold mixR at h
  split at h
  · rename_i he
    exact mixR2_ok (Y := Y) hm hG hi he h
  · cases h
theorem evR_ok {id : Nat} {ops : Array Oper} {draw : Bool} (hm : P.follows .mixedOrders = true) (hG : GOk P Y E G) (hi : Inj ρ σ.h) (h : (evR Y E G ops.toList draw σ).holds (OnX P E Q ρ ks ks)) : ARun P Q (.c (.region id ops draw) :: ks) (σ.to E.toEnc ρ) := by
  have hops : ops = ops.toList.toArray := by simp
  unfold evR at h
  split at h
  · rw [hops]
    refine ar_region ?_
    exact evOps_ok (Y := Y) hG ops.toList ops.toList 0 σ ρ (fun i o ho => by simpa using ho) (by simp) hi h
  · split at h
    · rename_i he
      split at h
      · rename_i hB
        rw [hops]
        refine ar_nop ?_
        refine ar_draw hm hB (by simp only [TS.to, he]; rfl) ?_
        refine evQs_ok (Y := Y) (K := fun σ' => ARun P Q (.o [] 0 [] :: ks) σ') (fun σ1 σ2 h1 h2 => ar_subO rfl (alike_sub h1) h2) hG ops.toList σ.h hi ops.toList σ rfl ?_
        exact (holds_bind h).mono fun σ' hσ (hh : σ'.h = σ.h) => ar_end rfl (hσ ρ (hh ▸ hi) (Agr.refl ρ))
      · cases h
    · rename_i body om after hsp he
      split at h
      · rename_i hB
        have hl := splitE_eq hsp
        rw [hops]
        refine ar_drawC hm hl hB (by simp only [TS.to, he]; rfl) ?_
        refine evQs_ok (Y := Y) (K := fun σ' => ARun P Q (.o ops.toList body.length (om :: after) :: ks) (σ'.als (slotMoves body))) (fun σ1 σ2 h1 h2 => ar_subO rfl (alike_sub (h1.als _)) h2) hG ops.toList σ.h hi body σ rfl ?_
        refine (holds_bind h).mono fun σ' hσ (hh : σ'.h = σ.h) => ?_
        refine ar_subO rfl als_subT ?_
        refine evOps_ok (Y := Y) hG ops.toList (om :: after) body.length (σ'.alsT (slotMoves body)) ρ (fun i o ho => ?_) ?_ (hh ▸ hi) hσ
        · rw [hl, List.getElem?_append_right (by omega)]; simpa using ho
        · rw [hl]; simp
      · split at h
        · split at h
          · rw [hops]
            exact lateR_ok (Y := Y) hm hG hi he (splitE_eq hsp) h
          · rw [hops]
            exact mixR_ok (Y := Y) hm hG hi h
        · rw [hops]
          exact mixR_ok (Y := Y) hm hG hi h
    · cases h
end
end Go.Proofs.YtgmlkhfjhogdbaaGreat

/- Typed abstract values: the machine, and a function's contract out of it. -/
namespace Go.Proofs.YtgmlkhfjhogdbaaGreat
open Go.RowKit P
set_option linter.unusedSimpArgs false
set_option linter.unusedVariables false

/-- What is left to be run. -/
inductive It2 where
  | c (c : Code)
  | b (id : Nat)
  | l (c : Code)
  | r (id : Nat) (ops : Array Oper) (draw : Bool)
  | k (c : Code)
/-- How a function ends. -/
inductive RL (T : Nat → Type) where
  | ret (u : TV T) (h : List (Nat × TB T))
  | pan (v : Value)
inductive Lf (T : Nat → Type) where
  | go (ks : List It2) (σ : TS T)
  | done (r : RL T)
def hasN' : List Nat → Nat → Bool
  | [], _ => false
  | k :: r, i => match Nat.beq i k with | true => true | false => hasN' r i
/-- Which slots and boxes stay at a region, at a loop's head. -/
structure Kp where
  t : List (Nat × Bool)
  p : List (Nat × Nat)
  h : List (Nat × (Option Nat × List Nat))
structure Lvs where
  r : List (Nat × Kp)
  l : List (Nat × Kp)
  cut : List Nat
  p : List (Nat × Nat)
  own : Bool
  ph : List (Nat × (Option Nat × List Nat))
  kb : List Nat
def packV (E : Env) (i : Nat) (u : TV E.T) : TV E.T :=
  match u with
  | .ag l => match E.pk i l with
    | some (z, []) => .ag (E.unp i z)
    | _ => u
  | u => u
def packS (E : Env) (ps : List (Nat × Nat)) : List (Nat × TV E.T) → List (Nat × TV E.T)
  | [] => []
  | (k, u) :: r => (k, match look ps k with | some i => packV E i u | none => u) :: packS E ps r
def nrmA {T : Nat → Type} : TA T → TA T
  | .tt => .d .bool true
  | .ff => .d .bool false
  | x => x
def weakA {T : Nat → Type} (ws : List Nat) : Nat → List (TA T) → List (TA T)
  | _, [] => []
  | i, x :: r => (match hasN' ws i with | true => nrmA x.rd | false => nrmA x) :: weakA ws (i + 1) r
def packTB (E : Env) (m : Option Nat × List Nat) (b : TB E.T) : TB E.T :=
  match b with
  | .cs l => match m with
    | (some i, _) => match E.pk i l with
      | some (z, []) => .cs (E.unp i z)
      | _ => b
    | (none, ws) => .cs (weakA ws 0 l)
  | b => b
def packH (E : Env) (ms : List (Nat × (Option Nat × List Nat))) : List (Nat × TB E.T) → List (Nat × TB E.T)
  | [] => []
  | (k, b) :: r => (k, match look ms k with | some m => packTB E m b | none => b) :: packH E ms r
def firstReg : Code → Nat
  | .region id _ _ => id
  | .seq a _ => firstReg a
  | .cond _ a _ => firstReg a
  | .block _ c => firstReg c
  | .loop c => firstReg c
  | _ => 0
/-- How many loops begin one within the other, right at the beginning. -/
def leadL : Code → Nat
  | .seq a _ => leadL a
  | .cond _ a _ => leadL a
  | .block _ c => leadL c
  | .loop c => leadL c + 1
  | _ => 0
def loopKey (c : Code) : Nat := firstReg c + 1000 * leadL c
def TS.pack (E : Env) (σ : TS E.T) (k : Kp) : TS E.T := { n := σ.n, t := packS E k.p σ.t, h := packH E k.h σ.h, e := σ.e }
def canonAt (E : Env) (lv : List (Nat × Kp)) (id : Nat) (σ : TS E.T) : TS E.T :=
  match look lv id with
  | some k => (σ.canon k.t (k.h.map (·.1))).pack E k
  | none => σ
def exitTo (id : Nat) : List It2 → Option (List It2)
  | [] => none
  | .c _ :: ks => exitTo id ks
  | .l _ :: ks => exitTo id ks
  | .b j :: ks => match Nat.beq id j with
    | true => some ks
    | false => exitTo id ks
  | _ :: _ => none
/-- What is handed back. -/
def tcOf {T : Nat → Type} : TV T → Option (TC T)
  | .a x => match nrm (.a x.rd) with
    | .a y => some (.a y)
    | _ => none
  | .ag l => some (.ag l)
  | _ => none
def resC {P : Program} {T : Nat → Type} (Y : Tys P) (σ : TS T) : ResultVar → Option (TC T)
  | .tmp s => match look σ.t s with
    | some u => tcOf u
    | none => none
  | .cell s ty => match look σ.t s with
    | some (.a (.box k 0)) => match look σ.h k, look Y.ty ty with
      | some (.cs cs), some (.struct _) => match look Y.sz ty with
        | some (n, _) => match Nat.beq n cs.length with
          | true => some (.ag (cs.map TA.rd))
          | false => none
        | none => none
      | some (.cs [c]), some d => match oneB d with
        | true => some (.a (nrmA c.rd))
        | false => none
      | _, _ => none
    | _ => none
def tvOf {T : Nat → Type} : TC T → TV T
  | .a x => .a x
  | .ag l => .ag l
def resT {P : Program} {T : Nat → Type} (Y : Tys P) (own : Bool) (rs : List ResultVar) (σ : TS T) : Option (TV T) :=
  match rs with
  | [.tmp t] => match look σ.t t with
    | some u => some (weakV (!own) u)
    | none => none
  | [r] => match resC Y σ r with
    | some x => some (tvOf x)
    | none => none
  | [r, r'] => match resC Y σ r, resC Y σ r' with
    | some x, some x' => some (.tu [x, x'])
    | _, _ => none
  | [r, r', r''] => match resC Y σ r, resC Y σ r', resC Y σ r'' with
    | some x, some x', some x'' => some (.tu [x, x', x''])
    | _, _, _ => none
  | [] => some (.tu [])
  | _ => none
section
variable {P : Program} (Y : Tys P) (E : Env) (G : Gam E) (lv : Lvs) (rs : List ResultVar)
def finT (σ : TS E.T) : Tree (Lf E.T) := match resT Y lv.own rs (σ.pack E ⟨[], lv.p, lv.ph⟩) with
  | some u => .leaf (.done (.ret u (keepHH (σ.pack E ⟨[], lv.p, lv.ph⟩).h lv.kb)))
  | none => .fail
def stp : List It2 → TS E.T → Tree (Lf E.T)
  | [], σ => finT Y E lv rs σ
  | .b _ :: ks, σ => .leaf (.go ks σ)
  | .l c :: ks, σ => .leaf (.go (.k c :: ks) (canonAt E lv.l (loopKey c) σ))
  | .k c :: ks, σ => .leaf (.go (.c c :: .l c :: ks) σ)
  | .r _ ops draw :: ks, σ => (evR Y E G ops.toList draw σ).bind fun
    | .st σ' => .leaf (.go ks σ')
    | .pan v => .leaf (.done (.pan v))
  | .c c :: ks, σ => match c with
    | .skip => .leaf (.go ks σ)
    | .label _ => .leaf (.go ks σ)
    | .seq a b => .leaf (.go (.c a :: .c b :: ks) σ)
    | .block id c => .leaf (.go (.c c :: .b id :: ks) σ)
    | .loop c => .leaf (.go (.l c :: ks) σ)
    | .cond (.tmp t) a b => match look σ.t t with
      | some (.a .tt) => .leaf (.go (.c a :: ks) σ)
      | some (.a .ff) => .leaf (.go (.c b :: ks) σ)
      | some (.a (.d .bool v)) => .cond v (.leaf (.go (.c a :: ks) (σ.know t .tt))) (.leaf (.go (.c b :: ks) (σ.know t .ff)))
      | _ => .fail
    | .exit id => match exitTo id ks with
      | some ks' => .leaf (.go ks' σ)
      | none => .fail
    | .ret => finT Y E lv rs σ
    | .region id ops draw => .leaf (.go (.r id ops draw :: ks) (canonAt E lv.r id σ))
    | _ => .fail
def hasN : List Nat → Nat → Bool
  | [], _ => false
  | k :: r, i => match Nat.beq i k with | true => true | false => hasN r i
def stopAt (cut : List Nat) : List It2 → Bool
  | .k _ :: _ => true
  | .r id _ _ :: _ => hasN cut id
  | _ => false
/-- Up to the next cuts. -/
def evM : Nat → Bool → List It2 → TS E.T → Tree (Lf E.T)
  | 0, _, ks, σ => .leaf (.go ks σ)
  | m + 1, fst, ks, σ => match fst, stopAt lv.cut ks with
    | false, true => .leaf (.go ks σ)
    | _, _ => (stp Y E G lv rs ks σ).bind fun
      | .go ks' σ' => evM m false ks' σ'
      | .done r => .leaf (.done r)
def finL {T : Nat → Type} (F : List It2 → TS T → Prop) (K : RL T → Prop) : Lf T → Prop
  | .go ks σ => F ks σ
  | .done r => K r
def Fin (K : RL E.T → Prop) : Nat → List It2 → TS E.T → Prop
  | 0, _, _ => False
  | n + 1, ks, σ => (stp Y E G lv rs ks σ).holds (finL (Fin K n) K)
/-- It comes to an end, with a result that is as it should be. -/
def Ends (K : RL E.T → Prop) (ks : List It2) (σ : TS E.T) : Prop := ∃ n, Fin Y E G lv rs K n ks σ
def LfOk (K : RL E.T → Prop) : Lf E.T → Prop
  | .go ks σ => Ends Y E G lv rs K ks σ
  | .done r => K r
end
section
variable {P : Program} {Y : Tys P} {E : Env} {G : Gam E} {lv : Lvs} {rs : List ResultVar} {K : RL E.T → Prop}
theorem holds_ex {L : Type} {R : Nat → L → Prop} (hR : ∀ n m x, n ≤ m → R n x → R m x) : ∀ {t : Tree L}, t.holds (fun x => ∃ n, R n x) → ∃ n, t.holds (R n)
  | .leaf x, h => h
  | .cond true s t, h => by
    obtain ⟨n, h⟩ := holds_ex hR (h.1 rfl)
    exact ⟨n, fun _ => h, fun e => by cases e⟩
  | .cond false s t, h => by
    obtain ⟨n, h⟩ := holds_ex hR (h.2 rfl)
    exact ⟨n, (fun e => by cases e), fun _ => h⟩
  | .bnd o k, ⟨z, h1, h2⟩ => by
    obtain ⟨n, h⟩ := holds_ex hR h2
    exact ⟨n, z, h1, h⟩
  | .sm (.ok z) k p, h => by
    obtain ⟨n, h⟩ := holds_ex hR (h.1 z rfl)
    exact ⟨n, (fun z' e => by cases e; exact h), fun v e => by cases e⟩
  | .sm (.pan v) k p, h => by
    obtain ⟨n, h⟩ := holds_ex hR (h.2 v rfl)
    exact ⟨n, (fun z' e => by cases e), fun v' e => by cases e; exact h⟩
  | .nl [] s t, h => by
    obtain ⟨n, h1⟩ := holds_ex hR (h.1 rfl)
    obtain ⟨m, h2⟩ := holds_ex hR h.2
    exact ⟨n + m, fun _ => h1.mono fun x => hR _ _ x (by omega), h2.mono fun x => hR _ _ x (by omega)⟩
  | .nl (_ :: _) s t, h => by
    obtain ⟨m, h2⟩ := holds_ex hR h.2
    exact ⟨m, (fun e => by cases e), h2⟩
  | .fail, h => h.elim
theorem fin_up : ∀ (n : Nat) (ks : List It2) (σ : TS E.T), Fin Y E G lv rs K n ks σ → Fin Y E G lv rs K (n + 1) ks σ
  | 0, _, _, h => h.elim
  | n + 1, ks, σ, h => Tree.holds.mono (fun x hx => by
    cases x with
    | go ks' σ' => exact fin_up n ks' σ' hx
    | done r => exact hx) h
theorem fin_mono {n m : Nat} (h : n ≤ m) {ks : List It2} {σ : TS E.T} (hf : Fin Y E G lv rs K n ks σ) : Fin Y E G lv rs K m ks σ := by
  induction h with
  | refl => exact hf
  | step _ ih => exact fin_up _ _ _ ih
theorem ends_step {ks : List It2} {σ : TS E.T} (h : (stp Y E G lv rs ks σ).holds (LfOk Y E G lv rs K)) : Ends Y E G lv rs K ks σ := by
  have h' : (stp Y E G lv rs ks σ).holds (fun x => ∃ n, finL (Fin Y E G lv rs K n) K x) := h.mono fun x hx => by
    cases x with
    | go ks' σ' => exact hx
    | done r => exact ⟨0, hx⟩
  obtain ⟨n, hn⟩ := holds_ex (R := fun n x => finL (Fin Y E G lv rs K n) K x) (fun n m x hnm hx => by
    cases x with
    | go ks' σ' => exact fin_mono hnm hx
    | done r => exact hx) h'
  exact ⟨n + 1, hn⟩
/-- Out of what the machine comes to. -/
theorem evM_ok : ∀ (m : Nat) (fst : Bool) (ks : List It2) (σ : TS E.T), (evM Y E G lv rs m fst ks σ).holds (LfOk Y E G lv rs K) → Ends Y E G lv rs K ks σ
  | 0, _, ks, σ, h => h
  | m + 1, fst, ks, σ, h => by
    simp only [evM] at h
    split at h
    · exact h
    · refine ends_step ((holds_bind h).mono fun x hx => ?_)
      cases x with
      | go ks' σ' => exact evM_ok m false ks' σ' hx
      | done r => exact hx

/-! ### The machine is right -/
def QX (P : Program) (fn : Func) (post : AOut → List (Nat × List AV) → Prop) : Exit → AS → Prop
  | .ret, σ | .normal, σ => ∀ (F : Nat → Prop) (X : GW) (tm : Array Value), SimE F X σ tm → ∃ v u H', (results fn tm).run P X.w = .ok v X.w ∧ post (.ret u) H' ∧ SimE F X ⟨1, [(0, u)], H', []⟩ #[v]
  | .panic chain, σ => ∃ v, chain = [⟨v, false, false⟩] ∧ post (.pan v) σ.h
  | _, _ => False
theorem acalls_bodyX {P : Program} {fn : Func} {f : FuncId} {c : Code} {us : List AV} {H : List (Nat × List AV)} {post : AOut → List (Nat × List AV) → Prop} (hf : P.funcs[f]? = some fn) (hn : (fn.name == "runtime.NumGoroutine") = false) (hb : fn.body = some c) (hus : Nat.ble us.length fn.ntmps = true)
    (h : ARun P (QX P fn post) [.c c] ⟨fn.ntmps, slotsOf 0 us, H, []⟩) : ACalls P f us H post := by
  refine ⟨⟨fn, hf, hn, by rw [hb]; rfl⟩, fun F X vs hs => calls_of_wp hf hb ?_⟩
  have hle := Nat.le_of_ble_eq_true hus
  have h2 := h F X { tmps := vs ++ Array.replicate (fn.ntmps - vs.size) undef, defers := [] } (hs.enter hle) [] rfl
  refine wp_mono h2 fun e a' w' hp => ?_
  obtain ⟨p1, X', σ', p2, p3, p4, p5⟩ := hp
  subst p2
  have fin : QX P fn post .ret σ' → a'.defers = [] ∧ ∃ v, (results fn a'.tmps).run P X'.w = .ok v X'.w ∧ (∃ (X'' : GW) (out : AOut) (H' : List (Nat × List AV)), X''.w = X'.w ∧ post out H' ∧ EndOk F X'' (.returned v) out H' ∧ Ext F X X'') := by
    intro hq
    obtain ⟨v, u, H2, k1, k2, k3⟩ := hq F X' a'.tmps p4
    exact ⟨p1, v, k1, X', .ret u, H2, rfl, k2, ⟨v, rfl, k3⟩, p5⟩
  cases e with
  | normal => exact fin p3
  | ret => exact fin p3
  | panic chain =>
    obtain ⟨v, rfl, p3⟩ := p3
    exact ⟨p1, X', .pan v, σ'.h, rfl, p3, ⟨rfl, p4.panEnd⟩, p5⟩
  | exit id => exact p3.elim
  | goto l => exact p3.elim
  | outgrown => exact p3.elim
def KPost (E : Env) (ρ0 : Nat → Nat) (K : RL E.T → Prop) : AOut → List (Nat × List AV) → Prop := fun out H => ∃ r ρ, K r ∧ Agr ρ0 ρ ∧ match r with
  | .ret u h => out = .ret (u.to E.toEnc ρ) ∧ H = hTo E.toEnc ρ h ∧ Inj ρ h
  | .pan v => out = .pan v ∧ H = []
/-- The stack, as the abstract states' one. -/
def tr (Y : Tys P) (E : Env) (G : Gam E) (lv : Lvs) (rs : List ResultVar) (K : RL E.T → Prop) (ρ0 : Nat → Nat) (n : Nat) : List It2 → List It
  | [] => []
  | .c c :: ks => .c c :: tr Y E G lv rs K ρ0 n ks
  | .b id :: ks => .b id :: tr Y E G lv rs K ρ0 n ks
  | .l c :: ks => .l (fun σ' => ∃ m τ ρ, m < n ∧ (Agr ρ0 ρ ∧ Inj ρ τ.h) ∧ SubS σ' (τ.to E.toEnc ρ) ∧ Fin Y E G lv rs K m (.k c :: ks) τ) :: tr Y E G lv rs K ρ0 n ks
  | .r id ops draw :: ks => .c (.region id ops draw) :: tr Y E G lv rs K ρ0 n ks
  | .k c :: ks => .c (.loop c) :: tr Y E G lv rs K ρ0 n ks
/-- Stacks, of which the one asks for less. -/
inductive ItLe : List It → List It → Prop
  | nil : ItLe [] []
  | same (i : It) {ks ks' : List It} : ItLe ks ks' → ItLe (i :: ks) (i :: ks')
  | l {I J : AS → Prop} {ks ks' : List It} : (∀ σ, I σ → J σ) → ItLe ks ks' → ItLe (.l I :: ks) (.l J :: ks')
theorem ItLe.refl : ∀ ks, ItLe ks ks
  | [] => .nil
  | i :: ks => .same i (ItLe.refl ks)
theorem tr_le {ρ0 : Nat → Nat} {n m : Nat} (h : m ≤ n) : ∀ ks, ItLe (tr Y E G lv rs K ρ0 m ks) (tr Y E G lv rs K ρ0 n ks)
  | [] => .nil
  | .c c :: ks => .same _ (tr_le h ks)
  | .b id :: ks => .same _ (tr_le h ks)
  | .l c :: ks => .l (fun σ ⟨q, τ, ρ, h1, h2⟩ => ⟨q, τ, ρ, Nat.lt_of_lt_of_le h1 h, h2⟩) (tr_le h ks)
  | .r id ops draw :: ks => .same _ (tr_le h ks)
  | .k c :: ks => .same _ (tr_le h ks)
theorem stk_le {Q : Exit → AS → Prop} : ∀ {ks ks' : List It}, ItLe ks ks' → ∀ e σ, Stk P Q ks e σ → Stk P Q ks' e σ := by
  intro ks ks' h
  induction h with
  | nil => exact fun _ _ h => h
  | same i h ih =>
    intro e σ hs
    cases i with
    | c c =>
      cases e with
      | normal => exact Awp.mono hs (fun e σ => ih e σ)
      | _ => exact ih _ _ hs
    | b id =>
      cases e with
      | exit id' =>
        simp only [Stk] at hs ⊢
        split
        · rename_i e; rw [if_pos e] at hs; exact ih _ _ hs
        · rename_i e; rw [if_neg e] at hs; exact ih _ _ hs
      | _ => exact ih _ _ hs
    | l I =>
      cases e with
      | normal => exact hs
      | _ => exact ih _ _ hs
    | o l k r =>
      cases e with
      | normal => exact fun F X a hsim D hd => wpOps_mono' (fun e a w hp => hp.mono fun e σ => ih e σ) _ _ _ (hs F X a hsim D hd)
      | _ => exact ih _ _ hs
  | l hIJ h ih =>
    intro e σ hs
    cases e with
    | normal => exact hIJ σ hs
    | _ => exact ih _ _ hs
theorem run_le {Q : Exit → AS → Prop} {ks ks' : List It} {σ : AS} (h : ItLe ks ks') (hr : ARun P Q ks σ) : ARun P Q ks' σ := stk_le h _ _ hr
theorem stk_ret {Q : Exit → AS → Prop} {ρ0 : Nat → Nat} {n : Nat} : ∀ (ks : List It2) {σ : AS}, Q .ret σ → Stk P Q (tr Y E G lv rs K ρ0 n ks) .ret σ
  | [], σ, h => h
  | .c c :: ks, σ, h => stk_ret ks h
  | .b id :: ks, σ, h => stk_ret ks h
  | .l c :: ks, σ, h => stk_ret ks h
  | .r id ops draw :: ks, σ, h => stk_ret ks h
  | .k c :: ks, σ, h => stk_ret ks h
theorem stk_pan {Q : Exit → AS → Prop} {ρ0 : Nat → Nat} {n : Nat} {v : Value} : ∀ (ks : List It2), (∀ n, Q (.panic [⟨v, false, false⟩]) ⟨n, [], [], []⟩) → PanX P Q (tr Y E G lv rs K ρ0 n ks) v
  | [], h => h
  | .c c :: ks, h => stk_pan ks h
  | .b id :: ks, h => stk_pan ks h
  | .l c :: ks, h => stk_pan ks h
  | .r id ops draw :: ks, h => stk_pan ks h
  | .k c :: ks, h => stk_pan ks h
theorem stk_exit {Q : Exit → AS → Prop} {ρ0 : Nat → Nat} {n id : Nat} : ∀ (ks : List It2) {ks' : List It2} {σ : AS}, exitTo id ks = some ks' → ARun P Q (tr Y E G lv rs K ρ0 n ks') σ → Stk P Q (tr Y E G lv rs K ρ0 n ks) (.exit id) σ
  | [], _, _, h, _ => by cases h
  | .c c :: ks, _, _, h, hr => stk_exit ks h hr
  | .l c :: ks, _, _, h, hr => stk_exit ks h hr
  | .b j :: ks, ks', σ, h, hr => by
    simp only [exitTo] at h
    simp only [tr, Stk]
    split at h
    · rename_i e
      cases h
      rw [if_pos (beq_of e)]
      exact hr
    · rename_i e
      rw [if_neg (fun e2 => by subst e2; rw [Nat.beq_refl] at e; cases e)]
      exact stk_exit ks h hr
  | .r _ _ _ :: _, _, _, h, _ => by cases h
  | .k _ :: _, _, _, h, _ => by cases h
theorem tcOf_to {ρ : Nat → Nat} {u : TV E.T} {x : TC E.T} (h : tcOf u = some x) : x.to E.toEnc ρ = (u.to E.toEnc ρ).rd := by
  unfold tcOf at h
  split at h
  · rename_i a
    split at h
    · rename_i y hy
      cases h
      have := nrm_to E.toEnc ρ (.a a.rd : TV E.T)
      rw [hy] at this
      exact this.trans (TA.rd_to _ _ _)
    · cases h
  · cases h; rfl
  · cases h
theorem packV_le (i : Nat) (u : TV E.T) (ρ : Nat → Nat) : LeV (u.to E.toEnc ρ) ((packV E i u).to E.toEnc ρ) := by
  unfold packV
  split
  · split
    · rename_i l _ z hz
      have h := E.pk_to i _ z [] ρ hz
      simp only [List.map_nil, List.append_nil] at h
      refine .inr ⟨fun X v hv => ?_, rfl⟩
      have e : (TV.ag (E.unp i z) : TV E.T).to E.toEnc ρ = .ag (E.enc i z) := by
        show AV.ag ((E.unp i z).map _) = _
        rw [E.unp_to]
      rw [e]
      exact rel_ag_le hv ((map_rd_le (ρ := ρ) l).trans h)
    · exact .inl (.refl _)
  · exact .inl (.refl _)
theorem look_packS (ps : List (Nat × Nat)) (ρ : Nat → Nat) : ∀ (t : List (Nat × TV E.T)) (k : Nat) (u' : AV), look (tTo E.toEnc ρ (packS E ps t)) k = some u' → ∃ u, look (tTo E.toEnc ρ t) k = some u ∧ LeV u u'
  | [], k, u', h => by cases h
  | (j, u) :: r, k, u', h => by
    simp only [packS, tTo, List.map_cons, look_cons] at h ⊢
    split at h
    · rename_i e
      rw [if_pos e]
      cases h
      refine ⟨_, rfl, ?_⟩
      split
      · exact packV_le _ u ρ
      · exact .inl (.refl _)
    · rename_i e
      rw [if_neg e]
      exact look_packS ps ρ r k u' h
theorem weakA_le (ws : List Nat) (ρ : Nat → Nat) : ∀ (i : Nat) (l : List (TA E.T)), LeL (l.map (TA.to E.toEnc ρ)) ((weakA ws i l).map (TA.to E.toEnc ρ))
  | _, [] => .nil
  | i, x :: r => by
    have hn : ∀ y : TA E.T, (nrmA y).to E.toEnc ρ = y.to E.toEnc ρ := fun y => by cases y <;> rfl
    simp only [weakA, List.map_cons]
    refine .cons ?_ (weakA_le ws ρ (i + 1) r)
    split
    · rw [hn, TA.rd_to]; exact le1_rd _
    · rw [hn]; exact .refl _
theorem packB_le (m : Option Nat × List Nat) (b : TB E.T) (ρ : Nat → Nat) : LeL (b.to E.toEnc ρ) ((packTB E m b).to E.toEnc ρ) := by
  unfold packTB
  split
  · rename_i l
    split
    · rename_i i ws
      split
      · rename_i z hz
        have h := E.pk_to i _ z [] ρ hz
        simp only [List.map_nil, List.append_nil] at h
        show LeL (l.map _) ((E.unp i z).map _)
        rw [E.unp_to]
        exact (map_rd_le (ρ := ρ) l).trans h
      · exact LeL.refl _
    · exact weakA_le _ ρ 0 l
  · exact LeL.refl _
theorem packH_ids (ms : List (Nat × (Option Nat × List Nat))) : ∀ (h : List (Nat × TB E.T)), ∀ p ∈ packH E ms h, ∃ q ∈ h, q.1 = p.1
  | [], p, hp => by cases hp
  | (j, b) :: r, p, hp => by
    rcases List.mem_cons.1 hp with rfl | hp
    · exact ⟨_, List.mem_cons_self, rfl⟩
    · obtain ⟨q, h1, h2⟩ := packH_ids ms r p hp
      exact ⟨q, List.mem_cons_of_mem _ h1, h2⟩
theorem look_packH (ms : List (Nat × (Option Nat × List Nat))) (ρ : Nat → Nat) : ∀ (h : List (Nat × TB E.T)) (k : Nat) (cs' : List AV), look (hTo E.toEnc ρ (packH E ms h)) k = some cs' → ∃ cs, look (hTo E.toEnc ρ h) k = some cs ∧ LeL cs cs'
  | [], k, u', h => by cases h
  | (j, b) :: r, k, cs', h => by
    simp only [packH, hTo, List.map_cons, look_cons] at h ⊢
    split at h
    · rename_i e
      rw [if_pos e]
      cases h
      refine ⟨_, rfl, ?_⟩
      split
      · exact packB_le _ b ρ
      · exact LeL.refl _
    · rename_i e
      rw [if_neg e]
      exact look_packH ms ρ r k cs' h
theorem pack_sub (σ : TS E.T) (k : Kp) : SubT E.toEnc σ (σ.pack E k) := fun ρ hi => by
  refine ⟨hi.sub (packH_ids k.h σ.h), fun F X tm hs => ?_⟩
  exact hs.le3 rfl (fun t u' hu => look_packS k.p ρ σ.t t u' hu) (fun q cs' hq => look_packH k.h ρ σ.h q cs' hq) (fun p hp => hp)
theorem nrmA_to (y : TA E.T) (ρ : Nat → Nat) : (nrmA y).to E.toEnc ρ = y.to E.toEnc ρ := by cases y <;> rfl
theorem tvOf_to (x : TC E.T) (ρ : Nat → Nat) : (tvOf x).to E.toEnc ρ = x.to E.toEnc ρ := by cases x <;> rfl
theorem resC_to {ρ : Nat → Nat} {σ : TS E.T} (hi : Inj ρ σ.h) {r : ResultVar} {x : TC E.T} (h : resC Y σ r = some x) : resC1 Y (tTo E.toEnc ρ σ.t) (hTo E.toEnc ρ σ.h) r = some (x.to E.toEnc ρ) := by
  unfold resC at h
  split at h
  · split at h
    · rename_i u hu
      simp only [resC1, look_tTo, hu, Option.map_some, tcOf_to h]
    · cases h
  · split at h
    · rename_i s ty _ k hs
      have hs' : look (tTo E.toEnc ρ σ.t) s = some (.v (.pointer (some ⟨ρ k, 0, none⟩))) := by simp only [look_tTo, hs, Option.map_some]; rfl
      split at h
      · rename_i cs fs hh hy
        have hh' : look (hTo E.toEnc ρ σ.h) (ρ k) = some (cs.map (TA.to E.toEnc ρ)) := look_hTo E.toEnc hi hh
        split at h
        · rename_i n b hz
          split at h
          · rename_i hn
            cases h
            rw [resC1_struct hs' hh' hy hz (by simpa using hn) (notMpB cs)]
            simp only [TC.to, List.map_map]
            exact congrArg (fun l => some (AV.ag l)) (List.map_congr_left fun y _ => (TA.rd_to _ _ y).symm)
          · cases h
        · cases h
      · rename_i c d hno hh hy
        have hh' : look (hTo E.toEnc ρ σ.h) (ρ k) = some [c.to E.toEnc ρ] := look_hTo E.toEnc hi hh
        split at h
        · rename_i h1
          cases h
          rw [resC1_one hs' hh' hy h1 (TA.to_notMp _ _ c)]
          simp only [TC.to, nrmA_to, TA.rd_to]
        · cases h
      · cases h
    · cases h
theorem resT_run {own : Bool} {fn : Func} {ρ : Nat → Nat} {σ : TS E.T} {u : TV E.T} (hrs : fn.results.toList = rs) (hi : Inj ρ σ.h) (h : resT Y own rs σ = some u) (F : Nat → Prop) (X : GW) (tm : Array Value) (hs : SimE F X (σ.to E.toEnc ρ) tm) {H2 : List (Nat × List AV)} (hH : ∀ k cs, look H2 k = some cs → look (σ.to E.toEnc ρ).h k = some cs) : ∃ v, (results fn tm).run P X.w = .ok v X.w ∧ SimE F X ⟨1, [(0, u.to E.toEnc ρ)], H2, []⟩ #[v] := by
  have cells : resCA Y (tTo E.toEnc ρ σ.t) (hTo E.toEnc ρ σ.h) rs = some (u.to E.toEnc ρ) → ∃ v, (results fn tm).run P X.w = .ok v X.w ∧ SimE F X ⟨1, [(0, u.to E.toEnc ρ)], H2, []⟩ #[v] := fun hc => by
    obtain ⟨k0, v, k1, k2⟩ := resCA_ok (F := F) (tm := tm) (fn := fn) hs.slot hs.box (hrs ▸ hc)
    exact ⟨v, k1, hs.retEnd hH k2 k0⟩
  unfold resT at h
  split at h
  · rename_i t
    split at h
    · rename_i u0 hu
      cases h
      have hr : resA fn.results.toList (σ.to E.toEnc ρ) = some (u0.to E.toEnc ρ) := by rw [hrs]; simp only [resA, TS.to, look_tTo, hu, Option.map_some]
      obtain ⟨v, k1, k2⟩ := resA_ok (P := P) (fn := fn) hs hr
      refine ⟨v, k1, k2.le2 rfl (fun s u' hu' => ?_) (fun q cs' hq => ⟨cs', hH q cs' hq, LeL.refl _⟩) (fun p hp => by cases hp)⟩
      simp only [look_cons] at hu'
      split at hu'
      · rename_i e; subst e; cases hu'
        refine ⟨_, look_hd, ?_⟩
        cases own with
        | true => simp only [Bool.not_true, weakV, nrm_to]; exact .refl _
        | false => simp only [Bool.not_false, weakV, nrm_to, TV.rd_to]; exact le1_rd _
      · cases hu'
    · cases h
  · split at h
    · rename_i x hx
      cases h
      refine cells ?_
      rw [tvOf_to]
      exact resC_to hi hx
    · cases h
  · split at h
    · rename_i x x' hx hx'
      cases h
      exact cells (by simp only [resCA, resC_to hi hx, resC_to hi hx']; rfl)
    · cases h
  · split at h
    · rename_i x x' x'' hx hx' hx''
      cases h
      exact cells (by simp only [resCA, resC_to hi hx, resC_to hi hx', resC_to hi hx'']; rfl)
    · cases h
  · cases h; exact cells rfl
  · cases h
theorem keepHH_mem {T : Nat → Type} {h : List (Nat × TB T)} : ∀ {ids : List Nat}, ∀ p ∈ keepHH h ids, ∃ q ∈ h, q.1 = p.1
  | [], p, hp => by cases hp
  | k :: ks, p, hp => by
    simp only [keepHH] at hp
    split at hp
    · rename_i b hb
      rcases List.mem_cons.1 hp with rfl | hp
      · exact ⟨_, look_mem hb, rfl⟩
      · exact keepHH_mem p hp
    · exact keepHH_mem p hp
theorem fin_ok {fn : Func} (hrs : fn.results.toList = rs) {ρ0 ρ : Nat → Nat} (ha : Agr ρ0 ρ) {σ : TS E.T} (hi : Inj ρ σ.h) {e : Exit} (he : e = .ret ∨ e = .normal) {F : List It2 → TS E.T → Prop} (h : (finT Y E lv rs σ).holds (finL F K)) : QX P fn (KPost E ρ0 K) e (σ.to E.toEnc ρ) := by
  unfold finT at h
  split at h
  · rename_i u hu
    obtain ⟨k1, k2⟩ := pack_sub σ ⟨[], lv.p, lv.ph⟩ ρ hi
    have : ∀ (F : Nat → Prop) (X : GW) (tm : Array Value), SimE F X (σ.to E.toEnc ρ) tm → ∃ v u H', (results fn tm).run P X.w = .ok v X.w ∧ KPost E ρ0 K (.ret u) H' ∧ SimE F X ⟨1, [(0, u)], H', []⟩ #[v] := fun F X tm hs => by
      obtain ⟨v, k3, k4⟩ := resT_run (Y := Y) hrs k1 hu F X tm (k2 F X tm hs) (H2 := hTo E.toEnc ρ (keepHH (σ.pack E ⟨[], lv.p, lv.ph⟩).h lv.kb)) (keep_sub k1 _)
      exact ⟨v, _, _, k3, ⟨_, ρ, h, ha, rfl, rfl, k1.sub keepHH_mem⟩, k4⟩
    rcases he with rfl | rfl
    · exact this
    · exact this
  · cases h
theorem canonAt_sub (lvl : List (Nat × Kp)) (id : Nat) (σ : TS E.T) : SubT E.toEnc σ (canonAt E lvl id σ) := by
  unfold canonAt
  split
  · exact (canon_sub σ _ _).trans (pack_sub _ _)
  · exact SubT.refl σ
theorem fin_run {fn : Func} {ρ0 : Nat → Nat} (hrs : fn.results.toList = rs) (hm : P.follows .mixedOrders = true) (hG : GOk P Y E G) : ∀ (n : Nat) (ks : List It2) (σ : TS E.T) (ρ : Nat → Nat), Agr ρ0 ρ → Inj ρ σ.h → Fin Y E G lv rs K n ks σ → ARun P (QX P fn (KPost E ρ0 K)) (tr Y E G lv rs K ρ0 n ks) (σ.to E.toEnc ρ) := by
  intro n
  induction n using Nat.strongRecOn with
  | _ n ih =>
    intro ks σ ρ ha hi h
    cases n with
    | zero => cases h
    | succ n =>
      have up : ∀ {ks : List It2} {σ : TS E.T} {ρ : Nat → Nat}, Agr ρ0 ρ → Inj ρ σ.h → Fin Y E G lv rs K n ks σ → ARun P (QX P fn (KPost E ρ0 K)) (tr Y E G lv rs K ρ0 (n + 1) ks) (σ.to E.toEnc ρ) := fun ha hi h => run_le (tr_le (Nat.le_succ n) _) (ih n (Nat.lt_succ_self n) _ _ _ ha hi h)
      cases ks with
      | nil => exact fin_ok hrs ha (F := Fin Y E G lv rs K n) hi (.inr rfl) h
      | cons it ks =>
        cases it with
        | b id => exact ar_blk (up (ks := ks) ha hi h)
        | l c =>
          have h' : Fin Y E G lv rs K n (.k c :: ks) (canonAt E lv.l (loopKey c) σ) := h
          obtain ⟨k1, k2⟩ := canonAt_sub lv.l (loopKey c) σ ρ hi
          exact ⟨n, _, ρ, Nat.lt_succ_self n, ⟨ha, k1⟩, k2, h'⟩
        | k c =>
          refine ar_loopS (fun y : Nat × TS E.T × (Nat → Nat) => y.2.1.to E.toEnc y.2.2) (fun y => (Agr ρ0 y.2.2 ∧ Inj y.2.2 y.2.1.h) ∧ Fin Y E G lv rs K y.1 (.k c :: ks) y.2.1 ∧ y.1 ≤ n + 1) (fun y => y.1) (n + 1, σ, ρ) (fun _ _ _ h => h) ⟨⟨ha, hi⟩, h, Nat.le_refl _⟩ ?_
          rintro ⟨m, τ, ρ'⟩ ⟨⟨ha', hi'⟩, hf, hle⟩
          cases m with
          | zero => cases hf
          | succ m =>
            have hf' : Fin Y E G lv rs K m (.c c :: .l c :: ks) τ := hf
            have hr := ih m (by simp only at hle; omega) _ τ ρ' ha' hi' hf'
            refine run_le (.same _ (.l ?_ (tr_le (by simp only at hle; omega) ks))) hr
            rintro σ' ⟨q, τ', ρ'', h1, h2, h3, h4⟩
            exact ⟨(q, τ', ρ''), h3, ⟨h2, h4, by simp only at hle ⊢; omega⟩, by simp only; omega⟩
        | r id ops draw =>
          refine evR_ok (Y := Y) hm hG hi ?_
          have h' : ((evR Y E G ops.toList draw σ).bind fun
            | .st σ' => Tree.leaf (Lf.go ks σ')
            | .pan v => .leaf (.done (.pan v))).holds (finL (Fin Y E G lv rs K n) K) := h
          refine (holds_bind h').mono fun x hx => ?_
          cases x with
          | st σ' => exact fun ρ' hi' ha' => up (ha.trans ha') hi' hx
          | pan v => exact stk_pan ks fun n => ⟨v, rfl, ⟨.pan v, ρ0, hx, Agr.refl ρ0, rfl, rfl⟩⟩
        | c c =>
          cases c with
          | skip => exact ar_skip (up (ks := ks) ha hi h)
          | label q => exact ar_label (up (ks := ks) ha hi h)
          | seq a b => exact ar_seq (up (ks := .c a :: .c b :: ks) ha hi h)
          | block id c => exact ar_block (up (ks := .c c :: .b id :: ks) ha hi h)
          | loop c =>
            have h' : Fin Y E G lv rs K n (.l c :: ks) σ := h
            cases n with
            | zero => cases h'
            | succ n' =>
              have h2 : Fin Y E G lv rs K n' (.k c :: ks) (canonAt E lv.l (loopKey c) σ) := h'
              obtain ⟨k1, k2⟩ := canonAt_sub lv.l (loopKey c) σ ρ hi
              refine ar_subS k2 ?_
              exact run_le (tr_le (by omega) (.k c :: ks)) (ih n' (by omega) (.k c :: ks) _ ρ ha k1 h2)
          | cond x a b =>
            cases x with
            | tmp t =>
              have h' : (match look σ.t t with
                | some (.a .tt) => Tree.leaf (Lf.go (.c a :: ks) σ)
                | some (.a .ff) => .leaf (.go (.c b :: ks) σ)
                | some (.a (.d .bool v)) => .cond v (.leaf (.go (.c a :: ks) (σ.know t .tt))) (.leaf (.go (.c b :: ks) (σ.know t .ff)))
                | _ => .fail).holds (finL (Fin Y E G lv rs K n) K) := h
              split at h'
              · rename_i hl
                exact ar_cond_true (b := true) (by simp only [TS.to, look_tTo, hl]; rfl) rfl (up (ks := .c a :: ks) ha hi h')
              · rename_i hl
                exact ar_cond_false (b := false) (by simp only [TS.to, look_tTo, hl]; rfl) rfl (up (ks := .c b :: ks) ha hi h')
              · rename_i v hl
                cases hv : v with
                | true => exact ar_cond_true (b := v) (by simp only [TS.to, look_tTo, hl]; rfl) hv (ar_subS (know_sub (x := .tt) (b := v) (by rw [hv]; rfl) hl) (up (ks := .c a :: ks) (σ := σ.know t .tt) ha hi (h'.1 hv)))
                | false => exact ar_cond_false (b := v) (by simp only [TS.to, look_tTo, hl]; rfl) hv (ar_subS (know_sub (x := .ff) (b := v) (by rw [hv]; rfl) hl) (up (ks := .c b :: ks) (σ := σ.know t .ff) ha hi (h'.2 hv)))
              · cases h'
            | _ => cases h
          | exit id =>
            have h' : (match exitTo id ks with
              | some ks' => Tree.leaf (Lf.go ks' σ)
              | none => .fail).holds (finL (Fin Y E G lv rs K n) K) := h
            split at h'
            · rename_i ks' hks
              exact ar_exit (stk_exit ks hks (up ha hi h'))
            · cases h'
          | ret =>
            exact ar_ret (stk_ret ks (fin_ok hrs ha (F := Fin Y E G lv rs K n) hi (.inl rfl) h))
          | region id ops draw =>
            obtain ⟨k1, k2⟩ := canonAt_sub lv.r id σ ρ hi
            refine ar_subS k2 ?_
            exact up (ks := .r id ops draw :: ks) ha k1 h
          | _ => cases h
/-- The state in which a function begins. -/
def slotsT {T : Nat → Type} : Nat → List (TV T) → List (Nat × TV T)
  | _, [] => []
  | k, u :: us => (k, u) :: slotsT (k + 1) us
theorem slotsT_to {ρ : Nat → Nat} : ∀ (us : List (TV E.T)) (k : Nat), tTo E.toEnc ρ (slotsT k us) = slotsOf k (us.map (TV.to E.toEnc ρ))
  | [], _ => rfl
  | u :: us, k => by simp only [slotsT, tTo, List.map_cons, slotsOf]; exact congrArg _ (slotsT_to us (k + 1))
/-- A function's contract. -/
theorem fn_okH {f : FuncId} {fn : Func} (c : Code) (n : Nat) (hm : P.follows .mixedOrders = true) (hG : GOk P Y E G) (hf : P.funcs[f]? = some fn) (hn : (fn.name == "runtime.NumGoroutine") = false) (hb : fn.body = some c) (hnt : fn.ntmps = n) (hrs : fn.results.toList = rs) {us : List (TV E.T)} (hus : Nat.ble us.length n = true) {h0 : List (Nat × TB E.T)}
    (h : Ends Y E G lv rs K [.c c] ⟨n, slotsT 0 us, h0, []⟩) (ρ : Nat → Nat) (hi : Inj ρ h0) : ACalls P f (us.map (TV.to E.toEnc ρ)) (hTo E.toEnc ρ h0) (KPost E ρ K) := by
  subst hnt
  refine acalls_bodyX hf hn hb (by simpa using hus) ?_
  obtain ⟨m, hm'⟩ := h
  have hr := fin_run hrs hm hG m _ _ ρ (Agr.refl ρ) hi hm'
  have hst : (TS.to E.toEnc ρ (⟨fn.ntmps, slotsT 0 us, h0, []⟩ : TS E.T)) = ⟨fn.ntmps, slotsOf 0 (us.map (TV.to E.toEnc ρ)), hTo E.toEnc ρ h0, []⟩ := by
    simp only [TS.to, slotsT_to]; rfl
  rw [hst] at hr
  exact hr
theorem fn_ok {f : FuncId} {fn : Func} (c : Code) (n : Nat) (hm : P.follows .mixedOrders = true) (hG : GOk P Y E G) (hf : P.funcs[f]? = some fn) (hn : (fn.name == "runtime.NumGoroutine") = false) (hb : fn.body = some c) (hnt : fn.ntmps = n) (hrs : fn.results.toList = rs) {us : List (TV E.T)} (hus : Nat.ble us.length n = true)
    (h : Ends Y E G lv rs K [.c c] ⟨n, slotsT 0 us, [], []⟩) (ρ : Nat → Nat) : ACalls P f (us.map (TV.to E.toEnc ρ)) [] (KPost E ρ K) :=
  fn_okH c n hm hG hf hn hb hnt hrs hus h ρ (fun p hp => by cases hp)
/-- A result that names no boxes. -/
theorem KPost.ret {ρ : Nat → Nat} {u : TV E.T} (hu : (u.ids big) = true) {out : AOut} {H : List (Nat × List AV)} (h : KPost E ρ (fun r => r = .ret u []) out H) : out = .ret (u.to E.toEnc ρ) ∧ H = [] := by
  obtain ⟨r, ρ', rfl, ha, h1, h2, _⟩ := h
  exact ⟨by rw [h1, TV.ids_to ha hu], h2⟩
theorem KPost.retH {ρ : Nat → Nat} {u : TV E.T} {hh : List (Nat × TB E.T)} (hu : (u.ids big) = true) (hb : hIds big hh = true) {out : AOut} {H : List (Nat × List AV)} (h : KPost E ρ (fun r => r = .ret u hh) out H) : out = .ret (u.to E.toEnc ρ) ∧ H = hTo E.toEnc ρ hh := by
  obtain ⟨r, ρ', rfl, ha, h1, h2, _⟩ := h
  exact ⟨by rw [h1, TV.ids_to ha hu], by rw [h2, hIds_to ha hb]⟩
/-! ### Pieces -/
/-- Where a region stands, what is left behind it. -/
def findR (id : Nat) : Code → List It2 → Option (List It2)
  | .region j ops draw, ks => match Nat.beq id j with
    | true => some (.r j ops draw :: ks)
    | false => none
  | .seq a b, ks => match findR id a (.c b :: ks) with
    | some x => some x
    | none => findR id b ks
  | .cond _ a b, ks => match findR id a ks with
    | some x => some x
    | none => findR id b ks
  | .block i c, ks => findR id c (.b i :: ks)
  | .loop c, ks => findR id c (.l c :: ks)
  | _, _ => none
def findL (key : Nat) : Code → List It2 → Option (List It2)
  | .seq a b, ks => match findL key a (.c b :: ks) with
    | some x => some x
    | none => findL key b ks
  | .cond _ a b, ks => match findL key a ks with
    | some x => some x
    | none => findL key b ks
  | .block i c, ks => findL key c (.b i :: ks)
  | .loop c, ks => match Nat.beq key (loopKey c) with
    | true => some (.k c :: ks)
    | false => findL key c (.l c :: ks)
  | _, _ => none
def atR (id : Nat) (c : Code) : List It2 := (findR id c []).getD []
def atL (key : Nat) (c : Code) : List It2 := (findL key c []).getD []
def Tree.map1 {L R : Type} : Tree (L × Option R) → Tree L
  | .leaf x => .leaf x.1
  | .cond b t f => .cond b t.map1 f.map1
  | .bnd o k => .bnd o fun z => (k z).map1
  | .sm x k p => .sm x (fun z => (k z).map1) fun v => (p v).map1
  | .nl l t f => .nl l t.map1 f.map1
  | .fail => .fail
def Tree.run {L R : Type} : Tree (L × Option R) → Option R
  | .leaf x => x.2
  | .cond b t f => bif b then t.run else f.run
  | .bnd o k => o.bind fun z => (k z).run
  | .sm x k p => match x with
    | .ok z => (k z).run
    | .pan v => (p v).run
  | .nl _ _ f => f.run
  | .fail => none
def Tree.all {L R : Type} (K : L × Option R → Prop) : Tree (L × Option R) → Prop
  | .leaf x => K x
  | .cond _ t f => t.all K ∧ f.all K
  | .bnd _ k => ∀ z, (k z).all K
  | .sm _ k p => (∀ z, (k z).all K) ∧ ∀ v, (p v).all K
  | .nl l t f => (l = [] → t.run = f.run) ∧ t.all K ∧ f.all K
  | .fail => True
theorem tree_holds {L R : Type} {K : L → Prop} {r : R} : ∀ {t : Tree (L × Option R)}, t.run = some r → t.all (fun p => p.2 = some r → K p.1) → t.map1.holds K
  | .leaf x, h, ha => ha h
  | .cond true t f, h, ha => ⟨fun _ => tree_holds h ha.1, fun e => by cases e⟩
  | .cond false t f, h, ha => ⟨(fun e => by cases e), fun _ => tree_holds h ha.2⟩
  | .bnd none k, h, ha => by cases h
  | .bnd (some z) k, h, ha => ⟨z, rfl, tree_holds h (ha z)⟩
  | .nl l t f, h, ha => ⟨fun e => tree_holds ((ha.1 e).trans h) ha.2.1, tree_holds h ha.2.2⟩
  | .sm (.ok z) k p, h, ha => ⟨(fun z' e => by cases e; exact tree_holds h (ha.1 z)), fun v e => by cases e⟩
  | .sm (.pan v) k p, h, ha => ⟨(fun z' e => by cases e), fun v' e => by cases e; exact tree_holds h (ha.2 v)⟩
  | .fail, h, ha => by cases h
theorem tree_use {R : Type} {r : R} {g : Option R} {m : Nat} {ks : List It2} {σ : TS E.T} {t : Tree (Lf E.T × Option R)} (hev : evM Y E G lv rs m true ks σ = t.map1) (hrun : g = t.run) (hg : g = some r) (ha : t.all (fun p => p.2 = some r → LfOk Y E G lv rs K p.1)) : Ends Y E G lv rs K ks σ :=
  evM_ok m true ks σ (by rw [hev]; exact tree_holds (hrun ▸ hg) ha)
theorem retp {R : Type} {enc : R → RL E.T} {r r' : R} {u : RL E.T} (e : u = enc r') (h : some r' = some r) : u = enc r := by cases h; exact e
end
/-- A function's code. -/
def bodyOf : Nat → Func → Code
  | 0, fn => match fn.body with
    | some c => c
    | none => .skip
  | n + 1, fn => bodyOf n fn
/-- Arguments, read. -/
def argD {T : Nat → Type} (t : Ty) : TV T → Option (Den T t)
  | .a x => asD t x
  | _ => none
def argS (E : Env) (i : Nat) : TV E.T → Option (E.T i)
  | .ag l => match E.pk i l with
    | some (z, []) => some z
    | _ => none
  | _ => none
theorem argD_le {E : Env} {t : Ty} {u : TV E.T} {x : Den E.T t} (h : argD t u = some x) (ρ : Nat → Nat) : LeV (u.to E.toEnc ρ) ((TV.a (.d t x) : TV E.T).to E.toEnc ρ) := by
  unfold argD at h
  split at h
  · rename_i a
    have := asD_to E.toEnc ρ h
    rw [TA.rd_to] at this
    exact .inl ((le1_rd _).trans this)
  · cases h
theorem argS_le {E : Env} {i : Nat} {u : TV E.T} {z : E.T i} (h : argS E i u = some z) (ρ : Nat → Nat) : LeV (u.to E.toEnc ρ) ((TV.ag (E.unp i z) : TV E.T).to E.toEnc ρ) := by
  unfold argS at h
  split at h
  · rename_i l
    split at h
    · rename_i z' hz
      cases h
      have := packV_le (E := E) i (.ag l) ρ
      unfold packV at this
      simp only [hz] at this
      exact this
    · cases h
  · cases h
theorem acalls_args {P : Program} {E : Env} {f : FuncId} {us us' : List (TV E.T)} {ρ : Nat → Nat} {post : AOut → List (Nat × List AV) → Prop} (h : ACalls P f (us'.map (TV.to E.toEnc ρ)) [] post) (hl : us.length = us'.length) (hr : ∀ (i : Nat) u u', us[i]? = some u → us'[i]? = some u' → LeV (u.to E.toEnc ρ) (u'.to E.toEnc ρ)) : ACalls P f (us.map (TV.to E.toEnc ρ)) [] post :=
  h.args (by simpa using hl) fun i u u' hu hu' => by
    simp only [List.getElem?_map, Option.map_eq_some_iff] at hu hu'
    obtain ⟨v, hv, rfl⟩ := hu
    obtain ⟨v', hv', rfl⟩ := hu'
    exact hr i v v' hv hv'
/-- The same, argument by argument. -/
def ArgsLe (E : Env) (ρ : Nat → Nat) : List (TV E.T) → List (TV E.T) → Prop
  | [], [] => True
  | u :: us, u' :: us' => LeV (u.to E.toEnc ρ) (u'.to E.toEnc ρ) ∧ ArgsLe E ρ us us'
  | _, _ => False
theorem ArgsLe.get {E : Env} {ρ : Nat → Nat} : ∀ {us us' : List (TV E.T)}, ArgsLe E ρ us us' → us.length = us'.length ∧ ∀ (i : Nat) u u', us[i]? = some u → us'[i]? = some u' → LeV (u.to E.toEnc ρ) (u'.to E.toEnc ρ)
  | [], [], _ => ⟨rfl, fun i u u' h => by simp at h⟩
  | u :: us, u' :: us', h => by
    obtain ⟨h1, h2⟩ := ArgsLe.get h.2
    refine ⟨by simp [h1], fun i v v' hv hv' => ?_⟩
    cases i with
    | zero => simp at hv hv'; subst hv hv'; exact h.1
    | succ i => exact h2 i v v' (by simpa using hv) (by simpa using hv')
  | [], _ :: _, h => h.elim
  | _ :: _, [], h => h.elim
theorem acalls_le {P : Program} {E : Env} {f : FuncId} {us us' : List (TV E.T)} {ρ : Nat → Nat} {post : AOut → List (Nat × List AV) → Prop} (hr : ArgsLe E ρ us us') (h : ACalls P f (us'.map (TV.to E.toEnc ρ)) [] post) : ACalls P f (us.map (TV.to E.toEnc ρ)) [] post := acalls_args h hr.get.1 hr.get.2
abbrev w64 (n : Int) : Int := IntKind.wrap .i64 n
abbrev b2i (b : UInt8) : Int := ((UInt8.toNat b : Nat) : Int)
end Go.Proofs.YtgmlkhfjhogdbaaGreat

/- Typed abstract values: callees that are handed boxes, or that may panic. -/
namespace Go.Proofs.YtgmlkhfjhogdbaaGreat
open Go.RowKit P
set_option linter.unusedSimpArgs false
set_option linter.unusedVariables false

/-- Names of boxes, as the callee calls them. -/
def nthB : List Nat → Nat → Nat → Nat
  | [], _, _ => 0
  | i :: r, k, j => match Nat.beq j k with
    | true => i
    | false => nthB r (k + 1) j
theorem nthB_get : ∀ {ids : List Nat} {k j : Nat}, k ≤ j → (h : j - k < ids.length) → nthB ids k j = ids[j - k]
  | [], _, _, _, h => by simp at h
  | i :: r, k, j, hk, h => by
    simp only [nthB]
    split
    · rename_i e
      have := Nat.eq_of_beq_eq_true e
      subst this
      simp
    · rename_i e
      have hne : j ≠ k := fun e2 => by subst e2; rw [Nat.beq_refl] at e; cases e
      have h1 : k + 1 ≤ j := by omega
      simp only [List.length_cons] at h
      rw [nthB_get h1 (by omega)]
      have e2 : j - k = (j - (k + 1)) + 1 := by omega
      simp only [e2, List.getElem_cons_succ]
/-- (no subtraction here: a kernel that meets it at a name that it does not know counts to 100000) -/
def rhoS (ρ : Nat → Nat) (ids : List Nat) : Nat → Nat := fun j => ρ (nthB ids 100000 j)
/-- The arguments are read as is told. -/
def AL {E : Env} (us : List (TV E.T)) (ρ ρ' : Nat → Nat) : Nat → List (TV E.T) → Prop
  | k, [] => us.length = k
  | k, u' :: r => (∀ u, us[k]? = some u → LeV (u.to E.toEnc ρ) (u'.to E.toEnc ρ')) ∧ AL us ρ ρ' (k + 1) r
theorem AL.get {E : Env} {us : List (TV E.T)} {ρ ρ' : Nat → Nat} : ∀ {us' : List (TV E.T)} {k : Nat}, AL us ρ ρ' k us' → us.length = k + us'.length ∧ ∀ (i : Nat) u u', us[k + i]? = some u → us'[i]? = some u' → LeV (u.to E.toEnc ρ) (u'.to E.toEnc ρ')
  | [], k, h => ⟨h, fun i u u' _ h' => by simp at h'⟩
  | v :: r, k, h => by
    obtain ⟨h1, h2⟩ := AL.get (us' := r) h.2
    refine ⟨by simp only [List.length_cons]; omega, fun i u u' hu hu' => ?_⟩
    cases i with
    | zero => simp at hu'; subst hu'; exact h.1 u hu
    | succ i => exact h2 i u u' (by rw [show k + 1 + i = k + (i + 1) by omega]; exact hu) (by simpa using hu')
/-- The boxes are read as is told. -/
def BL {E : Env} (hs : List (Nat × TB E.T)) (ρ ρ' : Nat → Nat) : List Nat → List (Nat × TB E.T) → Prop
  | [], [] => True
  | i :: is, q :: r => ρ' q.1 = ρ i ∧ (∃ b, look hs i = some b ∧ LeL (b.to E.toEnc ρ) (q.2.to E.toEnc ρ')) ∧ BL hs ρ ρ' is r
  | _, _ => False
theorem BL.look {E : Env} {hs : List (Nat × TB E.T)} {ρ ρ' : Nat → Nat} : ∀ {ids : List Nat} {h0 : List (Nat × TB E.T)}, BL hs ρ ρ' ids h0 → ∀ k cs', look (hTo E.toEnc ρ' h0) k = some cs' → ∃ cs, Go.Proofs.YtgmlkhfjhogdbaaGreat.look (hTo E.toEnc ρ (keepHH hs ids)) k = some cs ∧ LeL cs cs'
  | [], [], _, k, cs', h => by cases h
  | i :: is, q :: r, h, k, cs', hk => by
    obtain ⟨h1, ⟨b, h2, h3⟩, h4⟩ := h
    simp only [hTo, List.map_cons, look_cons] at hk
    simp only [keepHH, h2, hTo, List.map_cons, look_cons]
    rw [h1] at hk
    split at hk
    · rename_i e
      rw [if_pos e]
      cases hk
      exact ⟨_, rfl, h3⟩
    · rename_i e
      rw [if_neg e]
      exact BL.look h4 k cs' hk
  | [], _ :: _, h, _, _, _ => h.elim
  | _ :: _, [], h, _, _, _ => h.elim
theorem xcall {P : Program} {E : Env} {f : FuncId} {us us' : List (TV E.T)} {hs h0 : List (Nat × TB E.T)} {ids : List Nat} {ρ ρ' : Nat → Nat} {post post' : AOut → List (Nat × List AV) → Prop} (ha : AL us ρ ρ' 0 us') (hb : BL hs ρ ρ' ids h0) (hc : ACalls P f (us'.map (TV.to E.toEnc ρ')) (hTo E.toEnc ρ' h0) post) (hp : ∀ out H, post out H → post' out H) : ACalls P f (us.map (TV.to E.toEnc ρ)) (hTo E.toEnc ρ (keepHH hs ids)) post' := by
  have h1 : ACalls P f (us.map (TV.to E.toEnc ρ)) (hTo E.toEnc ρ (keepHH hs ids)) post := by
    obtain ⟨hl, hr⟩ := ha.get
    refine ⟨hc.1, fun F X vs hs' => hc.2 F X vs ?_⟩
    refine hs'.le3 (by simp [hl]) (fun t u' hu => ?_) (fun k cs' hk => hb.look k cs' hk) (fun p hp => hp)
    obtain ⟨_, h2⟩ := look_slotsOf (us'.map (TV.to E.toEnc ρ')) 0 t u' hu
    simp only [Nat.sub_zero, List.getElem?_map, Option.map_eq_some_iff] at h2
    obtain ⟨v', hv', rfl⟩ := h2
    have hlt : t < us.length := by rw [hl]; have := (List.getElem?_eq_some_iff.1 hv').1; omega
    have e : us[0 + t]? = some us[t] := by simp [hlt]
    refine ⟨us[t].to E.toEnc ρ, ?_, hr t _ _ e hv'⟩
    have key : ∀ (us : List AV) (k t : Nat) (u : AV), us[t]? = some u → look (slotsOf k us) (k + t) = some u := by
      intro us
      induction us with
      | nil => intro k t u h; simp at h
      | cons a us ih =>
        intro k t u h
        simp only [slotsOf, look_cons]
        cases t with
        | zero => simp at h; subst h; simp
        | succ t =>
          rw [if_neg (by omega), show k + (t + 1) = (k + 1) + t by omega]
          exact ih (k + 1) t u (by simpa using h)
    simpa using key (us.map (TV.to E.toEnc ρ)) 0 t (us[t].to E.toEnc ρ) (by simp [hlt])
  exact h1.mono hp
theorem nodup_good {T : Nat → Type} {hs : List (Nat × TB T)} : ∀ {ids : List Nat}, goodIds hs ids = true → ids.Nodup
  | [], _ => List.nodup_nil
  | i :: r, h => by
    simp only [goodIds] at h
    split at h
    · rename_i hm
      exact List.nodup_cons.2 ⟨fun hi => (by rw [memN_mem.2 hi] at hm; cases hm), nodup_good h⟩
    · cases h
theorem rhoS_inj {T : Nat → Type} {ρ : Nat → Nat} {hs : List (Nat × TB T)} {ids : List Nat} (hi : Inj ρ hs) (hg : goodIds hs ids = true) (h0 : List (Nat × TB T)) (hk : h0.all (fun q => Nat.ble 100000 q.1 && Nat.blt (q.1 - 100000) ids.length) = true) : Inj (rhoS ρ ids) h0 := by
  intro p hp q hq e
  have b1 := List.all_eq_true.1 hk p hp
  have b2 := List.all_eq_true.1 hk q hq
  simp only [Bool.and_eq_true] at b1 b2
  have l1 := Nat.le_of_ble_eq_true b1.1
  have l2 := Nat.le_of_ble_eq_true b2.1
  have m1 : p.1 - 100000 < ids.length := Nat.le_of_ble_eq_true b1.2
  have m2 : q.1 - 100000 < ids.length := Nat.le_of_ble_eq_true b2.2
  simp only [rhoS, nthB_get l1 m1, nthB_get l2 m2] at e
  obtain ⟨c1, hc1⟩ := goodIds_get hg _ (List.getElem_mem m1)
  obtain ⟨c2, hc2⟩ := goodIds_get hg _ (List.getElem_mem m2)
  have e2 := hi _ (look_mem hc1) _ (look_mem hc2) e
  simp only at e2
  have hnd := List.pairwise_iff_getElem.1 (nodup_good hg)
  rcases Nat.lt_trichotomy (p.1 - 100000) (q.1 - 100000) with hlt | heq | hgt
  · exact absurd e2 (hnd _ _ m1 m2 hlt)
  · omega
  · exact absurd e2.symm (hnd _ _ m2 m1 hgt)
/-- Steps of what is told of a callee. -/
def bnX {T : Nat → Type} {α : Type} (o : Option α) (k : α → XR T) : XR T := match o with
  | some x => k x
  | none => .bad
theorem bnX_ok {P : Program} {E : Env} {f : FuncId} {us : List (TV E.T)} {hs : List (Nat × TB E.T)} {α : Type} {o : Option α} {k : α → XR E.T} (h : ∀ x, o = some x → (k x).ok P f us hs) : (bnX o k).ok P f us hs := by
  cases o with
  | none => trivial
  | some x => exact h x rfl
def gdX {T : Nat → Type} (b : Bool) (x : XR T) : XR T := match b with
  | true => x
  | false => .bad
theorem gdX_ok {P : Program} {E : Env} {f : FuncId} {us : List (TV E.T)} {hs : List (Nat × TB E.T)} {b : Bool} {x : XR E.T} (h : b = true → x.ok P f us hs) : (gdX b x).ok P f us hs := by
  cases b with
  | false => trivial
  | true => exact h rfl
section
variable {E : Env} {us : List (TV E.T)} {hs : List (Nat × TB E.T)} {l : List (TA E.T)} {k i j : Nat} {t : Ty} {ρ ρ' : Nat → Nat}
def lenX {α : Type} (us : List α) (n : Nat) : Bool := Nat.beq us.length n
theorem lenX_ok {α : Type} {us : List α} {n : Nat} (h : lenX us n = true) : us.length = n := Nat.eq_of_beq_eq_true h
def aD {T : Nat → Type} (t : Ty) (us : List (TV T)) (k : Nat) : Option (Den T t) := match us[k]? with
  | some u => argD t u
  | none => none
def aS (E : Env) (i : Nat) (us : List (TV E.T)) (k : Nat) : Option (E.T i) := match us[k]? with
  | some u => argS E i u
  | none => none
def aB {T : Nat → Type} (us : List (TV T)) (k : Nat) : Option Nat := match us[k]? with
  | some (.a (.box i 0)) => some i
  | _ => none
def aF {T : Nat → Type} (f : FuncId) (us : List (TV T)) (k : Nat) : Option (List (TA T)) := match us[k]? with
  | some (.fn g l) => match Nat.beq g f with
    | true => some l
    | false => none
  | some (.a (.raw (.func (.func g) ⟨[]⟩ ⟨[]⟩))) => match Nat.beq g f with
    | true => some []
    | false => none
  | _ => none
theorem rho_d (x : Den E.T t) : (TA.d t x : TA E.T).to E.toEnc ρ = (TA.d t x : TA E.T).to E.toEnc ρ' := rfl
theorem aD_le {x : Den E.T t} (h : aD t us k = some x) : ∀ u, us[k]? = some u → LeV (u.to E.toEnc ρ) ((TV.a (.d t x) : TV E.T).to E.toEnc ρ') := fun u hu => by
  unfold aD at h
  rw [hu] at h
  exact argD_le h ρ
theorem aS_le {n : Nat} {x : E.T n} (h : aS E n us k = some x) : ∀ u, us[k]? = some u → LeV (u.to E.toEnc ρ) ((TV.ag (E.unp n x) : TV E.T).to E.toEnc ρ') := fun u hu => by
  unfold aS at h
  rw [hu] at h
  have := argS_le h ρ
  have e : (TV.ag (E.unp n x) : TV E.T).to E.toEnc ρ' = (TV.ag (E.unp n x) : TV E.T).to E.toEnc ρ := by
    show AV.ag ((E.unp n x).map _) = AV.ag ((E.unp n x).map _)
    rw [E.unp_to, E.unp_to]
  rw [e]
  exact this
theorem aB_le (h : aB us k = some i) (e : ρ' j = ρ i) : ∀ u, us[k]? = some u → LeV (u.to E.toEnc ρ) ((TV.a (.box j 0) : TV E.T).to E.toEnc ρ') := fun u hu => by
  unfold aB at h
  rw [hu] at h
  split at h
  · rename_i i' hu'
    cases hu'; cases h
    left
    show Le1 (.v (.pointer (some ⟨ρ i, 0, none⟩))) (.v (.pointer (some ⟨ρ' j, 0, none⟩)))
    rw [e]; exact .refl _
  · cases h
theorem aF_le {f : FuncId} {is js : List Nat} (h : aF f us k = some l) (hc : cbs l = some is) (e : is.map ρ = js.map ρ') : ∀ u, us[k]? = some u → LeV (u.to E.toEnc ρ) ((TV.fn f (js.map fun i => .box i 0) : TV E.T).to E.toEnc ρ') := fun u hu => by
  unfold aF at h
  rw [hu] at h
  split at h
  · rename_i g l' hu'
    split at h
    · rename_i hg
      cases hu'; cases h
      have := Nat.eq_of_beq_eq_true hg
      subst this
      left
      rw [cbs_to hc]
      simp only [TV.to, List.map_map]
      have e2 : is.map ((TA.to E.toEnc ρ) ∘ fun i => (TA.box i 0 : TA E.T)) = js.map ((TA.to E.toEnc ρ') ∘ fun i => (TA.box i 0 : TA E.T)) := by
        have : ∀ (is : List Nat) (ρ : Nat → Nat), is.map ((TA.to E.toEnc ρ) ∘ fun i => (TA.box i 0 : TA E.T)) = (is.map ρ).map fun k => AV.v (.pointer (some ⟨k, 0, none⟩)) := fun is ρ => by
          rw [List.map_map]; rfl
        rw [this, this, e]
      rw [e2]
      exact .refl _
    · cases h
  · rename_i g hu'
    split at h
    · rename_i hg
      cases hu'; cases h
      have := Nat.eq_of_beq_eq_true hg
      subst this
      cases hc
      have hj : js = [] := by
        cases js with
        | nil => rfl
        | cons a b => cases e
      subst hj
      right
      refine ⟨fun X v hr => ?_, rfl⟩
      have := rel_v hr
      subst this
      exact .fn g [] #[] rfl (fun i u x hu hx => by simp at hu)
    · cases h
  · cases h
/-- A box with a struct. -/
def bS (E : Env) (n : Nat) (hs : List (Nat × TB E.T)) (i : Nat) : Option (E.T n) := match look hs i with
  | some (.cs l) => match E.pk n l with
    | some (z, []) => some z
    | _ => none
  | _ => none
theorem bS_le {n : Nat} {z : E.T n} (h : bS E n hs i = some z) : ∃ b, look hs i = some b ∧ LeL (b.to E.toEnc ρ) ((TB.cs (E.unp n z) : TB E.T).to E.toEnc ρ') := by
  unfold bS at h
  split at h
  · rename_i l hl
    split at h
    · rename_i z' hz
      cases h
      refine ⟨_, hl, ?_⟩
      have hp := E.pk_to n _ z [] ρ hz
      simp only [List.map_nil, List.append_nil] at hp
      show LeL (l.map _) ((E.unp n z).map _)
      rw [E.unp_to]
      exact (map_rd_le (ρ := ρ) l).trans hp
    · cases h
  · cases h
/-- A box with cells. -/
def bC {T : Nat → Type} (hs : List (Nat × TB T)) (i : Nat) : Option (List (TA T)) := match look hs i with
  | some (.cs l) => some l
  | _ => none
def cD {T : Nat → Type} (t : Ty) (l : List (TA T)) (k : Nat) : Option (Den T t) := match l[k]? with
  | some a => asD t a.rd
  | none => none
def cO {T : Nat → Type} (t : Ty) (l : List (TA T)) (k : Nat) : Option (List (Den T t)) := match l[k]? with
  | some (.own t' m) => castD (.sl t') (.sl t) m
  | _ => none
def cB {T : Nat → Type} (l : List (TA T)) (k : Nat) : Option Nat := match l[k]? with
  | some (.box i 0) => some i
  | _ => none
/-- The cells are read as is told. -/
def CL {E : Env} (l : List (TA E.T)) (ρ ρ' : Nat → Nat) : Nat → List (TA E.T) → Prop
  | k, [] => l.length = k
  | k, u' :: r => (∀ u, l[k]? = some u → Le1 (u.to E.toEnc ρ) (u'.to E.toEnc ρ')) ∧ CL l ρ ρ' (k + 1) r
theorem CL.le : ∀ {l' : List (TA E.T)} {l : List (TA E.T)} {k : Nat}, CL l ρ ρ' k l' → LeL ((l.drop k).map (TA.to E.toEnc ρ)) (l'.map (TA.to E.toEnc ρ'))
  | [], l, k, h => by
    have h' : l.length = k := h
    rw [List.drop_eq_nil_of_le (by omega)]; exact .nil
  | u' :: r, l, k, h => by
    have hlen : ∀ (r : List (TA E.T)) (k : Nat), CL l ρ ρ' k r → l.length = k + r.length := by
      intro r
      induction r with
      | nil => intro k h; exact h
      | cons a r ih => intro k h; have := ih _ h.2; simp only [List.length_cons]; omega
    have hk : k < l.length := by have := hlen _ _ h; simp only [List.length_cons] at this; omega
    rw [List.drop_eq_getElem_cons hk]
    exact .cons (h.1 _ (List.getElem?_eq_getElem hk)) (CL.le h.2)
theorem bC_le {l' : List (TA E.T)} (h : bC hs i = some l) (hc : CL l ρ ρ' 0 l') : ∃ b, look hs i = some b ∧ LeL (b.to E.toEnc ρ) ((TB.cs l' : TB E.T).to E.toEnc ρ') := by
  unfold bC at h
  split at h
  · rename_i l0 hl
    cases h
    refine ⟨_, hl, ?_⟩
    show LeL (l.map _) (l'.map _)
    simpa using hc.le
  · cases h
theorem cD_le {x : Den E.T t} (h : cD t l k = some x) : ∀ u, l[k]? = some u → Le1 (u.to E.toEnc ρ) ((TA.d t x : TA E.T).to E.toEnc ρ') := fun u hu => by
  unfold cD at h
  rw [hu] at h
  have := asD_to E.toEnc ρ h
  rw [TA.rd_to, TA.rd_to] at this
  have e : ((u.to E.toEnc ρ).rd).rd = (u.to E.toEnc ρ).rd := by rw [← TA.rd_to, ← TA.rd_to]; cases u <;> rfl
  rw [e] at this
  exact (le1_rd _).trans this
theorem cO_le {x : List (Den E.T t)} (h : cO t l k = some x) : ∀ u, l[k]? = some u → Le1 (u.to E.toEnc ρ) ((TA.own t x : TA E.T).to E.toEnc ρ') := fun u hu => by
  unfold cO at h
  rw [hu] at h
  cases u with
  | own t' m =>
    obtain ⟨e, rfl⟩ := castD_some (show castD (.sl t') (.sl t) m = some x from h)
    cases e
    exact .refl _
  | _ => cases h
theorem cB_le (h : cB l k = some i) (e : ρ' j = ρ i) : ∀ u, l[k]? = some u → Le1 (u.to E.toEnc ρ) ((TA.box j 0 : TA E.T).to E.toEnc ρ') := fun u hu => by
  unfold cB at h
  rw [hu] at h
  split at h
  · rename_i i' hu'
    cases hu'; cases h
    show Le1 (.v (.pointer (some ⟨ρ i, 0, none⟩))) (.v (.pointer (some ⟨ρ' j, 0, none⟩)))
    rw [e]; exact .refl _
  · cases h
/-- A closure that lies in a cell. -/
def cF {T : Nat → Type} (f : FuncId) (l : List (TA T)) (k : Nat) : Option (List Nat) := match l[k]? with
  | some (.fnb g is) => match Nat.beq g f with
    | true => some is
    | false => none
  | _ => none
theorem cF_le {f : FuncId} {is js : List Nat} (h : cF f l k = some is) (e : is.map ρ = js.map ρ') : ∀ u, l[k]? = some u → Le1 (u.to E.toEnc ρ) ((TA.fnb f js : TA E.T).to E.toEnc ρ') := fun u hu => by
  unfold cF at h
  rw [hu] at h
  split at h
  · rename_i g is' hu'
    split at h
    · rename_i hg
      cases hu'; cases h
      have := Nat.eq_of_beq_eq_true hg
      subst this
      have q : ∀ (is : List Nat) (ρ : Nat → Nat), (is.map fun i => AV.v (.pointer (some ⟨ρ i, 0, none⟩))) = (is.map ρ).map fun k => AV.v (.pointer (some ⟨k, 0, none⟩)) := fun is ρ => by
        rw [List.map_map]; rfl
      simp only [TA.to]
      rw [q is ρ, e, ← q js ρ']
      exact .refl _
    · cases h
  · cases h
theorem KPost.pan {v : Value} {out : AOut} {H : List (Nat × List AV)} (h : KPost E ρ (fun r => r = .pan v) out H) : out = .pan v := by
  obtain ⟨r, ρ', rfl, ha, h1, h2⟩ := h
  exact h1
/-- A box of elements that are written in place, and slices over such. -/
def bR {T : Nat → Type} (t : Ty) (hs : List (Nat × TB T)) (i : Nat) : Option (List (Den T t)) := match look hs i with
  | some (.row t' l) => castD (.sl t') (.sl t) l
  | _ => none
theorem bR_le {x : List (Den E.T t)} (h : bR t hs i = some x) : ∃ b, look hs i = some b ∧ LeL (b.to E.toEnc ρ) ((TB.row t x : TB E.T).to E.toEnc ρ') := by
  unfold bR at h
  cases hl : look hs i with
  | none => rw [hl] at h; cases h
  | some b =>
    rw [hl] at h
    cases b with
    | row t' l =>
      obtain ⟨e, rfl⟩ := castD_some (show castD (.sl t') (.sl t) l = some x from h)
      cases e
      exact ⟨_, rfl, LeL.refl _⟩
    | _ => cases h
def isW {T : Nat → Type} (off n c : Nat) : TA T → Option Nat
  | .bsl i o m q => match Nat.beq o off && Nat.beq m n && Nat.beq q c with
    | true => some i
    | false => none
  | _ => none
theorem isW_some {T : Nat → Type} {off n c i : Nat} {a : TA T} (h : isW off n c a = some i) : a = .bsl i off n c := by
  unfold isW at h
  split at h
  · split at h
    · rename_i hb
      simp only [Bool.and_eq_true] at hb
      cases h
      rw [Nat.eq_of_beq_eq_true hb.1.1, Nat.eq_of_beq_eq_true hb.1.2, Nat.eq_of_beq_eq_true hb.2]
    · cases h
  · cases h
def cW {T : Nat → Type} (off n c : Nat) (l : List (TA T)) (k : Nat) : Option Nat := match l[k]? with
  | some a => isW off n c a
  | none => none
theorem cW_le {off n c : Nat} (h : cW off n c l k = some i) (e : ρ' j = ρ i) : ∀ u, l[k]? = some u → Le1 (u.to E.toEnc ρ) ((TA.bsl j off n c : TA E.T).to E.toEnc ρ') := fun u hu => by
  unfold cW at h
  rw [hu] at h
  rw [isW_some h]
  show Le1 (.v (.slice (some ⟨ρ i, off, none⟩) n c)) (.v (.slice (some ⟨ρ' j, off, none⟩) n c))
  rw [e]; exact .refl _
def aW {T : Nat → Type} (off n c : Nat) (us : List (TV T)) (k : Nat) : Option Nat := match us[k]? with
  | some (.a a) => isW off n c a
  | _ => none
theorem aW_le {off n c : Nat} (h : aW off n c us k = some i) (e : ρ' j = ρ i) : ∀ u, us[k]? = some u → LeV (u.to E.toEnc ρ) ((TV.a (.bsl j off n c) : TV E.T).to E.toEnc ρ') := fun u hu => by
  unfold aW at h
  rw [hu] at h
  split at h
  · rename_i a hu'
    cases hu'
    rw [isW_some h]
    left
    show Le1 (.v (.slice (some ⟨ρ i, off, none⟩) n c)) (.v (.slice (some ⟨ρ' j, off, none⟩) n c))
    rw [e]; exact .refl _
  · cases h
/-- A callee without boxes, called by its value. -/
def xOf {T : Nat → Type} (h : List (TV T) → PV T) : List (TV T) → List (Nat × TB T) → XR T := fun us hs => match h us with
  | .one u => .ret (some ()) [] (fun _ => u) fun _ => []
  | .opt o u => .ret o [] u fun _ => []
  | .bad => .bad
end
theorem xOf_ok {P : Program} {E : Env} {f : FuncId} {h : List (TV E.T) → PV E.T} (hf : ∀ us, (h us).ok fun u => ∀ ρ, ACalls P f (us.map (TV.to E.toEnc ρ)) [] (fun out H => out = .ret (u.to E.toEnc ρ) ∧ H = [])) : XOk P E f (xOf h) := fun us hs => by
  have hu := hf us
  unfold xOf
  cases hh : h us with
  | one u => rw [hh] at hu; exact fun z hz => ⟨rfl, fun ρ hi => hu ρ⟩
  | opt o u => rw [hh] at hu; exact fun z hz => ⟨rfl, fun ρ hi => hu z hz ρ⟩
  | bad => trivial
theorem lis0 {l : List Nat} (h : l.length = 0) : l = [] := List.length_eq_zero_iff.1 h
theorem lis1 {l : List Nat} {a : Nat} (h : l.length = 1) (ha : l[0]? = some a) : l = [a] := by
  match l, h with
  | [x], _ => simp at ha; subst ha; rfl
theorem lis2 {l : List Nat} {a b : Nat} (h : l.length = 2) (ha : l[0]? = some a) (hb : l[1]? = some b) : l = [a, b] := by
  match l, h with
  | [x, y], _ => simp at ha hb; subst ha hb; rfl
theorem lis3 {l : List Nat} {a b c : Nat} (h : l.length = 3) (ha : l[0]? = some a) (hb : l[1]? = some b) (hc : l[2]? = some c) : l = [a, b, c] := by
  match l, h with
  | [x, y, z], _ => simp at ha hb hc; subst ha hb hc; rfl
theorem lis4 {l : List Nat} {a b c d : Nat} (h : l.length = 4) (ha : l[0]? = some a) (hb : l[1]? = some b) (hc : l[2]? = some c) (hd : l[3]? = some d) : l = [a, b, c, d] := by
  match l, h with
  | [x, y, z, w], _ => simp at ha hb hc hd; subst ha hb hc hd; rfl
end Go.Proofs.YtgmlkhfjhogdbaaGreat
