/- Regions that draw: what turns nothing in whatever order, among a chain of what turns something. -/
import Derived.Test.YtgmlkhfjhogdbaaGE
namespace Go.Proofs.Ytgmlkhfjhogdbaa
open Go.RowKit P
set_option linter.unusedSimpArgs false
set_option linter.unusedVariables false

/-- What an operation yields is one value. -/
def Det (l : List Oper) (mN : Nat → Bool) (o : Oper) (u : AV) : Prop := own1 (some u) = none ∧ ((∃ x, u = .v x) ∨ ∃ s, o.op = .move (.tmp s) ∧ ∀ (q : Nat) o', l[q]? = some o' → mN q = true → o'.dst ≠ some s)
def NSem (P : Program) (l : List Oper) (mN : Nat → Bool) (K : AS → Prop) : Nat → List Oper → AS → Prop
  | _, [], σ => K σ
  | k, o :: rest, σ => match mN k with
    | true => ∃ d u, o.dst = some d ∧ o.guard = none ∧ Nat.ble (d + 1) σ.n = true ∧ OpV P o σ u ∧ Det l mN o u ∧ NSem P l mN K (k + 1) rest (σ.put d u)
    | false => NSem P l mN K (k + 1) rest σ
def CSem (P : Program) (K : AS → Prop) : List Oper → AS → Prop
  | [], σ => K σ
  | o :: rest, σ => EffOp P o σ (CSem P K rest)
def noOp : Oper := ⟨none, .assign (.const undef), 0, "", #[], none⟩
def msk (mN : Nat → Bool) : Nat → List Oper → List Oper
  | _, [] => []
  | k, o :: r => (match mN k with | true => o | false => noOp) :: msk mN (k + 1) r
theorem msk_len (mN : Nat → Bool) : ∀ (k : Nat) (l : List Oper), (msk mN k l).length = l.length
  | _, [] => rfl
  | k, o :: r => by simp only [msk, List.length_cons, msk_len mN (k + 1) r]
theorem msk_get (mN : Nat → Bool) : ∀ (k : Nat) (l : List Oper) (i : Nat) (o : Oper), l[i]? = some o → (msk mN k l)[i]? = some (match mN (k + i) with | true => o | false => noOp)
  | _, [], i, o, h => by simp at h
  | k, o0 :: r, 0, o, h => by simp at h; subst h; simp [msk]
  | k, o0 :: r, i + 1, o, h => by
    simp only [msk, List.getElem?_cons_succ]
    rw [msk_get mN (k + 1) r i o (by simpa using h), show k + 1 + i = k + (i + 1) by omega]
theorem msk_dst {mN : Nat → Bool} {l : List Oper} {i : Nat} {o : Oper} {d : Nat} (h : (msk mN 0 l)[i]? = some o) (hd : o.dst = some d) : mN i = true ∧ l[i]? = some o := by
  have hi := (List.getElem?_eq_some_iff.1 h).1
  rw [msk_len] at hi
  have := msk_get mN 0 l i l[i] (List.getElem?_eq_getElem hi)
  rw [h, Nat.zero_add] at this
  cases hm : mN i with
  | true => rw [hm] at this; cases this; exact ⟨rfl, List.getElem?_eq_getElem hi⟩
  | false => rw [hm] at this; cases this; cases hd
section
variable {P : Program} {Q : Exit → AS → Prop} {ks : List It} {σ : AS} {K : AS → Prop} {l : List Oper} {mN : Nat → Bool}
theorem n_table (L : List Oper) : ∀ (rest : List Oper) (k : Nat) (σ : AS), NSem P L mN K k rest σ → ∃ us : List AV, us.length = rest.length ∧ K (puts σ (msk mN k rest) us) ∧
    ∀ (i : Nat) o u, rest[i]? = some o → us[i]? = some u → mN (k + i) = true → ∃ d, o.dst = some d ∧ o.guard = none ∧ Nat.ble (d + 1) σ.n = true ∧ OpV P o (puts σ ((msk mN k rest).take i) (us.take i)) u ∧ Det L mN o u
  | [], k, σ, h => ⟨[], rfl, h, fun i o u h => by simp at h⟩
  | o :: rest, k, σ, h => by
    unfold NSem at h
    cases hm : mN k with
    | true =>
      rw [hm] at h
      obtain ⟨d, u, h1, h2, h3, h4, h5, h6⟩ := h
      obtain ⟨us, k1, k2, k3⟩ := n_table L rest (k + 1) (σ.put d u) h6
      refine ⟨u :: us, by simp [k1], by simp only [msk, hm, puts, h1]; exact k2, fun i o' u' ho hu hmi => ?_⟩
      cases i with
      | zero => simp at ho hu; subst ho hu; exact ⟨d, h1, h2, h3, h4, h5⟩
      | succ i =>
        obtain ⟨d', m1, m2, m3, m4, m5⟩ := k3 i o' u' (by simpa using ho) (by simpa using hu) (by rw [show k + 1 + i = k + (i + 1) by omega]; exact hmi)
        refine ⟨d', m1, m2, m3, ?_, m5⟩
        simp only [msk, hm, List.take_succ_cons, puts, h1]
        exact m4
    | false =>
      rw [hm] at h
      obtain ⟨us, k1, k2, k3⟩ := n_table L rest (k + 1) σ h
      refine ⟨.v undef :: us, by simp [k1], by simp only [msk, hm, puts, noOp]; exact k2, fun i o' u' ho hu hmi => ?_⟩
      cases i with
      | zero => rw [Nat.add_zero, hm] at hmi; cases hmi
      | succ i =>
        obtain ⟨d', m1, m2, m3, m4, m5⟩ := k3 i o' u' (by simpa using ho) (by simpa using hu) (by rw [show k + 1 + i = k + (i + 1) by omega]; exact hmi)
        refine ⟨d', m1, m2, m3, ?_, m5⟩
        simp only [msk, hm, List.take_succ_cons, puts, noOp]
        exact m4
theorem look_filt {α : Type} (p : Nat → Bool) : ∀ (h : List (Nat × α)) (k : Nat), look (h.filter fun q => p q.1) k = if p k = true then look h k else none
  | [], k => by simp [look_nil]
  | (q, a) :: r, k => by
    have ih := look_filt p r k
    rw [List.filter_cons]
    by_cases hp : p q = true
    · rw [if_pos hp, look_cons, look_cons, ih]
      by_cases e : k = q
      · subst e; rw [if_pos rfl, if_pos hp, if_pos rfl]
      · rw [if_neg e, if_neg e]
    · rw [if_neg hp, ih, look_cons]
      by_cases e : k = q
      · subst e; rw [if_neg hp, if_neg hp]
      · rw [if_neg e]
structure MixOk (l : List Oper) (mN : Nat → Bool) (cs : List Nat) : Prop where
  lex : ∀ i o, l[i]? = some o → ∀ j ∈ depsOf o, j < i
  ndst : ∀ q q' o o' d, l[q]? = some o → l[q']? = some o' → mN q = true → o.dst = some d → o'.dst = some d → q = q'
  settled : ∀ i o q oq d, l[i]? = some o → l[q]? = some oq → mN q = true → oq.dst = some d → d ∈ seesOf l o → q < i ∧ q ∈ depsOf o
  nsees : ∀ i o q oq d, l[i]? = some o → mN i = true → l[q]? = some oq → mN q = false → oq.dst = some d → d ∈ seesOf l o → i ∈ depsOf oq
  call : ∀ i, i < l.length → (mN i = false ↔ i ∈ cs)
  clt : ∀ i ∈ cs, i < l.length
  cnodup : cs.Nodup
  cchain : ∀ (j a b : Nat) o, cs[j]? = some a → cs[j + 1]? = some b → l[b]? = some o → a ∈ depsOf o
  cguard : ∀ i o, l[i]? = some o → mN i = false → o.guard = none ∧ ∀ c b, o.op ≠ .select c b
/-- The act with all that is to come of what turns nothing. -/
structure Filled (l : List Oper) (mN : Nat → Bool) (V : Nat → Value) (listed : Array Bool) (tm tf : Array Value) : Prop where
  size : tf.size = tm.size
  same : ∀ t, (∀ (q : Nat) o, l[q]? = some o → mN q = true → o.dst = some t → listed.getD q false = true) → tf.getD t undef = tm.getD t undef
  val : ∀ (q : Nat) o t, l[q]? = some o → mN q = true → o.dst = some t → tf.getD t undef = V q
def nMoves (l : List Oper) (mN : Nat → Bool) (k : Nat) : List Oper → List (Nat × Nat)
  | [] => []
  | o :: r => (match mN k, o.dst, o.op with
    | true, some d, .move (.tmp s) => if l.zipIdx.all (fun q => !mN q.2 || !(q.1.dst == some s)) then [(d, s)] else []
    | _, _, _ => []) ++ nMoves l mN (k + 1) r
theorem nMoves_get {l : List Oper} {mN : Nat → Bool} : ∀ (rest : List Oper) (k : Nat) (p : Nat × Nat), p ∈ nMoves l mN k rest → ∃ (i : Nat) (o : Oper), rest[i]? = some o ∧ mN (k + i) = true ∧ o.dst = some p.1 ∧ o.op = .move (.tmp p.2) ∧ ∀ (q : Nat) o', l[q]? = some o' → mN q = true → o'.dst ≠ some p.2
  | [], k, p, h => by cases h
  | o :: r, k, p, h => by
    simp only [nMoves] at h
    rcases List.mem_append.1 h with h | h
    · split at h
      · rename_i d s hm hd ho
        split at h
        · rename_i hall
          simp at h
          subst h
          refine ⟨0, o, rfl, hm, hd, ho, fun q o' h' hq e => ?_⟩
          have := List.all_eq_true.1 hall (o', q) (List.mem_of_getElem? (i := q) (by rw [List.getElem?_zipIdx, h']; simp))
          simp [e, hq] at this
        · cases h
      · cases h
    · obtain ⟨i, o', h1, h2, h3⟩ := nMoves_get r (k + 1) p h
      exact ⟨i + 1, o', by simpa using h1, by rw [show k + (i + 1) = k + 1 + i by omega]; exact h2, h3⟩
def plainBox (cs : List AV) : Bool := cs.all fun u => (own1 (some u)).isNone
/-- Boxes that were set aside come back. -/
theorem SimE.back {F F' : Nat → Prop} {X0 X : GW} {σ' : AS} {tm : Array Value} {H1 : List (Nat × List AV)} (h : SimE F' X σ' tm) (hF : ∀ b, F b → F' b) (hF1 : ∀ k cs, look H1 k = some cs → F' k) (hb : ∀ k cs, look H1 k = some cs → BoxOk F X0 k cs) (hpl : ∀ k cs, look H1 k = some cs → plainBox cs = true) (hx : Ext F' X0 X) : SimE F X (σ'.withH (σ'.h ++ H1)) tm := by
  have hlook : ∀ k cs, look (σ'.h ++ H1) k = some cs → look σ'.h k = some cs ∨ (look σ'.h k = none ∧ look H1 k = some cs) := fun k cs hk => by
    rw [look_append] at hk
    cases hl : look σ'.h k with
    | some c => rw [hl] at hk; cases hk; exact .inl rfl
    | none => rw [hl] at hk; exact .inr ⟨rfl, hk⟩
  have hown : ∀ r sz l, (σ'.withH (σ'.h ++ H1)).own r = some (sz, l) → σ'.own r = some (sz, l) := fun r sz l ho => by
    cases r with
    | s t => exact ho
    | c k o =>
      simp only [AS.own, AS.withH] at ho ⊢
      cases hl : look (σ'.h ++ H1) k with
      | none => rw [hl] at ho; cases ho
      | some cs =>
        rw [hl] at ho
        rcases hlook k cs hl with h1 | ⟨h1, h2⟩
        · rw [h1]; exact ho
        · exfalso
          have hp := hpl k cs h2
          cases hc : cs[o]? with
          | none => simp [hc, own1] at ho
          | some u =>
            have := List.all_eq_true.1 hp u (List.mem_of_getElem? hc)
            simp [hc] at ho
            rw [ho] at this; cases this
  refine ⟨⟨h.size, h.gb, fun b hb' => h.fb b (hF b hb'), h.slot, fun k cs hk => ?_, h.eqs, fun r sz l ho => ?_, fun r r' sz l sz' l' a n c a' n' c' hne ho ho' hr hr' => h.disj r r' sz l sz' l' a n c a' n' c' hne (hown _ _ _ ho) (hown _ _ _ ho') hr hr'⟩, h.eqm⟩
  · rcases hlook k cs hk with h1 | ⟨h1, h2⟩
    · exact (h.box k cs h1).keep ⟨rfl, rfl, fun e => (h.box k cs h1).nF (hF k e)⟩ (Pres.refl X)
    · have hk' := hb k cs h2
      exact hk'.keep ⟨(hx.frame k (hF1 k cs h2)).1, (hx.frame k (hF1 k cs h2)).2, hk'.nF⟩ hx.pres
  · obtain ⟨x, h1, h2⟩ := h.own r sz l (hown r sz l ho)
    exact ⟨x, h1, h2.keep fun b n c hv => ⟨rfl, rfl, fun e => (h2.lt hv).2 (hF b e)⟩⟩
def valOf (a : Act) : AV → Op → Value
  | .v x, _ => x
  | _, .move (.tmp s) => a.tmps.getD s undef
  | _, _ => undef
theorem put_getD (a : Act) (o : Option Tmp) (x : Value) (t : Nat) : (a.put o x).tmps.getD t undef = if o = some t ∧ t < a.tmps.size then x else a.tmps.getD t undef := by
  cases o with
  | none => rw [if_neg (by simp)]; rfl
  | some d =>
    simp only [Act.put, Array.getD_eq_getD_getElem?, Array.getElem?_setIfInBounds]
    by_cases e : d = t
    · subst e
      by_cases hl : d < a.tmps.size
      · rw [if_pos rfl, if_pos hl, if_pos ⟨rfl, hl⟩]; rfl
      · rw [if_pos rfl, if_neg hl, if_neg (by simp [hl])]
        simp [Array.getElem?_eq_none (Nat.le_of_not_lt hl)]
    · rw [if_neg e, if_neg (by simp [e])]
theorem put_sz (a : Act) (o : Option Tmp) (x : Value) : (a.put o x).tmps.size = a.tmps.size := by
  cases o <;> simp [Act.put]
theorem same_g {X X' : GW} (hn : New X X') (hw : X'.w = X.w) (hg : ∀ b n, X.g b = some n → b < X.w.heap.size) (hg' : ∀ b n, X'.g b = some n → b < X'.w.heap.size) : X' = X := by
  have : X'.g = X.g := by
    funext b
    by_cases hb : b < X.w.heap.size
    · exact (hn.old b hb).2
    · cases h1 : X.g b with
      | some n => exact absurd (hg b n h1) hb
      | none =>
        cases h2 : X'.g b with
        | some n => have := hg' b n h2; rw [hw] at this; exact absurd this hb
        | none => rfl
  cases X; cases X'; simp only at hw this; subst hw this; rfl
theorem move_run {F : Nat → Prop} {X : GW} {σ : AS} {o : Oper} {u : AV} {a : Act} {s : Nat} (hop : o.op = .move (.tmp s)) (h : OpV P o σ u) (hs : SimR F X σ o.op a.tmps) : Rel X u (a.tmps.getD s undef) ∧ (execOp a.eval o).run P X.w = .ok (.value (a.tmps.getD s undef)) X.w := by
  have hex : (execOp a.eval o).run P X.w = .ok (.value (a.tmps.getD s undef)) X.w := by
    obtain ⟨dst, op, ty, pos, af, g⟩ := o
    simp only at hop
    subst hop
    rfl
  have hr := h F X a hs
  unfold Runs at hr
  rw [hex] at hr
  obtain ⟨X', h1, h2, h3, h4, h5⟩ := hr
  have := same_g h2 h1 hs.gb h3
  subst this
  exact ⟨h4, hex⟩
/-- A region that draws: what turns nothing in whatever order, among a chain of what turns something. -/
theorem ar_drawM {id : Nat} {st : Nat → Bool} {cs : List Nat} (hm : P.follows .mixedOrders = true) (hB : MixOk l mN cs) (he : σ.e = []) (hpl : ∀ k c, look (σ.h.filter fun p => st p.1) k = some c → plainBox c = true)
    (h : NSem P l mN (fun σ' => CSem P (fun σ2 => ARun P Q ks (σ2.withH (σ2.h ++ σ.h.filter fun p => st p.1))) (cs.filterMap fun i => l[i]?) ((σ'.withH (σ.h.filter fun p => !st p.1)).als (nMoves l mN 0 l))) 0 l (σ.withH (σ.h.filter fun p => st p.1))) :
    ARun P Q (.c (.region id l.toArray true) :: ks) σ := by
  intro F X a hs D hdf
  obtain ⟨us, hul, hC, hstep⟩ := n_table l l 0 _ h
  simp only [Nat.zero_add] at hstep
  generalize hH1 : (σ.h.filter fun p => st p.1) = H1 at *
  generalize hH0 : (σ.h.filter fun p => !st p.1) = H0 at *
  have h1look : ∀ k c, look H1 k = some c → st k = true ∧ look σ.h k = some c := fun k c hk => by
    rw [← hH1, look_filt] at hk
    by_cases e : st k = true
    · rw [if_pos e] at hk; exact ⟨e, hk⟩
    · rw [if_neg e] at hk; cases hk
  have h0look : ∀ k c, look H0 k = some c → st k = false ∧ look σ.h k = some c := fun k c hk => by
    rw [← hH0, look_filt (fun q => !st q)] at hk
    by_cases e : st k = true
    · simp [e] at hk
    · simp only [Bool.not_eq_true] at e
      simp [e] at hk; exact ⟨e, hk⟩
  have hbox1 : ∀ k c, look H1 k = some c → BoxOk F X k c := fun k c hk => hs.box k c (h1look k c hk).2
  let F' : Nat → Prop := fun b => F b ∨ ∃ c, look H1 b = some c
  have hFF : ∀ b, F b → F' b := fun b hb => .inl hb
  have hF'lt : ∀ b, F' b → b < X.w.heap.size := fun b hb => by
    rcases hb with hb | ⟨c, hc⟩
    · exact hs.fb b hb
    · exact (hbox1 b c hc).lt
  have hnF' : ∀ r sz lw a1 n c, σ.own r = some (sz, lw) → rootV a.tmps X.w r = some (.slice (some a1) n c) → ¬ F' a1.block := fun r sz lw a1 n c ho hr hb => by
    obtain ⟨k1, ⟨m, k2⟩, _⟩ := hs.own_nF ho hr
    rcases hb with hb | ⟨c', hc⟩
    · exact k1 hb
    · rw [(hbox1 _ c' hc).gn] at k2; cases k2
  have hmdis : ∀ (q q' : Nat) o o' d, (msk mN 0 l)[q]? = some o → (msk mN 0 l)[q']? = some o' → o.dst = some d → o'.dst = some d → q = q' := fun q q' o o' d h1 h2 h3 h4 => by
    obtain ⟨k1, k2⟩ := msk_dst h1 h3
    obtain ⟨k3, k4⟩ := msk_dst h2 h4
    exact hB.ndst q q' o o' d k2 k4 k1 h3 h4
  have hml : us.length = (msk mN 0 l).length := by rw [msk_len, hul]
  -- a slot that no operation that turns nothing writes
  have hputs : ∀ (i : Nat) (t : Nat) (u : AV), look (puts (σ.withH H1) ((msk mN 0 l).take i) (us.take i)).t t = some u → (∃ q o, q < i ∧ l[q]? = some o ∧ mN q = true ∧ o.dst = some t ∧ us[q]? = some u) ∨ (look σ.t t = some u ∧ ∀ q o, q < i → l[q]? = some o → mN q = true → o.dst ≠ some t) := by
    intro i t u hu
    rw [puts_look _ _ _ _ (by simp [hml]) (fun q q' o1 o2 d h1 h2 h3 h4 => by
      rw [List.getElem?_take] at h1 h2
      split at h1
      · split at h2
        · exact hmdis q q' o1 o2 d h1 h2 h3 h4
        · cases h2
      · cases h1)] at hu
    cases hf : (((msk mN 0 l).take i).zip (us.take i)).find? (fun p => p.1.dst == some t) with
    | some p =>
      rw [hf] at hu; cases hu
      have hmem := List.mem_of_find?_eq_some hf
      have hpd : p.1.dst = some t := by simpa using List.find?_some hf
      obtain ⟨q, hq⟩ := List.getElem?_of_mem hmem
      rw [List.getElem?_zip_eq_some, List.getElem?_take, List.getElem?_take] at hq
      have hqi : q < i := by
        apply Classical.byContradiction
        intro hc
        rw [if_neg hc] at hq; cases hq.1
      rw [if_pos hqi, if_pos hqi] at hq
      obtain ⟨k1, k2⟩ := msk_dst hq.1 hpd
      exact .inl ⟨q, p.1, hqi, k2, k1, hpd, hq.2⟩
    | none =>
      rw [hf] at hu
      refine .inr ⟨hu, fun q o hqi hlo hmq hod => ?_⟩
      have hql := (List.getElem?_eq_some_iff.1 hlo).1
      have hmq' : (msk mN 0 l)[q]? = some o := by rw [msk_get mN 0 l q o hlo, Nat.zero_add, hmq]
      have hmem : (o, us[q]'(by omega)) ∈ ((msk mN 0 l).take i).zip (us.take i) := by
        refine List.mem_of_getElem? (i := q) (List.getElem?_zip_eq_some.2 ⟨?_, ?_⟩)
        · rw [List.getElem?_take, if_pos hqi]; exact hmq'
        · rw [List.getElem?_take, if_pos hqi]; exact List.getElem?_eq_getElem (by omega)
      exact absurd (by simpa using hod) (List.find?_eq_none.1 hf _ hmem)
  -- the values
  obtain ⟨V, hV⟩ : ∃ V : Nat → Value, ∀ (q : Nat) o u, l[q]? = some o → us[q]? = some u → mN q = true → (∀ x, u = .v x → V q = x) ∧ ((∀ x, u ≠ .v x) → ∀ s, o.op = .move (.tmp s) → V q = a.tmps.getD s undef) := by
    refine ⟨fun q => match us[q]?, l[q]? with
      | some u, some o => valOf a u o.op
      | _, _ => undef, fun q o u ho hu hmq => ⟨fun x hx => ?_, fun hx s hop => ?_⟩⟩
    · simp only [hu, ho, hx, valOf]
    · simp only [hu, ho, hop]
      cases u <;> first | rfl | exact absurd rfl (hx _)
  have relV : ∀ (q : Nat) o u, l[q]? = some o → us[q]? = some u → mN q = true → Rel X u (V q) ∧ own1 (some u) = none ∧ ∀ s, o.op = .move (.tmp s) → (∀ (q' : Nat) o', l[q']? = some o' → mN q' = true → o'.dst ≠ some s) → V q = a.tmps.getD s undef := by
    intro q o u ho hu hmq
    obtain ⟨d, k1, k2, k3, k4, k5, k6⟩ := hstep q o u ho hu hmq
    have hmv : ∀ s, o.op = .move (.tmp s) → (∀ (q' : Nat) o', l[q']? = some o' → mN q' = true → o'.dst ≠ some s) → Rel X u (a.tmps.getD s undef) := fun s hop hns => by
      refine (move_run (F := F) hop k4 ⟨hs.gb, hs.fb, fun t u' ht hu' => ?_, fun k c hk => ?_⟩).1
      · rw [hop] at ht
        simp [Op.operands] at ht
        subst ht
        rcases hputs q t u' hu' with ⟨q', o', _, k7, k9, k8, _⟩ | ⟨k7, _⟩
        · exact absurd k8 (hns q' o' k7 k9)
        · exact hs.slot t u' k7
      · rw [puts_h] at hk; exact hbox1 k c hk
    obtain ⟨v1, v2⟩ := hV q o u ho hu hmq
    refine ⟨?_, k5, fun s hop hns => ?_⟩
    · rcases k6 with ⟨x, rfl⟩ | ⟨s, hop, hns⟩
      · rw [v1 x rfl]; exact .v x
      · by_cases hx : ∃ x, u = .v x
        · obtain ⟨x, rfl⟩ := hx
          rw [v1 x rfl]; exact .v x
        · rw [v2 (fun x e => hx ⟨x, e⟩) s hop]; exact hmv s hop hns
    · by_cases hx : ∃ x, u = .v x
      · obtain ⟨x, rfl⟩ := hx
        rw [v1 x rfl]
        have := rel_v (hmv s hop hns)
        exact this.symm
      · exact v2 (fun x e => hx ⟨x, e⟩) s hop
  -- the act with all of it
  have hst : ∀ (q : Nat) o d, l[q]? = some o → mN q = true → o.dst = some d → d < a.tmps.size := fun q o d ho hmq hod => by
    have hql := (List.getElem?_eq_some_iff.1 ho).1
    obtain ⟨d', k1, _, k3, _⟩ := hstep q o us[q] ho (List.getElem?_eq_getElem (by omega)) hmq
    rw [hod] at k1; cases k1
    rw [hs.size]
    exact lt_of_ble k3
  obtain ⟨tf0, hf1, hf2, hf3⟩ : ∃ tf0 : Array Value, tf0.size = a.tmps.size ∧ (∀ t, (∀ (q : Nat) o, l[q]? = some o → mN q = true → o.dst ≠ some t) → tf0.getD t undef = a.tmps.getD t undef) ∧ ∀ (q : Nat) o t, l[q]? = some o → mN q = true → o.dst = some t → tf0.getD t undef = V q := by
    classical
    refine ⟨Array.ofFn (n := a.tmps.size) fun t => if hx : ∃ q o, l[q]? = some o ∧ mN q = true ∧ o.dst = some t.1 then V (Classical.choose hx) else a.tmps.getD t.1 undef, by simp, fun t ht => ?_, fun q o t ho hmq hod => ?_⟩
    · simp only [Array.getD_eq_getD_getElem?, Array.getElem?_ofFn]
      by_cases hl : t < a.tmps.size
      · rw [dif_pos hl, dif_neg (by rintro ⟨q, o, k1, k2, k3⟩; exact ht q o k1 k2 k3)]; rfl
      · rw [dif_neg hl, Array.getElem?_eq_none (Nat.le_of_not_lt hl)]
    · simp only [Array.getD_eq_getD_getElem?, Array.getElem?_ofFn]
      have hl := hst q o t ho hmq hod
      have hx : ∃ q o, l[q]? = some o ∧ mN q = true ∧ o.dst = some t := ⟨q, o, ho, hmq, hod⟩
      rw [dif_pos hl, dif_pos hx]
      obtain ⟨o', k1, k2, k3⟩ := Classical.choose_spec hx
      have := hB.ndst _ q o' o t k1 ho k2 k3 hod
      simp only [Option.getD_some, this]
  have hfull : ∀ t u, look (puts (σ.withH H1) (msk mN 0 l) us).t t = some u → (∃ (q : Nat) (o : Oper), l[q]? = some o ∧ mN q = true ∧ o.dst = some t ∧ us[q]? = some u) ∨ (look σ.t t = some u ∧ ∀ (q : Nat) o, l[q]? = some o → mN q = true → o.dst ≠ some t) := by
    intro t u hu
    have e1 : (msk mN 0 l).take l.length = msk mN 0 l := List.take_of_length_le (by rw [msk_len]; omega)
    have e2 : us.take l.length = us := List.take_of_length_le (by omega)
    rcases hputs l.length t u (by rw [e1, e2]; exact hu) with ⟨q, o, _, k⟩ | ⟨k1, k2⟩
    · exact .inl ⟨q, o, k⟩
    · exact .inr ⟨k1, fun q o ho => k2 q o (List.getElem?_eq_some_iff.1 ho).1 ho⟩
  have hs0 : SimE F' X (((puts (σ.withH H1) (msk mN 0 l) us).withH H0).als (nMoves l mN 0 l)) tf0 := by
    refine als_sim (hs.other (by rw [hf1, hs.size]; exact (puts_n (msk mN 0 l) us (σ.withH H1)).symm) hF'lt (fun t u hu => ?_) (fun k c hk => ?_) (puts_e (msk mN 0 l) us (σ.withH H1) he) (fun r => r) (fun r sz lw ho => .inr ?_) (fun _ _ _ _ _ _ _ _ hne _ _ _ _ => hne)) fun p hp => ?_
    · rcases hfull t u hu with ⟨q, o, k1, k2, k3, k4⟩ | ⟨k1, k2⟩
      · rw [hf3 q o t k1 k2 k3]; exact (relV q o u k1 k4 k2).1
      · rw [hf2 t k2]; exact hs.slot t u k1
    · obtain ⟨k1, k2⟩ := h0look k c hk
      refine ⟨k2, fun hb => ?_⟩
      rcases hb with hb | ⟨c', hc⟩
      · exact (hs.box k c k2).nF hb
      · have := (h1look k c' hc).1
        rw [k1] at this; cases this
    · cases r with
      | s t =>
        obtain ⟨k0⟩ : look (puts (σ.withH H1) (msk mN 0 l) us).t t = some (.sl true sz lw) ∧ True := ⟨own_s_look ho, trivial⟩
        rcases hfull t _ k0 with ⟨q, o, k1, k2, k3, k4⟩ | ⟨k1, k2⟩
        · have := (relV q o _ k1 k4 k2).2.1
          cases this
        · have hoo : σ.own (.s t) = some (sz, lw) := by simp only [AS.own, k1]; rfl
          refine ⟨hoo, by simp only [rootV, hf2 t k2], fun a1 n c hr => hnF' (.s t) sz lw a1 n c hoo (by simp only [rootV, hf2 t k2] at hr ⊢; exact hr)⟩
      | c k o =>
        have ho' : AS.own ((puts (σ.withH H1) (msk mN 0 l) us).withH H0) (.c k o) = some (sz, lw) := ho
        simp only [AS.own, AS.withH] at ho'
        cases hl : look H0 k with
        | none => rw [hl] at ho'; cases ho'
        | some c =>
          rw [hl] at ho'
          have hoo : σ.own (.c k o) = some (sz, lw) := by simp only [AS.own, (h0look k c hl).2]; exact ho'
          exact ⟨hoo, rfl, fun a1 n c hr => hnF' (.c k o) sz lw a1 n c hoo hr⟩
    · obtain ⟨i, o, k1, k2, k3, k4, k5⟩ := nMoves_get l 0 p hp
      rw [Nat.zero_add] at k2
      have hil := (List.getElem?_eq_some_iff.1 k1).1
      rw [hf3 i o p.1 k1 k2 k3, (relV i o us[i] k1 (List.getElem?_eq_getElem (by omega)) k2).2.2 p.2 k4 k5, hf2 p.2 k5]
  refine wp_region_any hm ?_
  let Inv : Array Bool → GW → Act → Prop := fun listed X1 a1 => ∃ (tf : Array Value) (σ1 : AS) (done rem : List Nat), cs = done ++ rem ∧ (∀ i ∈ done, listed.getD i false = true) ∧ (∀ i ∈ rem, listed.getD i false = false) ∧ Filled l mN V listed a1.tmps tf ∧ SimE F' X1 σ1 tf ∧
    CSem P (fun σ2 => ARun P Q ks (σ2.withH (σ2.h ++ H1))) (rem.filterMap fun i => l[i]?) σ1 ∧ Ext F' X X1 ∧ a1.tmps.size = a.tmps.size ∧ (∀ t, (∀ (q : Nat) oq, l[q]? = some oq → oq.dst = some t → mN q = false ∧ listed.getD q false = false) → a1.tmps.getD t undef = a.tmps.getD t undef)
  have key : ∀ (fuel : Nat) (listed : Array Bool) (X1 : GW) (a1 : Act), listed.size = l.length →
      ((List.range l.length).filter (fun i => !listed.getD i true)).length ≤ fuel → a1.defers = D → Inv listed X1 a1 → (∀ j oj, l[j]? = some oj → listed.getD j false = true → ∀ d ∈ depsOf oj, listed.getD d false = true) →
      wpAny P .any l.toArray (PostA F X D (Stk P Q ks)) fuel listed a1 X1.w := by
    have fin : ∀ (listed : Array Bool) (X1 : GW) (a1 : Act), listed.size = l.length → Region.ready .any l.toArray listed = [] → a1.defers = D → Inv listed X1 a1 → PostA F X D (Stk P Q ks) .normal a1 X1.w := by
      rintro listed X1 a1 hsz hnil hd1 ⟨tf, σ1, done, rem, c1, c2, c3, c4, c5, c6, c7, c8, c9⟩
      have hall : ∀ i, i < l.length → listed.getD i false = true := by
        intro i hil
        apply Classical.byContradiction
        intro hc
        have hc : listed.getD i false = false := by simpa using hc
        obtain ⟨k, hk, hkf, hkl⟩ := first_false (fun j => listed.getD j false) l.length ⟨i, hil, hc⟩
        have hmem : k ∈ Region.ready .any l.toArray listed := by
          refine mem_ready.2 ⟨by rw [getD_tf (by omega)]; exact hkf, l[k], by simp [hk], fun e he hb => ?_⟩
          exact hkl e.on (hB.lex k l[k] (List.getElem?_eq_getElem hk) e.on (mem_depsOf.2 ⟨e, he, hb, rfl⟩))
        rw [hnil] at hmem; cases hmem
      have hrem : rem = [] := by
        cases rem with
        | nil => rfl
        | cons c r =>
          have h1 := c3 c List.mem_cons_self
          rw [hall c (hB.clt c (by rw [c1]; simp))] at h1; cases h1
      subst hrem
      have htf : tf = a1.tmps := by
        apply Array.ext c4.size
        intro i h1 h2
        have := c4.same i fun q o k1 _ _ => hall q (List.getElem?_eq_some_iff.1 k1).1
        simpa [h1, h2] using this
      rw [htf] at c5
      exact ⟨hd1, X1, _, rfl, c6, c5.back hFF (fun k c hk => .inr ⟨c, hk⟩) hbox1 hpl c7, c7.mono hFF⟩
    intro fuel
    induction fuel with
    | zero =>
      intro listed X1 a1 hsz hf hd1 hI hdn
      have hnil : Region.ready .any l.toArray listed = [] := by
        rw [List.eq_nil_iff_forall_not_mem]
        intro i hi
        obtain ⟨h1, o, h2, _⟩ := mem_ready.1 hi
        have hil : i < l.length := by simpa using (Array.getElem?_eq_some_iff.1 h2).1
        have h0 := List.length_eq_zero_iff.1 (Nat.le_zero.1 hf)
        have := List.filter_eq_nil_iff.1 h0 i (List.mem_range.2 hil)
        rw [h1] at this; exact this rfl
      exact ⟨hnil, fin listed X1 a1 hsz hnil hd1 hI⟩
    | succ fuel ih =>
      intro listed X1 a1 hsz hf hd1 hI hdn
      refine ⟨fun hnil => fin listed X1 a1 hsz hnil hd1 hI, fun i hi => ?_⟩
      obtain ⟨h1, o, h2, h3⟩ := mem_ready.1 hi
      have h2' : l[i]? = some o := by simpa using h2
      have hil : i < l.length := (List.getElem?_eq_some_iff.1 h2').1
      have hlf : listed.getD i false = false := by rw [← getD_tf (by omega)]; exact h1
      have hdep : ∀ q ∈ depsOf o, listed.getD q false = true := fun q hq => by
        obtain ⟨e, k1, k2, k3⟩ := mem_depsOf.1 hq
        rw [← k3]; exact h3 e k1 k2
      have hcnt : ((List.range l.length).filter (fun j => !(listed.setIfInBounds i true).getD j true)).length ≤ fuel := by
        have := count_set hil hsz h1
        omega
      obtain ⟨tf, σ1, done, rem, c1, c2, c3, c4, c5, c6, c7, c8, c9⟩ := hI
      have hset : ∀ j, (listed.setIfInBounds i true).getD j false = if j = i then true else listed.getD j false := fun j => getD_setb false (by omega)
      have hseen : ∀ t, t ∈ seesOf l o → tf.getD t undef = a1.tmps.getD t undef := fun t ht => c4.same t fun q oq k1 k2 k3 => hdep q (hB.settled i o q oq t h2' k1 k2 k3 ht).2
      have hdn' : ∀ j oj, l[j]? = some oj → (listed.setIfInBounds i true).getD j false = true → ∀ d ∈ depsOf oj, (listed.setIfInBounds i true).getD d false = true := fun j oj hoj hj d hd => by
        rw [hset] at hj ⊢
        split
        · rfl
        · by_cases e : j = i
          · subst e
            rw [h2'] at hoj; cases hoj
            exact hdep d hd
          · rw [if_neg e] at hj
            exact hdn j oj hoj hj d hd
      unfold wpOp
      simp only [h2]
      cases hmi : mN i with
      | true =>
        have hui : us[i]? = some us[i] := List.getElem?_eq_getElem (by omega)
        obtain ⟨d, k1, k2, k3, k4, _, k6⟩ := hstep i o us[i] h2' hui hmi
        have hdl := hst i o d h2' hmi k1
        have hfree : ∀ t, t ∈ seesOf l o → (∀ (q : Nat) o', l[q]? = some o' → mN q = true → o'.dst ≠ some t) → ∀ (q : Nat) oq, l[q]? = some oq → oq.dst = some t → mN q = false ∧ listed.getD q false = false := fun t hts hn q oq hq hod => by
          cases hmq : mN q with
          | true => exact absurd hod (hn q oq hq hmq)
          | false =>
            refine ⟨rfl, ?_⟩
            cases hl : listed.getD q false with
            | false => rfl
            | true =>
              have := hdn q oq hq hl i (hB.nsees i o q oq t h2' hmi hq hmq hod hts)
              rw [hlf] at this; cases this
        have hR : SimR F X1 (puts (σ.withH H1) ((msk mN 0 l).take i) (us.take i)) o.op a1.tmps := by
          refine ⟨c5.gb, fun b hb => c5.fb b (hFF b hb), fun t u ht hu => ?_, fun k c hk => ?_⟩
          · have hts : t ∈ seesOf l o := by simp only [seesOf]; exact List.mem_append_left _ (mem_tmpsOf ht)
            rw [← hseen t hts]
            rcases hputs i t u hu with ⟨q, oq, _, j1, j2, j3, j4⟩ | ⟨j1, j2⟩
            · rw [c4.val q oq t j1 j2 j3]
              exact (relV q oq u j1 j4 j2).1.mono c7.pres
            · rw [hseen t hts, c9 t (hfree t hts fun q o' hq hmq hod => j2 q o' (hB.settled i o q o' t h2' hq hmq hod hts).1 hq hmq hod)]
              exact (hs.slot t u j1).mono c7.pres
          · rw [puts_h] at hk
            have hb := hbox1 k c hk
            exact hb.keep ⟨(c7.frame k (.inr ⟨c, hk⟩)).1, (c7.frame k (.inr ⟨c, hk⟩)).2, hb.nF⟩ c7.pres
        have hw : Region.wanted o (yielded l.toArray a1.tmps) = true := by unfold Region.wanted; rw [k2]
        rw [if_pos hw]
        left
        have hrun : Runs P o a1 X1.w fun x w' => x = V i ∧ ∃ X2 : GW, X2.w = w' ∧ New X1 X2 ∧ (∀ b n, X2.g b = some n → b < X2.w.heap.size) := by
          rcases k6 with ⟨x, hx⟩ | ⟨s, hop, hns⟩
          · refine (k4 F X1 a1 hR).mono fun y w' ⟨X2, q1, q2, q3, q4, _⟩ => ⟨?_, X2, q1, q2, q3⟩
            rw [hx] at q4
            rw [(hV i o us[i] h2' hui hmi).1 x hx]
            exact rel_v q4
          · have hex := (move_run hop k4 hR).2
            unfold Runs
            rw [hex]
            refine ⟨?_, X1, rfl, New.refl X1, c5.gb⟩
            rw [(relV i o us[i] h2' hui hmi).2.2 s hop hns]
            exact c9 s (hfree s (by simp only [seesOf, hop]; exact List.mem_append_left _ (by simp [Op.operands, tmpsOf])) hns)
        refine hrun.wp fun x w' ⟨hx, X2, q1, q2, q3⟩ => ?_
        subst q1 hx
        refine ih (listed.setIfInBounds i true) X2 (a1.put o.dst (V i)) (by simp [hsz]) hcnt (by rw [put_defers]; exact hd1) ⟨tf, σ1, done, rem, c1, fun j hj => ?_, fun j hj => ?_, ⟨by rw [put_sz]; exact c4.size, fun t ht => ?_, c4.val⟩, c5.new q2 q3, c6, c7.trans (q2.ext c5.gb c5.fb), by rw [put_sz]; exact c8, fun t ht => ?_⟩ hdn'
        · rw [hset]; split
          · rfl
          · exact c2 j hj
        · rw [hset, if_neg (fun e => by
            subst e
            have := (hB.call j hil).2 (by rw [c1]; exact List.mem_append_right _ hj)
            rw [hmi] at this; cases this)]
          exact c3 j hj
        · rw [put_getD, k1]
          by_cases e : t = d
          · subst e
            rw [if_pos ⟨rfl, by rw [c8]; exact hdl⟩]
            exact c4.val i o t h2' hmi k1
          · rw [if_neg (by rintro ⟨h, _⟩; exact e (Option.some.inj h).symm)]
            refine c4.same t fun q oq j1 j2 j3 => ?_
            have := ht q oq j1 j2 j3
            rw [hset] at this
            by_cases e2 : q = i
            · subst e2
              rw [h2'] at j1; cases j1
              rw [k1] at j3; cases j3; exact absurd rfl e
            · rw [if_neg e2] at this; exact this
        · rw [put_getD, if_neg (by
            rintro ⟨h, _⟩
            have := (ht i o h2' h).1
            rw [hmi] at this; cases this)]
          refine c9 t fun q oq j1 j2 => ?_
          obtain ⟨m1, m2⟩ := ht q oq j1 j2
          refine ⟨m1, ?_⟩
          rw [hset] at m2
          by_cases e2 : q = i
          · rw [if_pos e2] at m2; cases m2
          · rw [if_neg e2] at m2; exact m2
      | false =>
        obtain ⟨hg, hsel⟩ := hB.cguard i o h2' hmi
        have hics : i ∈ cs := (hB.call i hil).1 hmi
        have hirem : i ∈ rem := by
          rw [c1] at hics
          rcases List.mem_append.1 hics with h | h
          · rw [c2 i h] at hlf; cases hlf
          · exact h
        obtain ⟨r, hr⟩ : ∃ r, rem = i :: r := by
          cases hrem : rem with
          | nil => rw [hrem] at hirem; cases hirem
          | cons c r =>
            rw [hrem] at hirem
            rcases List.mem_cons.1 hirem with rfl | hir
            · exact ⟨r, rfl⟩
            · exfalso
              obtain ⟨j, hj⟩ := List.getElem?_of_mem hir
              have hjl : j < (c :: r).length := by
                have := (List.getElem?_eq_some_iff.1 hj).1
                simp; omega
              have hpre : cs[done.length + j]? = some (c :: r)[j] := by
                rw [c1, hrem, List.getElem?_append_right (by omega), show done.length + j - done.length = j by omega]
                exact List.getElem?_eq_getElem hjl
              have hpost : cs[done.length + j + 1]? = some i := by
                rw [c1, hrem, List.getElem?_append_right (by omega), show done.length + j + 1 - done.length = j + 1 by omega]
                simpa using hj
              have h5 := hdep _ (hB.cchain _ _ _ o hpre hpost h2')
              rw [c3 _ (by rw [hrem]; exact List.getElem_mem hjl)] at h5; cases h5
        subst hr
        have hw : Region.wanted o (yielded l.toArray a1.tmps) = true := by unfold Region.wanted; rw [hg]
        rw [if_pos hw]
        left
        simp only [List.filterMap_cons, h2', CSem] at c6
        have hrun := c6 F' X1 { tmps := tf, defers := a1.defers } c5
        have hev : execOp ({ tmps := tf, defers := a1.defers } : Act).eval o = execOp a1.eval o := by
          refine execOp_congr o hsel fun x hx => ?_
          cases x with
          | tmp t => exact hseen t (by simp only [seesOf]; exact List.mem_append_left _ (mem_tmpsOf (by simpa using hx)))
          | const v => rfl
          | func f => rfl
          | global g => rfl
        unfold Runs at hrun
        rw [hev] at hrun
        have hrun1 : Runs P o a1 X1.w fun x w' => ∃ (X' : GW) (σ' : AS), X'.w = w' ∧ CSem P (fun σ2 => ARun P Q ks (σ2.withH (σ2.h ++ H1))) (r.filterMap fun i => l[i]?) σ' ∧ SimE F' X' σ' (({ tmps := tf, defers := a1.defers } : Act).put o.dst x).tmps ∧ Ext F' X1 X' := hrun
        have hnd : ∀ (q : Nat) oq t, l[q]? = some oq → mN q = true → oq.dst = some t → o.dst ≠ some t := fun q oq t j1 j2 j3 e => by
          have := hB.ndst q i oq o t j1 h2' j2 j3 e
          subst this
          rw [hmi] at j2; cases j2
        refine hrun1.wp fun x w' ⟨X2, σ2, q1, q2, q3, q4⟩ => ?_
        subst q1
        have hnodup := hB.cnodup
        rw [c1] at hnodup
        refine ih (listed.setIfInBounds i true) X2 (a1.put o.dst x) (by simp [hsz]) hcnt (by rw [put_defers]; exact hd1) ⟨_, σ2, done ++ [i], r, by rw [c1]; simp, fun j hj => ?_, fun j hj => ?_, ⟨by rw [put_sz, put_sz]; exact c4.size, fun t ht => ?_, fun q oq t j1 j2 j3 => ?_⟩, q3, q2, c7.trans q4, by rw [put_sz]; exact c8, fun t ht => ?_⟩ hdn'
        · rw [hset]; split
          · rfl
          · rcases List.mem_append.1 hj with hj | hj
            · exact c2 j hj
            · rename_i hne
              simp at hj; exact absurd hj hne
        · have hji : j ≠ i := by
            rintro rfl
            have h6 := (List.nodup_append.1 hnodup).2.1
            rw [List.nodup_cons] at h6
            exact h6.1 hj
          rw [hset, if_neg hji]
          exact c3 j (List.mem_cons_of_mem _ hj)
        · rw [put_getD, put_getD]
          have hsz2 : ({ tmps := tf, defers := a1.defers } : Act).tmps.size = a1.tmps.size := c4.size
          rw [hsz2]
          by_cases e : o.dst = some t ∧ t < a1.tmps.size
          · rw [if_pos e, if_pos e]
          · rw [if_neg e, if_neg e]
            refine c4.same t fun q oq j1 j2 j3 => ?_
            have := ht q oq j1 j2 j3
            rw [hset] at this
            by_cases e2 : q = i
            · subst e2; rw [hmi] at j2; cases j2
            · rw [if_neg e2] at this; exact this
        · rw [put_getD, if_neg (by rintro ⟨h, _⟩; exact hnd q oq t j1 j2 j3 h)]
          exact c4.val q oq t j1 j2 j3
        · rw [put_getD, if_neg (by
            rintro ⟨h, _⟩
            have := (ht i o h2' h).2
            rw [hset, if_pos rfl] at this; cases this)]
          refine c9 t fun q oq j1 j2 => ?_
          obtain ⟨m1, m2⟩ := ht q oq j1 j2
          refine ⟨m1, ?_⟩
          rw [hset] at m2
          by_cases e2 : q = i
          · rw [if_pos e2] at m2; cases m2
          · rw [if_neg e2] at m2; exact m2
  have hXd : New X ⟨X.w.drew, X.g⟩ := ⟨rfl, rfl, rfl, Nat.le_refl _, fun _ _ => ⟨rfl, rfl⟩⟩
  have hsd := hs0.new hXd hs.gb
  have hno : ∀ i, (Array.replicate l.toArray.size false).getD i false = false := fun i => by
    simp only [Array.getD_eq_getD_getElem?, Array.getElem?_replicate]
    split <;> simp
  refine key _ _ ⟨X.w.drew, X.g⟩ a (by simp) (by refine Nat.le_trans (List.length_filter_le _ _) (by simp)) hdf ⟨tf0, _, [], cs, rfl, (fun i hi => by cases hi), (fun i _ => hno i), ⟨hf1, (fun t ht => hf2 t fun q o k1 k2 k3 => by have := ht q o k1 k2 k3; rw [hno] at this; cases this), hf3⟩, hsd, hC, hXd.ext hs.gb hF'lt, rfl, fun t _ => rfl⟩ (fun j oj _ hf => by rw [hno] at hf; cases hf)
/-! ### The order, checked -/
def isSel : Op → Bool
  | .select _ _ => true
  | _ => false
def pairB (l : List Oper) (mN : Nat → Bool) (i q : Nat) (o oq : Oper) : Bool :=
  match oq.dst with
  | none => true
  | some d => (!mN q || ((i == q || !(o.dst == some d)) && (!(seesOf l o).contains d || (Nat.blt q i && (depsOf o).contains q)))) && (!mN i || mN q || !(seesOf l o).contains d || (depsOf oq).contains i)
def chnB (l : List Oper) : List Nat → Bool
  | a :: b :: r => (match l[b]? with | some o => (depsOf o).contains a | none => true) && chnB l (b :: r)
  | _ => true
theorem chnB_spec {l : List Oper} : ∀ {cs : List Nat}, chnB l cs = true → ∀ (j a b : Nat) o, cs[j]? = some a → cs[j + 1]? = some b → l[b]? = some o → a ∈ depsOf o
  | [], _, j, a, b, o, h1, _, _ => by simp at h1
  | [x], _, j, a, b, o, _, h2, _ => by simp at h2
  | x :: y :: r, h, 0, a, b, o, h1, h2, h3 => by
    simp only [chnB, Bool.and_eq_true] at h
    simp at h1 h2
    subst h1 h2
    have := h.1
    rw [h3] at this
    simpa using this
  | x :: y :: r, h, j + 1, a, b, o, h1, h2, h3 => by
    simp only [chnB, Bool.and_eq_true] at h
    exact chnB_spec h.2 j a b o (by simpa using h1) (by simpa using h2) h3
def mixB (l : List Oper) (mN : Nat → Bool) (cs : List Nat) : Bool :=
  lexFrom 0 l && (l.zipIdx.all fun p => l.zipIdx.all fun q => pairB l mN p.2 q.2 p.1 q.1) && (l.zipIdx.all fun p => (mN p.2 == !cs.contains p.2) && (mN p.2 || (p.1.guard.isNone && !isSel p.1.op))) && cs.all (fun i => Nat.blt i l.length) && decide cs.Nodup && chnB l cs
theorem mem_zi {l : List Oper} {i : Nat} {o : Oper} (h : l[i]? = some o) : (o, i) ∈ l.zipIdx := by
  refine List.mem_of_getElem? (i := i) ?_
  rw [List.getElem?_zipIdx, h]; simp
theorem mixB_ok {l : List Oper} {mN : Nat → Bool} {cs : List Nat} (h : mixB l mN cs = true) : MixOk l mN cs := by
  simp only [mixB, Bool.and_eq_true] at h
  obtain ⟨⟨⟨⟨⟨h1, h2⟩, h3⟩, h4⟩, h5⟩, h6⟩ := h
  have hp : ∀ (i q : Nat) o oq, l[i]? = some o → l[q]? = some oq → pairB l mN i q o oq = true := fun i q o oq a b => List.all_eq_true.1 (List.all_eq_true.1 h2 _ (mem_zi a)) _ (mem_zi b)
  have h3' : ∀ (i : Nat) o, l[i]? = some o → (mN i == !cs.contains i) = true ∧ (mN i || (o.guard.isNone && !isSel o.op)) = true := fun i o a => by
    have := List.all_eq_true.1 h3 _ (mem_zi a)
    simpa using this
  refine ⟨fun i o ho j hj => ?_, fun q q' o o' d a b c e f => ?_, fun i o q oq d a b c e f => ?_, fun i o q oq d a c b c2 e f => ?_, fun i hi => ?_, fun i hi => ?_, of_decide_eq_true h5, chnB_spec h6, fun i o ho hm => ?_⟩
  · have := lexFrom_spec l 0 i o h1 ho j hj
    omega
  · have := hp q' q o' o b a
    simp only [pairB, e, c, Bool.not_true, Bool.false_or, Bool.and_eq_true, Bool.or_eq_true, f, beq_self_eq_true, Bool.false_eq_true, or_false] at this
    have := this.1.1
    simp at this
    exact this.symm
  · have := hp i q o oq a b
    have hf : (seesOf l o).contains d = true := by simpa using f
    simp only [pairB, e, c, Bool.not_true, Bool.false_or, Bool.and_eq_true, hf] at this
    obtain ⟨⟨_, k1, k2⟩, _⟩ := this
    exact ⟨by simpa [Nat.blt_eq] using k1, by simpa using k2⟩
  · have := hp i q o oq a b
    have hf : (seesOf l o).contains d = true := by simpa using f
    simp only [pairB, e, c, c2, hf, Bool.not_true, Bool.not_false, Bool.true_or, Bool.false_or, Bool.or_false, Bool.true_and, Bool.and_false, Bool.false_eq_true] at this
    simpa using this
  · have ho := List.getElem?_eq_getElem hi
    have := (h3' i _ ho).1
    have e : mN i = !cs.contains i := by simpa using this
    rw [e]; simp
  · have := List.all_eq_true.1 h4 i hi
    simpa [Nat.blt_eq] using this
  · have := (h3' i o ho).2
    rw [hm] at this
    simp only [Bool.false_or, Bool.and_eq_true] at this
    refine ⟨by cases hg : o.guard with
      | none => rfl
      | some p => rw [hg] at this; simp at this, fun c b e => ?_⟩
    have h7 := this.2
    rw [e] at h7; simp [isSel] at h7
end
end Go.Proofs.Ytgmlkhfjhogdbaa
