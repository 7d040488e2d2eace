-- slim: written by gen/slim.py from XGM.lean.tpl
/- Regions that draw: what turns nothing in whatever order, among a chain of what turns something. -/
import Derived.Test.YtgmbgbalcndohaaGE
namespace Go.Proofs.Ytgmbgbalcndohaa
open Go.RowKit P
set_option linter.unusedSimpArgs false
set_option linter.unusedVariables false

def noOp : Oper := ⟨none, .assign (.const undef), 0, "", #[], none⟩
def msk (mN : Nat → Bool) : Nat → List Oper → List Oper
  | _, [] => []
  | k, o :: r => (match mN k with | true => o | false => noOp) :: msk mN (k + 1) r
theorem msk_len (mN : Nat → Bool) : ∀ (k : Nat) (l : List Oper), (msk mN k l).length = l.length
  | _, [] => rfl
  | k, o :: r => by simp only [msk, List.length_cons, msk_len mN (k + 1) r]
theorem msk_get (mN : Nat → Bool) : ∀ (k : Nat) (l : List Oper) (i : Nat) (o : Oper), l[i]? = some o → (msk mN k l)[i]? = some (match mN (k + i) with | true => o | false => noOp)
  | _, [], i, o, h => by simp at h
  | k, o0 :: r, 0, o, h => by simp at h; subst h; simp [msk]
  | k, o0 :: r, i + 1, o, h => by
    simp only [msk, List.getElem?_cons_succ]
    rw [msk_get mN (k + 1) r i o (by simpa using h), show k + 1 + i = k + (i + 1) by omega]
theorem msk_dst {mN : Nat → Bool} {l : List Oper} {i : Nat} {o : Oper} {d : Nat} (h : (msk mN 0 l)[i]? = some o) (hd : o.dst = some d) : mN i = true ∧ l[i]? = some o := by
  have hi := (List.getElem?_eq_some_iff.1 h).1
  rw [msk_len] at hi
  have := msk_get mN 0 l i l[i] (List.getElem?_eq_getElem hi)
  rw [h, Nat.zero_add] at this
  cases hm : mN i with
  | true => rw [hm] at this; cases this; exact ⟨rfl, List.getElem?_eq_getElem hi⟩
  | false => rw [hm] at this; cases this; cases hd
section
variable {P : Program} {Q : Exit → AS → Prop} {ks : List It} {σ : AS} {K : AS → Prop} {l : List Oper} {mN : Nat → Bool}
theorem look_filt {α : Type} (p : Nat → Bool) : ∀ (h : List (Nat × α)) (k : Nat), look (h.filter fun q => p q.1) k = if p k = true then look h k else none
  | [], k => by simp [look_nil]
  | (q, a) :: r, k => by
    have ih := look_filt p r k
    rw [List.filter_cons]
    by_cases hp : p q = true
    · rw [if_pos hp, look_cons, look_cons, ih]
      by_cases e : k = q
      · subst e; rw [if_pos rfl, if_pos hp, if_pos rfl]
      · rw [if_neg e, if_neg e]
    · rw [if_neg hp, ih, look_cons]
      by_cases e : k = q
      · subst e; rw [if_neg hp, if_neg hp]
      · rw [if_neg e]
structure MixOk (l : List Oper) (mN : Nat → Bool) (cs : List Nat) : Prop where
  lex : ∀ i o, l[i]? = some o → ∀ j ∈ depsOf o, j < i
  ndst : ∀ q q' o o' d, l[q]? = some o → l[q']? = some o' → mN q = true → o.dst = some d → o'.dst = some d → q = q'
  settled : ∀ i o q oq d, l[i]? = some o → l[q]? = some oq → mN q = true → oq.dst = some d → d ∈ seesOf l o → q < i ∧ q ∈ depsOf o
  nsees : ∀ i o q oq d, l[i]? = some o → mN i = true → l[q]? = some oq → mN q = false → oq.dst = some d → d ∈ seesOf l o → i ∈ depsOf oq
  call : ∀ i, i < l.length → (mN i = false ↔ i ∈ cs)
  clt : ∀ i ∈ cs, i < l.length
  cnodup : cs.Nodup
  cchain : ∀ (j a b : Nat) o, cs[j]? = some a → cs[j + 1]? = some b → l[b]? = some o → a ∈ depsOf o
  cguard : ∀ i o, l[i]? = some o → mN i = false → o.guard = none ∧ ∀ c b, o.op ≠ .select c b
/-- The act with all that is to come of what turns nothing. -/
structure Filled (l : List Oper) (mN : Nat → Bool) (V : Nat → Value) (listed : Array Bool) (tm tf : Array Value) : Prop where
  size : tf.size = tm.size
  same : ∀ t, (∀ (q : Nat) o, l[q]? = some o → mN q = true → o.dst = some t → listed.getD q false = true) → tf.getD t undef = tm.getD t undef
  val : ∀ (q : Nat) o t, l[q]? = some o → mN q = true → o.dst = some t → tf.getD t undef = V q
def nMoves (l : List Oper) (mN : Nat → Bool) (k : Nat) : List Oper → List (Nat × Nat)
  | [] => []
  | o :: r => (match mN k, o.dst, o.op with
    | true, some d, .move (.tmp s) => if l.zipIdx.all (fun q => !mN q.2 || !(q.1.dst == some s)) then [(d, s)] else []
    | _, _, _ => []) ++ nMoves l mN (k + 1) r
theorem nMoves_get {l : List Oper} {mN : Nat → Bool} : ∀ (rest : List Oper) (k : Nat) (p : Nat × Nat), p ∈ nMoves l mN k rest → ∃ (i : Nat) (o : Oper), rest[i]? = some o ∧ mN (k + i) = true ∧ o.dst = some p.1 ∧ o.op = .move (.tmp p.2) ∧ ∀ (q : Nat) o', l[q]? = some o' → mN q = true → o'.dst ≠ some p.2
  | [], k, p, h => by cases h
  | o :: r, k, p, h => by
    simp only [nMoves] at h
    rcases List.mem_append.1 h with h | h
    · split at h
      · rename_i d s hm hd ho
        split at h
        · rename_i hall
          simp at h
          subst h
          refine ⟨0, o, rfl, hm, hd, ho, fun q o' h' hq e => ?_⟩
          have := List.all_eq_true.1 hall (o', q) (List.mem_of_getElem? (i := q) (by rw [List.getElem?_zipIdx, h']; simp))
          simp [e, hq] at this
        · cases h
      · cases h
    · obtain ⟨i, o', h1, h2, h3⟩ := nMoves_get r (k + 1) p h
      exact ⟨i + 1, o', by simpa using h1, by rw [show k + (i + 1) = k + 1 + i by omega]; exact h2, h3⟩
def plainBox (cs : List AV) : Bool := cs.all fun u => (own1 (some u)).isNone
/-- Boxes that were set aside come back. -/
theorem SimE.back {F F' : Nat → Prop} {X0 X : GW} {σ' : AS} {tm : Array Value} {H1 : List (Nat × List AV)} (h : SimE F' X σ' tm) (hF : ∀ b, F b → F' b) (hF1 : ∀ k cs, look H1 k = some cs → F' k) (hb : ∀ k cs, look H1 k = some cs → BoxOk F X0 k cs) (hpl : ∀ k cs, look H1 k = some cs → plainBox cs = true) (hx : Ext F' X0 X) : SimE F X (σ'.withH (σ'.h ++ H1)) tm := by
  have hlook : ∀ k cs, look (σ'.h ++ H1) k = some cs → look σ'.h k = some cs ∨ (look σ'.h k = none ∧ look H1 k = some cs) := fun k cs hk => by
    rw [look_append] at hk
    cases hl : look σ'.h k with
    | some c => rw [hl] at hk; cases hk; exact .inl rfl
    | none => rw [hl] at hk; exact .inr ⟨rfl, hk⟩
  have hown : ∀ r sz l, (σ'.withH (σ'.h ++ H1)).own r = some (sz, l) → σ'.own r = some (sz, l) := fun r sz l ho => by
    cases r with
    | s t => exact ho
    | c k o =>
      simp only [AS.own, AS.withH] at ho ⊢
      cases hl : look (σ'.h ++ H1) k with
      | none => rw [hl] at ho; cases ho
      | some cs =>
        rw [hl] at ho
        rcases hlook k cs hl with h1 | ⟨h1, h2⟩
        · rw [h1]; exact ho
        · exfalso
          have hp := hpl k cs h2
          cases hc : cs[o]? with
          | none => simp [hc, own1] at ho
          | some u =>
            have := List.all_eq_true.1 hp u (List.mem_of_getElem? hc)
            simp [hc] at ho
            rw [ho] at this; cases this
  refine ⟨⟨h.size, h.gb, fun b hb' => h.fb b (hF b hb'), h.slot, fun k cs hk => ?_, h.eqs, fun r sz l ho => ?_, fun r r' sz l sz' l' a n c a' n' c' hne ho ho' hr hr' => h.disj r r' sz l sz' l' a n c a' n' c' hne (hown _ _ _ ho) (hown _ _ _ ho') hr hr'⟩, h.eqm⟩
  · rcases hlook k cs hk with h1 | ⟨h1, h2⟩
    · exact (h.box k cs h1).keep ⟨rfl, rfl, fun e => (h.box k cs h1).nF (hF k e)⟩ (Pres.refl X)
    · have hk' := hb k cs h2
      exact hk'.keep ⟨(hx.frame k (hF1 k cs h2)).1, (hx.frame k (hF1 k cs h2)).2, hk'.nF⟩ hx.pres
  · obtain ⟨x, h1, h2⟩ := h.own r sz l (hown r sz l ho)
    exact ⟨x, h1, h2.keep fun b n c hv => ⟨rfl, rfl, fun e => (h2.lt hv).2 (hF b e)⟩⟩
def valOf (a : Act) : AV → Op → Value
  | .v x, _ => x
  | _, .move (.tmp s) => a.tmps.getD s undef
  | _, _ => undef
theorem put_getD (a : Act) (o : Option Tmp) (x : Value) (t : Nat) : (a.put o x).tmps.getD t undef = if o = some t ∧ t < a.tmps.size then x else a.tmps.getD t undef := by
  cases o with
  | none => rw [if_neg (by simp)]; rfl
  | some d =>
    simp only [Act.put, Array.getD_eq_getD_getElem?, Array.getElem?_setIfInBounds]
    by_cases e : d = t
    · subst e
      by_cases hl : d < a.tmps.size
      · rw [if_pos rfl, if_pos hl, if_pos ⟨rfl, hl⟩]; rfl
      · rw [if_pos rfl, if_neg hl, if_neg (by simp [hl])]
        simp [Array.getElem?_eq_none (Nat.le_of_not_lt hl)]
    · rw [if_neg e, if_neg (by simp [e])]
theorem put_sz (a : Act) (o : Option Tmp) (x : Value) : (a.put o x).tmps.size = a.tmps.size := by
  cases o <;> simp [Act.put]
theorem same_g {X X' : GW} (hn : New X X') (hw : X'.w = X.w) (hg : ∀ b n, X.g b = some n → b < X.w.heap.size) (hg' : ∀ b n, X'.g b = some n → b < X'.w.heap.size) : X' = X := by
  have : X'.g = X.g := by
    funext b
    by_cases hb : b < X.w.heap.size
    · exact (hn.old b hb).2
    · cases h1 : X.g b with
      | some n => exact absurd (hg b n h1) hb
      | none =>
        cases h2 : X'.g b with
        | some n => have := hg' b n h2; rw [hw] at this; exact absurd this hb
        | none => rfl
  cases X; cases X'; simp only at hw this; subst hw this; rfl
theorem move_run {F : Nat → Prop} {X : GW} {σ : AS} {o : Oper} {u : AV} {a : Act} {s : Nat} (hop : o.op = .move (.tmp s)) (h : OpV P o σ u) (hs : SimR F X σ o.op a.tmps) : Rel X u (a.tmps.getD s undef) ∧ (execOp a.eval o).run P X.w = .ok (.value (a.tmps.getD s undef)) X.w := by
  have hex : (execOp a.eval o).run P X.w = .ok (.value (a.tmps.getD s undef)) X.w := by
    obtain ⟨dst, op, ty, pos, af, g⟩ := o
    simp only at hop
    subst hop
    rfl
  have hr := h F X a hs
  unfold Runs at hr
  rw [hex] at hr
  obtain ⟨X', h1, h2, h3, h4, h5⟩ := hr
  have := same_g h2 h1 hs.gb h3
  subst this
  exact ⟨h4, hex⟩
/-! ### The order, checked -/
def isSel : Op → Bool
  | .select _ _ => true
  | _ => false
def pairB (l : List Oper) (mN : Nat → Bool) (i q : Nat) (o oq : Oper) : Bool :=
  match oq.dst with
  | none => true
  | some d => (!mN q || ((i == q || !(o.dst == some d)) && (!(seesOf l o).contains d || (Nat.blt q i && (depsOf o).contains q)))) && (!mN i || mN q || !(seesOf l o).contains d || (depsOf oq).contains i)
def chnB (l : List Oper) : List Nat → Bool
  | a :: b :: r => (match l[b]? with | some o => (depsOf o).contains a | none => true) && chnB l (b :: r)
  | _ => true
theorem chnB_spec {l : List Oper} : ∀ {cs : List Nat}, chnB l cs = true → ∀ (j a b : Nat) o, cs[j]? = some a → cs[j + 1]? = some b → l[b]? = some o → a ∈ depsOf o
  | [], _, j, a, b, o, h1, _, _ => by simp at h1
  | [x], _, j, a, b, o, _, h2, _ => by simp at h2
  | x :: y :: r, h, 0, a, b, o, h1, h2, h3 => by
    simp only [chnB, Bool.and_eq_true] at h
    simp at h1 h2
    subst h1 h2
    have := h.1
    rw [h3] at this
    simpa using this
  | x :: y :: r, h, j + 1, a, b, o, h1, h2, h3 => by
    simp only [chnB, Bool.and_eq_true] at h
    exact chnB_spec h.2 j a b o (by simpa using h1) (by simpa using h2) h3
def mixB (l : List Oper) (mN : Nat → Bool) (cs : List Nat) : Bool :=
  lexFrom 0 l && (l.zipIdx.all fun p => l.zipIdx.all fun q => pairB l mN p.2 q.2 p.1 q.1) && (l.zipIdx.all fun p => (mN p.2 == !cs.contains p.2) && (mN p.2 || (p.1.guard.isNone && !isSel p.1.op))) && cs.all (fun i => Nat.blt i l.length) && decide cs.Nodup && chnB l cs
theorem mem_zi {l : List Oper} {i : Nat} {o : Oper} (h : l[i]? = some o) : (o, i) ∈ l.zipIdx := by
  refine List.mem_of_getElem? (i := i) ?_
  rw [List.getElem?_zipIdx, h]; simp
theorem mixB_ok {l : List Oper} {mN : Nat → Bool} {cs : List Nat} (h : mixB l mN cs = true) : MixOk l mN cs := by
  simp only [mixB, Bool.and_eq_true] at h
  obtain ⟨⟨⟨⟨⟨h1, h2⟩, h3⟩, h4⟩, h5⟩, h6⟩ := h
  have hp : ∀ (i q : Nat) o oq, l[i]? = some o → l[q]? = some oq → pairB l mN i q o oq = true := fun i q o oq a b => List.all_eq_true.1 (List.all_eq_true.1 h2 _ (mem_zi a)) _ (mem_zi b)
  have h3' : ∀ (i : Nat) o, l[i]? = some o → (mN i == !cs.contains i) = true ∧ (mN i || (o.guard.isNone && !isSel o.op)) = true := fun i o a => by
    have := List.all_eq_true.1 h3 _ (mem_zi a)
    simpa using this
  refine ⟨fun i o ho j hj => ?_, fun q q' o o' d a b c e f => ?_, fun i o q oq d a b c e f => ?_, fun i o q oq d a c b c2 e f => ?_, fun i hi => ?_, fun i hi => ?_, of_decide_eq_true h5, chnB_spec h6, fun i o ho hm => ?_⟩
  · have := lexFrom_spec l 0 i o h1 ho j hj
    omega
  · have := hp q' q o' o b a
    simp only [pairB, e, c, Bool.not_true, Bool.false_or, Bool.and_eq_true, Bool.or_eq_true, f, beq_self_eq_true, Bool.false_eq_true, or_false] at this
    have := this.1.1
    simp at this
    exact this.symm
  · have := hp i q o oq a b
    have hf : (seesOf l o).contains d = true := by simpa using f
    simp only [pairB, e, c, Bool.not_true, Bool.false_or, Bool.and_eq_true, hf] at this
    obtain ⟨⟨_, k1, k2⟩, _⟩ := this
    exact ⟨by simpa [Nat.blt_eq] using k1, by simpa using k2⟩
  · have := hp i q o oq a b
    have hf : (seesOf l o).contains d = true := by simpa using f
    simp only [pairB, e, c, c2, hf, Bool.not_true, Bool.not_false, Bool.true_or, Bool.false_or, Bool.or_false, Bool.true_and, Bool.and_false, Bool.false_eq_true] at this
    simpa using this
  · have ho := List.getElem?_eq_getElem hi
    have := (h3' i _ ho).1
    have e : mN i = !cs.contains i := by simpa using this
    rw [e]; simp
  · have := List.all_eq_true.1 h4 i hi
    simpa [Nat.blt_eq] using this
  · have := (h3' i o ho).2
    rw [hm] at this
    simp only [Bool.false_or, Bool.and_eq_true] at this
    refine ⟨by cases hg : o.guard with
      | none => rfl
      | some p => rw [hg] at this; simp at this, fun c b e => ?_⟩
    have h7 := this.2
    rw [e] at h7; simp [isSel] at h7
end
end Go.Proofs.Ytgmbgbalcndohaa
