/- A region that draws its order, whose operations and callees may make memory: each operation is told by what its value is good for in whatever later world, and may lean on the operations that it waits for, and on no others. -/
import Derived.Test.YtophpbihcfdkcaaQ
namespace Go.Proofs.Ytophpbihcfdkcaa
open Go.RowKit

abbrev Good := Value → World → Prop
/-- What a value is good for stays so while nothing that is there turns. -/
def Stable (R : Good) : Prop := ∀ v W W', R v W → Below W.heap.size W W' → R v W'
theorem stable_eq (c : Value) : Stable (fun v _ => v = c) := fun _ _ _ h _ => h
theorem stable_true : Stable (fun _ _ => True) := fun _ _ _ _ _ => trivial
/-- A new block of one cell, at whatever address. -/
def Box1 (x : Value) : Good := fun v W => ∃ b, v = .slice (some ⟨b, 0, none⟩) 1 1 ∧ W.cell? ⟨b, 0, none⟩ = some x
theorem stable_box1 (x : Value) : Stable (Box1 x) := fun _ _ _ ⟨b, h1, h2⟩ hb => ⟨b, h1, (hb.cell (p := ⟨b, 0, none⟩) (World.block_lt_of_cell? _ _ h2)).trans h2⟩

def depsOfR (o : Oper) : List Nat := (o.after.toList.filter (Region.binds .any)).map (·.on)
def origOf (a0 : Act) (o : Oper) : Value := match o.dst with | some d => a0.tmps.getD d undef | none => undef
/-- The frame, each operation's value in its slot. -/
def putAll : List Oper → (Nat → Value) → Nat → Act → Act
  | [], _, _, a => a
  | o :: r, us, k, a => putAll r us (k + 1) (a.put o.dst (us k))

def softUpon (P : Program) (W : World) (R : Good) : Result Next → Prop
  | .ok (.value v) W' => Below W.heap.size W W' ∧ R v W'
  | .ok .skip W' => Below W.heap.size W W' ∧ R undef W'
  | .ok (.enter f args) W' => W' = W ∧ Calls P f args W (fun e w'' => ∃ v, e = .returned v ∧ Below W.heap.size W w'' ∧ R v w'')
  | _ => False
def softAt (P : Program) (o : Oper) (a : Act) (W : World) (R : Good) : Prop := softUpon P W R ((execOp a.eval o).run P W)

/-- The walk in the text's order. -/
def Soft (P : Program) (l : List Oper) (X : World) (a0 : Act) (Q : Exit → Act → World → Prop) : List Good → List Oper → Prop
  | Rs, [] => ∀ us W, Below X.heap.size X W → (∀ (i : Nat) (R : Good), Rs[i]? = some R → R (us i) W) → Q .normal (putAll l us 0 a0) W
  | Rs, o :: rest => ∃ R : Good, Stable R ∧
      (∀ us W, Below X.heap.size X W → (∀ j, j ∈ depsOfR o → ∀ R' : Good, Rs[j]? = some R' → R' (us j) W) → (∀ j oj, l[j]? = some oj → Rs.length ∈ depsOfR oj → us j = origOf a0 oj) → softAt P o (putAll l us 0 a0) W R) ∧
      Soft P l X a0 Q (Rs ++ [R]) rest

def upd (us : Nat → Value) (i : Nat) (v : Value) : Nat → Value := fun j => if j = i then v else us j

theorem putAll_congr : ∀ (l : List Oper) (us us' : Nat → Value) (k : Nat) (a : Act), (∀ j, k ≤ j → us j = us' j) → putAll l us k a = putAll l us' k a
  | [], _, _, _, _, _ => rfl
  | o :: r, us, us', k, a, h => by
    simp only [putAll]
    rw [h k (Nat.le_refl _)]
    exact putAll_congr r us us' (k + 1) _ (fun j hj => h j (by omega))
theorem put_put (a : Act) (d : Option Tmp) (u v : Value) : (a.put d u).put d v = a.put d v := by
  cases d <;> simp [Act.put]
theorem putAll_put : ∀ (l : List Oper) (us : Nat → Value) (k : Nat) (a : Act) (d : Option Tmp) (v : Value), (∀ o ∈ l, ∀ x, d = some x → o.dst ≠ some x) → (putAll l us k a).put d v = putAll l us k (a.put d v)
  | [], _, _, _, _, _, _ => rfl
  | o :: r, us, k, a, d, v, h => by
    simp only [putAll]
    rw [putAll_put r us (k + 1) _ d v (fun o' ho => h o' (by simp [ho]))]
    rw [Act.put_comm a (x := d) (y := o.dst) v (us k) (fun x hx => h o (by simp) x hx)]
theorem putAll_upd : ∀ (l : List Oper) (us : Nat → Value) (k : Nat) (a : Act) (i : Nat) (o : Oper) (v : Value), l[i]? = some o → (l.filterMap (·.dst)).Nodup →
    (putAll l us k a).put o.dst v = putAll l (upd us (k + i) v) k a
  | [], _, _, _, _, _, _, h, _ => by simp at h
  | o :: r, us, k, a, 0, o', v, h, hd => by
    simp at h; subst h
    simp only [putAll]
    rw [putAll_put r us (k + 1) _ o.dst v, put_put]
    · simp only [upd, Nat.add_zero, if_true]
      exact putAll_congr _ _ _ _ _ (fun j hj => by simp only [upd]; rw [if_neg (by omega)])
    · intro o2 ho2 x hx he
      simp only [List.filterMap_cons, hx, List.nodup_cons] at hd
      exact hd.1 (List.mem_filterMap.2 ⟨o2, ho2, he⟩)
  | o :: r, us, k, a, i + 1, o', v, h, hd => by
    simp only [putAll]
    have hd' : (r.filterMap (·.dst)).Nodup := by
      simp only [List.filterMap_cons] at hd
      split at hd
      · exact hd
      · exact (List.nodup_cons.1 hd).2
    rw [putAll_upd r us (k + 1) _ i o' v (by simpa using h) hd']
    rw [show k + 1 + i = k + (i + 1) by omega]
    have : upd us (k + (i + 1)) v k = us k := by simp only [upd]; rw [if_neg (by omega)]
    rw [this]
theorem put_self (a : Act) (d : Option Tmp) : a.put d (match d with | some d => a.tmps.getD d undef | none => undef) = a := by
  cases d with
  | none => rfl
  | some d =>
    simp only [Act.put]
    cases a with
    | mk tmps defers =>
      congr 1
      apply Array.ext
      · simp
      · intro i h1 h2
        have h2' : i < tmps.size := h2
        show (tmps.setIfInBounds d (tmps.getD d undef))[i] = tmps[i]
        rw [Array.getElem_setIfInBounds]
        split
        · rename_i e; subst e; simp [h2']
        · rfl
theorem putAll_orig : ∀ (l : List Oper) (us : Nat → Value) (k : Nat) (a : Act), (∀ i o, l[i]? = some o → us (k + i) = origOf a o) → putAll l us k a = a
  | [], _, _, _, _ => rfl
  | o :: r, us, k, a, h => by
    simp only [putAll]
    have h0 : us k = origOf a o := h 0 o rfl
    have hs : a.put o.dst (us k) = a := by rw [h0]; exact put_self a o.dst
    rw [hs]
    exact putAll_orig r us (k + 1) a (fun i o' ho => by rw [show k + 1 + i = k + (i + 1) by omega]; exact h (i + 1) o' (by simpa using ho))

/-- What the walk gives: a table. -/
theorem soft_table {P : Program} {l : List Oper} {X : World} {a0 : Act} {Q : Exit → Act → World → Prop} : ∀ (rest : List Oper) (Rs : List Good), (∀ i, l[Rs.length + i]? = rest[i]?) → l.length = Rs.length + rest.length → (∀ R ∈ Rs, Stable R) →
    (∀ i o R, l[i]? = some o → Rs[i]? = some R → ∀ us W, Below X.heap.size X W → (∀ j, j ∈ depsOfR o → j < i → ∀ R' : Good, Rs[j]? = some R' → R' (us j) W) → (∀ j oj, l[j]? = some oj → i ∈ depsOfR oj → us j = origOf a0 oj) → softAt P o (putAll l us 0 a0) W R) →
    Soft P l X a0 Q Rs rest → ∃ Ts : List Good, Ts.length = l.length ∧ (∀ R ∈ Ts, Stable R) ∧
    (∀ i o R, l[i]? = some o → Ts[i]? = some R → ∀ us W, Below X.heap.size X W → (∀ j, j ∈ depsOfR o → j < i → ∀ R' : Good, Ts[j]? = some R' → R' (us j) W) → (∀ j oj, l[j]? = some oj → i ∈ depsOfR oj → us j = origOf a0 oj) → softAt P o (putAll l us 0 a0) W R) ∧
    (∀ us W, Below X.heap.size X W → (∀ (i : Nat) (R : Good), Ts[i]? = some R → R (us i) W) → Q .normal (putAll l us 0 a0) W)
  | [], Rs, _, hlen, hst, hstep, h => ⟨Rs, by simp at hlen; omega, hst, hstep, h⟩
  | o :: rest, Rs, hl, hlen, hst, hstep, ⟨R, hR, hs, hr⟩ => by
    have ho : l[Rs.length]? = some o := by have := hl 0; simpa using this
    refine soft_table rest (Rs ++ [R]) (fun i => ?_) (by simp at hlen ⊢; omega) (fun R' h' => ?_) (fun i o' R' hi hR' us W hb hd hor => ?_) hr
    · have := hl (i + 1)
      simp only [List.length_append, List.length_cons, List.length_nil, List.getElem?_cons_succ] at this ⊢
      rw [← this]; congr 1; omega
    · rcases List.mem_append.1 h' with h' | h'
      · exact hst _ h'
      · simp at h'; subst h'; exact hR
    · by_cases hlt : i < Rs.length
      · rw [List.getElem?_append_left hlt] at hR'
        refine hstep i o' R' hi hR' us W hb (fun j hj hji R2 hR2 => hd j hj hji R2 ?_) hor
        rw [List.getElem?_append_left (by omega)]; exact hR2
      · by_cases he : i = Rs.length
        · subst he
          rw [ho] at hi
          cases hi
          rw [List.getElem?_append_right (Nat.le_refl _)] at hR'
          simp at hR'; subst hR'
          refine hs us W hb (fun j hj R2 hR2 => ?_) hor
          have hjl : j < Rs.length := (List.getElem?_eq_some_iff.1 hR2).1
          exact hd j hj hjl R2 (by rw [List.getElem?_append_left hjl]; exact hR2)
        · rw [List.getElem?_eq_none (by simp; omega)] at hR'
          cases hR'

/-- The edges lead back. -/
def lexFromR : Nat → List Oper → Bool
  | _, [] => true
  | k, o :: r => (depsOfR o).all (· < k) && lexFromR (k + 1) r
theorem lexFrom_specR : ∀ (l : List Oper) (k i : Nat) (o : Oper), lexFromR k l = true → l[i]? = some o → ∀ d ∈ depsOfR o, d < k + i
  | [], _, _, _, _, h, _, _ => by simp at h
  | o :: r, k, 0, o', h, ho, d, hd => by
    simp at ho; subst ho
    simp only [lexFromR, Bool.and_eq_true, List.all_eq_true, decide_eq_true_eq] at h
    exact h.1 d hd
  | o :: r, k, i + 1, o', h, ho, d, hd => by
    simp only [lexFromR, Bool.and_eq_true] at h
    have := lexFrom_specR r (k + 1) i o' h.2 (by simpa using ho) d hd
    omega

theorem first_falseR (p : Nat → Bool) : ∀ n, (∃ i, i < n ∧ p i = false) → ∃ i, i < n ∧ p i = false ∧ ∀ j, j < i → p j = true
  | 0, ⟨i, h, _⟩ => by omega
  | n + 1, h => by
    by_cases h2 : ∃ i, i < n ∧ p i = false
    · obtain ⟨i, h3, h4, h5⟩ := first_falseR p n h2
      exact ⟨i, by omega, h4, h5⟩
    · obtain ⟨i, h3, h4⟩ := h
      have : i = n := by
        apply Classical.byContradiction
        intro hne
        exact h2 ⟨i, by omega, h4⟩
      subst this
      refine ⟨i, h3, h4, fun j hj => ?_⟩
      cases hp : p j
      · exact absurd ⟨j, hj, hp⟩ h2
      · rfl

theorem mem_depsOfR {o : Oper} {d : Nat} : d ∈ depsOfR o ↔ ∃ e ∈ o.after, Region.binds .any e = true ∧ e.on = d := by
  unfold depsOfR
  simp only [List.mem_map, List.mem_filter, Array.mem_toList_iff]
  constructor
  · rintro ⟨e, ⟨h1, h2⟩, h3⟩; exact ⟨e, h1, h2, h3⟩
  · rintro ⟨e, h1, h2, h3⟩; exact ⟨e, ⟨h1, h2⟩, h3⟩

theorem getD_tfR {listed : Array Bool} {i : Nat} (h : i < listed.size) : listed.getD i true = listed.getD i false := by simp [h]
theorem getD_set {listed : Array Bool} {i j : Nat} (d : Bool) (h : i < listed.size) : (listed.setIfInBounds i true).getD j d = if j = i then true else listed.getD j d := by
  simp only [Array.getD_eq_getD_getElem?, Array.getElem?_setIfInBounds]
  by_cases e : j = i
  · subst e; simp [h]
  · rw [if_neg e, if_neg (fun h2 => e h2.symm)]

theorem count_setR {listed : Array Bool} {i n : Nat} (hi : i < n) (hs : listed.size = n) (h : listed.getD i true = false) :
    ((List.range n).filter (fun j => !(listed.setIfInBounds i true).getD j true)).length + 1 ≤ ((List.range n).filter (fun j => !listed.getD j true)).length := by
  have hsub : ((List.range n).filter (fun j => !(listed.setIfInBounds i true).getD j true)) = ((List.range n).filter (fun j => !listed.getD j true)).filter (fun j => j != i) := by
    rw [List.filter_filter]
    apply List.filter_congr
    intro j hj
    rw [getD_set true (by omega)]
    by_cases e : j = i
    · simp [e]
    · simp [e]
  rw [hsub]
  have hmem : i ∈ (List.range n).filter (fun j => !listed.getD j true) := List.mem_filter.2 ⟨List.mem_range.2 hi, by simp only [h]; rfl⟩
  generalize (List.range n).filter (fun j => !listed.getD j true) = L at hmem
  have : ∀ L : List Nat, i ∈ L → (L.filter (fun j => j != i)).length + 1 ≤ L.length := by
    intro L
    induction L with
    | nil => intro h; cases h
    | cons x L ih =>
      intro h
      by_cases e : x = i
      · subst e
        simp only [List.filter_cons, bne_self_eq_false, Bool.false_eq_true, if_false, List.length_cons]
        have := List.length_filter_le (fun j => j != x) L
        omega
      · have h' : i ∈ L := by simpa [Ne.symm e] using h
        have := ih h'
        have hx : (x != i) = true := by simpa using e
        simp only [List.filter_cons, hx, if_true, List.length_cons]
        omega
  exact this L hmem

section
variable {P : Program} {l : List Oper} {X : World} {a0 : Act} {Q : Exit → Act → World → Prop}

theorem wp_region_soft {id : Nat} (hm : P.follows .mixedOrders = true)
    (hg : l.all (fun o => o.guard.isNone) = true) (hx : lexFromR 0 l = true) (hd : (l.filterMap (·.dst)).Nodup)
    (h : Soft P l X a0 Q [] l) : (Code.region id l.toArray true).wp P Q a0 X := by
  obtain ⟨Ts, hTl, hTs, hstep, hend⟩ := soft_table l [] (by simp) (by simp) (by simp) (by simp) h
  refine wp_region_any hm ?_
  have key : ∀ (fuel : Nat) (listed : Array Bool) (us : Nat → Value) (W : World), listed.size = l.length →
      ((List.range l.length).filter (fun i => !listed.getD i true)).length ≤ fuel →
      Below X.heap.size X W →
      (∀ (i : Nat) (R : Good), Ts[i]? = some R → listed.getD i false = true → R (us i) W) →
      (∀ i o, l[i]? = some o → listed.getD i true = false → us i = origOf a0 o) →
      (∀ j oj, l[j]? = some oj → listed.getD j false = true → ∀ d ∈ depsOfR oj, listed.getD d false = true) →
      wpAny P .any l.toArray Q fuel listed (putAll l us 0 a0) W := by
    have fin : ∀ (listed : Array Bool) (us : Nat → Value) (W : World), listed.size = l.length → Region.ready .any l.toArray listed = [] → Below X.heap.size X W →
        (∀ (i : Nat) (R : Good), Ts[i]? = some R → listed.getD i false = true → R (us i) W) → Q .normal (putAll l us 0 a0) W := by
      intro listed us W hsz hnil hb hR
      refine hend us W hb (fun i R hi => hR i R hi ?_)
      have hil : i < l.length := by rw [← hTl]; exact (List.getElem?_eq_some_iff.1 hi).1
      apply Classical.byContradiction
      intro hc
      have hc : listed.getD i false = false := by simpa using hc
      obtain ⟨k, hk, hkf, hkl⟩ := first_falseR (fun j => listed.getD j false) l.length ⟨i, hil, hc⟩
      have hmem : k ∈ Region.ready .any l.toArray listed := by
        refine mem_ready.2 ⟨by rw [getD_tfR (by omega)]; exact hkf, l[k], by simp [hk], fun e he hb => ?_⟩
        have hlt := lexFrom_specR l 0 k l[k] hx (List.getElem?_eq_getElem hk) e.on (mem_depsOfR.2 ⟨e, he, hb, rfl⟩)
        exact hkl e.on (by omega)
      rw [hnil] at hmem; cases hmem
    intro fuel
    induction fuel with
    | zero =>
      intro listed us W hsz hf hb hR ho hdn
      have hnil : Region.ready .any l.toArray listed = [] := by
        rw [List.eq_nil_iff_forall_not_mem]
        intro i hi
        obtain ⟨h1, o, h2, _⟩ := mem_ready.1 hi
        have hil : i < l.length := by simpa using (Array.getElem?_eq_some_iff.1 h2).1
        have h0 := List.length_eq_zero_iff.1 (Nat.le_zero.1 hf)
        have := List.filter_eq_nil_iff.1 h0 i (List.mem_range.2 hil)
        rw [h1] at this; exact this rfl
      exact ⟨hnil, fin listed us W hsz hnil hb hR⟩
    | succ fuel ih =>
      intro listed us W hsz hf hb hR ho hdn
      refine ⟨fun hnil => fin listed us W hsz hnil hb hR, fun i hi => ?_⟩
      obtain ⟨h1, o, h2, h3⟩ := mem_ready.1 hi
      have h2' : l[i]? = some o := by simpa using h2
      have hil : i < l.length := (List.getElem?_eq_some_iff.1 h2').1
      obtain ⟨R, hTi⟩ : ∃ R, Ts[i]? = some R := ⟨Ts[i]'(by omega), List.getElem?_eq_getElem (by omega)⟩
      have hRs : Stable R := hTs R (List.mem_of_getElem? hTi)
      have hlf : listed.getD i false = false := by rw [← getD_tfR (by omega)]; exact h1
      have hgo : o.guard = none := by
        have := List.all_eq_true.1 hg o (List.mem_of_getElem? h2')
        cases hgg : o.guard with
        | none => rfl
        | some x => rw [hgg] at this; cases this
      have hs := hstep i o R h2' hTi us W hb
        (fun j hj hji R' hR' => by
          obtain ⟨e, he, hbn, heq⟩ := mem_depsOfR.1 hj
          exact hR j R' hR' (by rw [← heq]; exact h3 e he hbn))
        (fun j oj hoj hji => by
          refine ho j oj hoj ?_
          have hjl : j < l.length := (List.getElem?_eq_some_iff.1 hoj).1
          cases hc : listed.getD j true
          · rfl
          · have := hdn j oj hoj (by rw [← getD_tfR (by omega)]; exact hc) i hji
            rw [hlf] at this; cases this)
      -- on behind it
      have go : ∀ (v : Value) (W' : World), Below W.heap.size W W' → R v W' → wpAny P .any l.toArray Q fuel (listed.setIfInBounds i true) ((putAll l us 0 a0).put o.dst v) W' := by
        intro v W' hb' hv
        rw [putAll_upd l us 0 a0 i o v h2' hd, Nat.zero_add]
        refine ih (listed.setIfInBounds i true) (upd us i v) W' (by simp [hsz]) ?_ (hb.trans (hb'.mono hb.size)) ?_ ?_ ?_
        · have := count_setR hil hsz h1
          omega
        · intro j R' hR' hj
          by_cases e : j = i
          · subst e
            rw [hTi] at hR'; cases hR'
            simp only [upd, if_true]; exact hv
          · rw [getD_set false (by omega), if_neg e] at hj
            simp only [upd]; rw [if_neg e]
            exact hTs R' (List.mem_of_getElem? hR') _ _ _ (hR j R' hR' hj) hb'
        · intro j oj hoj hj
          have e : j ≠ i := by
            rintro rfl
            rw [getD_set true (by omega), if_pos rfl] at hj; cases hj
          rw [getD_set true (by omega), if_neg e] at hj
          simp only [upd]; rw [if_neg e]
          exact ho j oj hoj hj
        · intro j oj hoj hj d hdd
          rw [getD_set false (by omega)]
          by_cases e : d = i
          · rw [if_pos e]
          · rw [if_neg e]
            by_cases e2 : j = i
            · subst e2
              rw [h2'] at hoj; cases hoj
              obtain ⟨x, hx1, hx2, hx3⟩ := mem_depsOfR.1 hdd
              rw [← hx3]; exact h3 x hx1 hx2
            · rw [getD_set false (by omega), if_neg e2] at hj
              exact hdn j oj hoj hj d hdd
      unfold wpOp
      simp only [h2]
      have hw : Region.wanted o (yielded l.toArray (putAll l us 0 a0).tmps) = true := by simp [Region.wanted, hgo]
      rw [if_pos hw]
      left
      unfold softAt at hs
      unfold Oper.wp
      generalize (execOp (putAll l us 0 a0).eval o).run P W = r at hs
      cases r with
      | ok n w' =>
        cases n <;> simp only [softUpon] at hs <;> simp only [Oper.upon]
        case value u => exact go _ _ hs.1 hs.2
        case skip => exact go _ _ hs.1 hs.2
        case enter f args =>
          obtain ⟨e1, hc⟩ := hs
          rw [e1]
          exact hc.mono fun e w'' ⟨v, he, hb2, hv⟩ => by subst he; exact go _ _ hb2 hv
      | halt x w' => simp only [softUpon] at hs
  have h0 : putAll l (fun i => match l[i]? with | some o => origOf a0 o | none => undef) 0 a0 = a0 := putAll_orig l _ 0 a0 (fun i o ho => by simp [ho])
  rw [← h0]
  refine key _ _ _ _ (by simp) (by refine Nat.le_trans (List.length_filter_le _ _) (by simp)) ((Below.refl _ _).drew) ?_ ?_ ?_
  · intro i R hi hf
    simp only [Array.getD_eq_getD_getElem?, Array.getElem?_replicate] at hf
    split at hf <;> simp at hf
  · intro i o ho _
    simp [ho]
  · intro j oj hoj hf
    simp only [Array.getD_eq_getD_getElem?, Array.getElem?_replicate] at hf
    split at hf <;> simp at hf

/-! ### The form for the walk: the frame as a function of the operations' values; what an operation leans on as a conjunction. -/
/-- A later world: closed to the walk. -/
def After (X W : World) : Prop := Below X.heap.size X W
theorem After.below {X W : World} (h : After X W) : Below X.heap.size X W := h
theorem after_cell {X : World} {a : Addr} {v : Value} (h : X.cell? a = some v) : ∀ W, After X W → W.cell? a = some v := fun _ hb => (hb.below.cell (p := a) (World.block_lt_of_cell? _ _ h)).trans h
/-- What holds of the values of the operations listed. -/
def HL (Rs : List Good) (us : Nat → Value) (W : World) : List Nat → Prop
  | [] => True
  | j :: r => (match Rs[j]? with | some R => R (us j) W | none => True) ∧ HL Rs us W r
theorem HL_of {Rs : List Good} {us : Nat → Value} {W : World} : ∀ D : List Nat, (∀ j, j ∈ D → ∀ R' : Good, Rs[j]? = some R' → R' (us j) W) → HL Rs us W D
  | [], _ => trivial
  | j :: r, h => by
    refine ⟨?_, HL_of r (fun k hk => h k (by simp [hk]))⟩
    split
    · rename_i R hR; exact h j (by simp) R hR
    · trivial
/-- The slots that later operations write still hold what they held. -/
def OL (us : Nat → Value) : List (Nat × Value) → Prop
  | [] => True
  | (j, v) :: r => us j = v ∧ OL us r
theorem OL_of {us : Nat → Value} : ∀ L : List (Nat × Value), (∀ p ∈ L, us p.1 = p.2) → OL us L
  | [], _ => trivial
  | (j, v) :: r, h => ⟨h (j, v) (by simp), OL_of r (fun p hp => h p (by simp [hp]))⟩

/-- 'Soft', the frame as F tells it. -/
def SoftF (P : Program) (l : List Oper) (X : World) (a0 : Act) (F : (Nat → Value) → Act) (Q : Exit → Act → World → Prop) (Rs : List Good) (rest : List Oper) : Prop :=
  (∀ us, putAll l us 0 a0 = F us) → Soft P l X a0 Q Rs rest
theorem wp_region_softF {id : Nat} (hm : P.follows .mixedOrders = true)
    (hg : l.all (fun o => o.guard.isNone) = true) (hx : lexFromR 0 l = true) (hd : (l.filterMap (·.dst)).Nodup)
    (h : ∃ F, (∀ us, putAll l us 0 a0 = F us) ∧ SoftF P l X a0 F Q [] l) : (Code.region id l.toArray true).wp P Q a0 X := by
  obtain ⟨F, hF, h⟩ := h
  exact wp_region_soft hm hg hx hd (h hF)
/-- The slots of L are written later, by operations that wait for this one. -/
def lateB (l : List Oper) (i : Nat) (L : List (Nat × Value)) : Bool := L.all (fun p => match l[p.1]? with | some o => (depsOfR o).contains i | none => false)
def lateV (l : List Oper) (a0 : Act) (L : List (Nat × Value)) : Prop := ∀ p ∈ L, ∀ o, l[p.1]? = some o → p.2 = origOf a0 o
theorem lateV_nil : lateV l a0 [] := fun _ h => by cases h
theorem lateV_one {j : Nat} {v : Value} (h : (l[j]?).map (origOf a0) = some v) : lateV l a0 [(j, v)] := by
  intro p hp o ho
  simp at hp; subst hp
  rw [ho] at h; simpa using h.symm
theorem softF_step {F : (Nat → Value) → Act} {Rs : List Good} {o : Oper} {rest : List Oper} (L : List (Nat × Value)) (hL : lateB l Rs.length L = true) (hV : lateV l a0 L)
    (h : ∃ R : Good, (∀ us W, After X W → HL Rs us W (depsOfR o) → OL us L → softAt P o (F us) W R) ∧ Stable R ∧ SoftF P l X a0 F Q (Rs ++ [R]) rest) : SoftF P l X a0 F Q Rs (o :: rest) := by
  obtain ⟨R, hs, hR, hr⟩ := h
  intro hF
  refine ⟨R, hR, fun us W hb hd ho => ?_, hr hF⟩
  rw [hF]
  refine hs us W hb (HL_of _ hd) (OL_of L (fun p hp => ?_))
  have h1 := List.all_eq_true.1 hL p hp
  cases hj : l[p.1]? with
  | none => rw [hj] at h1; cases h1
  | some oj =>
    rw [hj] at h1
    rw [hV p hp oj hj]
    exact ho p.1 oj hj (by simpa using h1)
/-- An operation that leaves one known value. -/
theorem softF_const {F : (Nat → Value) → Act} {Rs : List Good} {o : Oper} {rest : List Oper} (L : List (Nat × Value)) (hL : lateB l Rs.length L = true) (hV : lateV l a0 L)
    (h : ∃ c : Value, (∀ us W, After X W → HL Rs us W (depsOfR o) → OL us L → softAt P o (F us) W (fun v _ => v = c)) ∧ SoftF P l X a0 F Q (Rs ++ [fun v _ => v = c]) rest) : SoftF P l X a0 F Q Rs (o :: rest) := by
  obtain ⟨c, hs, hr⟩ := h
  exact softF_step L hL hV ⟨_, hs, stable_eq c, hr⟩
/-- An operation that lays a new block of one cell. -/
theorem softF_box {F : (Nat → Value) → Act} {Rs : List Good} {o : Oper} {rest : List Oper} (L : List (Nat × Value)) (hL : lateB l Rs.length L = true) (hV : lateV l a0 L)
    (h : ∃ c : Value, (∀ us W, After X W → HL Rs us W (depsOfR o) → OL us L → softAt P o (F us) W (Box1 c)) ∧ SoftF P l X a0 F Q (Rs ++ [Box1 c]) rest) : SoftF P l X a0 F Q Rs (o :: rest) := by
  obtain ⟨c, hs, hr⟩ := h
  exact softF_step L hL hV ⟨_, hs, stable_box1 c, hr⟩
theorem box1_new (W : World) (x : Value) (e : TypeId) : Below W.heap.size W (W.alloc (.cells #[x] e)) ∧ ∃ b, Value.slice (some ⟨W.heap.size, 0, none⟩) 1 1 = .slice (some ⟨b, 0, none⟩) 1 1 ∧ (W.alloc (.cells #[x] e)).cell? ⟨b, 0, none⟩ = some x :=
  ⟨(Below.refl _ _).alloc (Nat.le_refl _) _, _, rfl, by simp [go_sem]⟩
theorem softF_nil {F : (Nat → Value) → Act} {Rs : List Good} (h : ∀ us W, After X W → HL Rs us W (List.range Rs.length) → Q .normal (F us) W) : SoftF P l X a0 F Q Rs [] := by
  intro hF us W hb hR
  rw [hF]
  exact h us W hb (HL_of _ (fun j _ R' hR' => hR j R' hR'))
/-- A callee that leaves the world alone. -/
theorem Calls.soft_same {f : FuncId} {args : Array Value} {W : World} {c : Value} (h : Calls P f args W fun e w' => e = .returned c ∧ W = w') :
    Calls P f args W (fun e w'' => e = .returned c ∧ Below W.heap.size W w'') := h.mono fun _ _ ⟨he, hb⟩ => ⟨he, by subst hb; exact Below.refl _ _⟩
end
attribute [go_sem] softAt softUpon putAll HL OL Box1
attribute [irreducible] HL OL After
end Go.Proofs.Ytophpbihcfdkcaa
