/- The layer of abstract values: regions that draw their order, and turn nothing that is there. -/
import Derived.Test.YtophpbihcfdkcaaG14
import Derived.BigQuiet
namespace Go.Proofs.Ytophpbihcfdkcaa
open Go.RowKit P
set_option linter.unusedSimpArgs false
set_option linter.unusedVariables false

def depsOf (o : Oper) : List Nat := (o.after.toList.filter (Region.binds .any)).map (·.on)
def lexFrom : Nat → List Oper → Bool
  | _, [] => true
  | k, o :: r => (depsOf o).all (· < k) && lexFrom (k + 1) r
theorem lexFrom_spec : ∀ (l : List Oper) (k i : Nat) (o : Oper), lexFrom k l = true → l[i]? = some o → ∀ d ∈ depsOf o, d < k + i
  | [], _, _, _, _, h, _, _ => by simp at h
  | o :: r, k, 0, o', h, ho, d, hd => by
    simp at ho; subst ho
    simp only [lexFrom, Bool.and_eq_true, List.all_eq_true, decide_eq_true_eq] at h
    exact h.1 d hd
  | o :: r, k, i + 1, o', h, ho, d, hd => by
    simp only [lexFrom, Bool.and_eq_true] at h
    have := lexFrom_spec r (k + 1) i o' h.2 (by simpa using ho) d hd
    omega
theorem mem_depsOf {o : Oper} {d : Nat} : d ∈ depsOf o ↔ ∃ e ∈ o.after, Region.binds .any e = true ∧ e.on = d := by
  unfold depsOf
  simp only [List.mem_map, List.mem_filter, Array.mem_toList_iff]
  constructor
  · rintro ⟨e, ⟨h1, h2⟩, h3⟩; exact ⟨e, h1, h2, h3⟩
  · rintro ⟨e, h1, h2, h3⟩; exact ⟨e, ⟨h1, h2⟩, h3⟩
theorem first_false (p : Nat → Bool) : ∀ n, (∃ i, i < n ∧ p i = false) → ∃ i, i < n ∧ p i = false ∧ ∀ j, j < i → p j = true
  | 0, ⟨i, h, _⟩ => by omega
  | n + 1, h => by
    by_cases h2 : ∃ i, i < n ∧ p i = false
    · obtain ⟨i, h3, h4, h5⟩ := first_false p n h2
      exact ⟨i, by omega, h4, h5⟩
    · obtain ⟨i, h3, h4⟩ := h
      have : i = n := by
        apply Classical.byContradiction
        intro hne
        exact h2 ⟨i, by omega, h4⟩
      subst this
      refine ⟨i, h3, h4, fun j hj => ?_⟩
      cases hp : p j
      · exact absurd ⟨j, hj, hp⟩ h2
      · rfl
theorem getD_tf {listed : Array Bool} {i : Nat} (h : i < listed.size) : listed.getD i true = listed.getD i false := by simp [h]
theorem getD_setb {listed : Array Bool} {i j : Nat} (d : Bool) (h : i < listed.size) : (listed.setIfInBounds i true).getD j d = if j = i then true else listed.getD j d := by
  simp only [Array.getD_eq_getD_getElem?, Array.getElem?_setIfInBounds]
  by_cases e : j = i
  · subst e; simp [h]
  · rw [if_neg e, if_neg (fun h2 => e h2.symm)]
theorem count_set {listed : Array Bool} {i n : Nat} (hi : i < n) (hs : listed.size = n) (h : listed.getD i true = false) :
    ((List.range n).filter (fun j => !(listed.setIfInBounds i true).getD j true)).length + 1 ≤ ((List.range n).filter (fun j => !listed.getD j true)).length := by
  have hsub : ((List.range n).filter (fun j => !(listed.setIfInBounds i true).getD j true)) = ((List.range n).filter (fun j => !listed.getD j true)).filter (fun j => j != i) := by
    rw [List.filter_filter]
    apply List.filter_congr
    intro j hj
    rw [getD_setb true (by omega)]
    by_cases e : j = i
    · simp [e]
    · simp [e]
  rw [hsub]
  have hmem : i ∈ (List.range n).filter (fun j => !listed.getD j true) := List.mem_filter.2 ⟨List.mem_range.2 hi, by simp only [h]; rfl⟩
  generalize (List.range n).filter (fun j => !listed.getD j true) = L at hmem
  have : ∀ L : List Nat, i ∈ L → (L.filter (fun j => j != i)).length + 1 ≤ L.length := by
    intro L
    induction L with
    | nil => intro h; cases h
    | cons x L ih =>
      intro h
      by_cases e : x = i
      · subst e
        simp only [List.filter_cons, bne_self_eq_false, Bool.false_eq_true, if_false, List.length_cons]
        have := List.length_filter_le (fun j => j != x) L
        omega
      · have h' : i ∈ L := by simpa [Ne.symm e] using h
        have := ih h'
        have hx : (x != i) = true := by simpa using e
        simp only [List.filter_cons, hx, if_true, List.length_cons]
        omega
  exact this L hmem

/-- The slots that an operation looks at. -/
def tmpsOf : List Operand → List Nat
  | [] => []
  | .tmp t :: r => t :: tmpsOf r
  | _ :: r => tmpsOf r
theorem mem_tmpsOf : ∀ {xs : List Operand} {t : Nat}, Operand.tmp t ∈ xs → t ∈ tmpsOf xs
  | x :: xs, t, h => by
    rcases List.mem_cons.1 h with rfl | h'
    · exact List.mem_cons_self
    · have ih := mem_tmpsOf (xs := xs) h'
      cases x <;> simp only [tmpsOf] <;> first | exact List.mem_cons_of_mem _ ih | exact ih
def seesOf (l : List Oper) (o : Oper) : List Nat := tmpsOf o.op.operands.toList ++ (match o.guard with | none => [] | some (j, _) => match (l[j]?).bind (·.dst) with | some d => [d] | none => [])
/-- What operation number i sees is settled by what it waits for. -/
def settledB (l : List Oper) (i : Nat) (o : Oper) : List Oper → Nat → Bool
  | [], _ => true
  | p :: r, j => (match p.dst with
      | some d => if (seesOf l o).contains d && j != i then (if j < i then (depsOf o).contains j else (depsOf p).contains i) else true
      | none => false) && settledB l i o r (j + 1)
def settledAll (l : List Oper) : List Oper → Nat → Bool
  | [], _ => true
  | o :: r, i => settledB l i o l 0 && settledAll l r (i + 1)
def dstsB : List Oper → List Nat → Bool
  | [], _ => true
  | o :: r, seen => (match o.dst with | some d => !seen.contains d && dstsB r (d :: seen) | none => false)
def drawB (l : List Oper) : Bool := lexFrom 0 l && settledAll l l 0 && dstsB l []
theorem settledB_spec {l : List Oper} {i : Nat} {o : Oper} : ∀ (r : List Oper) (j q : Nat) (p : Oper), settledB l i o r j = true → r[q]? = some p → ∃ d, p.dst = some d ∧ (d ∈ seesOf l o → j + q ≠ i → (j + q < i → j + q ∈ depsOf o) ∧ (i < j + q → i ∈ depsOf p))
  | [], _, _, _, _, h => by simp at h
  | p0 :: r, j, 0, p, h, hp => by
    simp at hp; subst hp
    simp only [settledB, Bool.and_eq_true] at h
    cases hd : p0.dst with
    | none => rw [hd] at h; simp at h
    | some d =>
      rw [hd] at h
      refine ⟨d, rfl, fun hs hne => ?_⟩
      have h1 := h.1
      simp only at h1
      rw [if_pos ⟨by simpa using hs, by simpa using hne⟩] at h1
      by_cases hlt : j < i
      · rw [if_pos hlt] at h1
        exact ⟨fun _ => by simpa using h1, fun h2 => by omega⟩
      · rw [if_neg hlt] at h1
        exact ⟨fun h2 => by omega, fun _ => by simpa using h1⟩
  | p0 :: r, j, q + 1, p, h, hp => by
    simp only [settledB, Bool.and_eq_true] at h
    have := settledB_spec r (j + 1) q p h.2 (by simpa using hp)
    rw [show j + (q + 1) = j + 1 + q by omega]; exact this
theorem settledAll_spec {l : List Oper} : ∀ (r : List Oper) (i q : Nat) (o : Oper), settledAll l r i = true → r[q]? = some o → settledB l (i + q) o l 0 = true
  | [], _, _, _, _, h => by simp at h
  | o0 :: r, i, 0, o, h, ho => by
    simp at ho; subst ho
    simp only [settledAll, Bool.and_eq_true] at h
    exact h.1
  | o0 :: r, i, q + 1, o, h, ho => by
    simp only [settledAll, Bool.and_eq_true] at h
    have := settledAll_spec r (i + 1) q o h.2 (by simpa using ho)
    rw [show i + (q + 1) = i + 1 + q by omega]; exact this
theorem dstsB_spec : ∀ (r : List Oper) (seen : List Nat), dstsB r seen = true → (∀ (q : Nat) o d, r[q]? = some o → o.dst = some d → d ∉ seen) ∧ ∀ (q q' : Nat) o o' d, r[q]? = some o → r[q']? = some o' → o.dst = some d → o'.dst = some d → q = q'
  | [], _, _ => ⟨fun q o d h => by simp at h, fun q q' o o' d h => by simp at h⟩
  | o0 :: r, seen, h => by
    simp only [dstsB] at h
    cases hd : o0.dst with
    | none => rw [hd] at h; cases h
    | some d0 =>
      rw [hd] at h
      simp only [Bool.and_eq_true, Bool.not_eq_true'] at h
      obtain ⟨h1, h2⟩ := dstsB_spec r (d0 :: seen) h.2
      have h3 : d0 ∉ seen := by have := h.1; simpa using this
      refine ⟨fun q o d hq hod => ?_, fun q q' o o' d hq hq' hod hod' => ?_⟩
      · cases q with
        | zero => simp at hq; subst hq; rw [hd] at hod; cases hod; exact h3
        | succ q => exact fun hm => h1 q o d (by simpa using hq) hod (List.mem_cons_of_mem _ hm)
      · cases q with
        | zero =>
          simp at hq; subst hq; rw [hd] at hod; cases hod
          cases q' with
          | zero => rfl
          | succ q' => exact absurd List.mem_cons_self (h1 q' o' d0 (by simpa using hq') hod')
        | succ q =>
          cases q' with
          | zero => simp at hq'; subst hq'; rw [hd] at hod'; cases hod'; exact absurd List.mem_cons_self (h1 q o d0 (by simpa using hq) hod)
          | succ q' => rw [h2 q q' o o' d (by simpa using hq) (by simpa using hq') hod hod']

/-- The walk in the text's order of operations that turn nothing. -/
def QSem (P : Program) (l : List Oper) (K : AS → Prop) : List Oper → AS → Prop
  | [], σ => K σ
  | o :: rest, σ => ∃ d u, o.dst = some d ∧ Nat.ble (d + 1) σ.n = true ∧ ((wantedA l σ o = some true ∧ OpV P o σ u) ∨ (wantedA l σ o = some false ∧ u = .v undef)) ∧ QSem P l K rest (σ.put d u)
section
variable {P : Program} {Q : Exit → AS → Prop} {ks : List It} {T : Tys P} {σ : AS} {K : AS → Prop} {l rest : List Oper} {o : Oper} {d : Nat} {u : AV}
theorem q_op (hw : wantedA l σ o = some true) (hdst : o.dst = some d) (hd : Nat.ble (d + 1) σ.n = true) (h : OpV P o σ u) (hn : QSem P l K rest (σ.put d u)) : QSem P l K (o :: rest) σ := ⟨d, u, hdst, hd, .inl ⟨hw, h⟩, hn⟩
theorem q_unwanted (hw : wantedA l σ o = some false) (hdst : o.dst = some d) (hd : Nat.ble (d + 1) σ.n = true) (hn : QSem P l K rest (σ.put d (.v undef))) : QSem P l K (o :: rest) σ := ⟨d, _, hdst, hd, .inr ⟨hw, rfl⟩, hn⟩
theorem q_nil (h : K σ) : QSem P l K [] σ := h

/-- What the walk shows: a table. -/
def puts : AS → List Oper → List AV → AS
  | σ, o :: os, u :: us => puts (match o.dst with | some d => σ.put d u | none => σ) os us
  | σ, _, _ => σ
theorem puts_n : ∀ (os : List Oper) (us : List AV) (σ : AS), (puts σ os us).n = σ.n
  | [], [], _ => rfl
  | [], _ :: _, _ => rfl
  | _ :: _, [], _ => rfl
  | o :: os, u :: us, σ => by simp only [puts]; rw [puts_n os us]; cases o.dst <;> rfl
theorem puts_h : ∀ (os : List Oper) (us : List AV) (σ : AS), (puts σ os us).h = σ.h
  | [], [], _ => rfl
  | [], _ :: _, _ => rfl
  | _ :: _, [], _ => rfl
  | o :: os, u :: us, σ => by simp only [puts]; rw [puts_h os us]; cases o.dst <;> rfl
theorem puts_e : ∀ (os : List Oper) (us : List AV) (σ : AS), σ.e = [] → (puts σ os us).e = []
  | [], [], _, h => h
  | [], _ :: _, _, h => h
  | _ :: _, [], _, h => h
  | o :: os, u :: us, σ, h => by
    simp only [puts]
    refine puts_e os us _ ?_
    cases o.dst with
    | none => exact h
    | some d => simp [AS.put, h]
theorem q_table : ∀ (rest : List Oper) (σ : AS), QSem P l K rest σ → ∃ us : List AV, us.length = rest.length ∧ K (puts σ rest us) ∧
    ∀ (i : Nat) o u, rest[i]? = some o → us[i]? = some u → ∃ d, o.dst = some d ∧ Nat.ble (d + 1) σ.n = true ∧ ((wantedA l (puts σ (rest.take i) (us.take i)) o = some true ∧ OpV P o (puts σ (rest.take i) (us.take i)) u) ∨ (wantedA l (puts σ (rest.take i) (us.take i)) o = some false ∧ u = .v undef))
  | [], σ, h => ⟨[], rfl, h, fun i o u h => by simp at h⟩
  | o :: rest, σ, ⟨d, u, h1, h2, h3, h4⟩ => by
    obtain ⟨us, k1, k2, k3⟩ := q_table rest (σ.put d u) h4
    refine ⟨u :: us, by simp [k1], by simp only [puts, h1]; exact k2, fun i o' u' ho hu => ?_⟩
    cases i with
    | zero => simp at ho hu; subst ho hu; exact ⟨d, h1, h2, h3⟩
    | succ i =>
      obtain ⟨d', m1, m2, m3⟩ := k3 i o' u' (by simpa using ho) (by simpa using hu)
      refine ⟨d', m1, m2, ?_⟩
      simp only [List.take_succ_cons, puts, h1]
      exact m3
theorem puts_look : ∀ (os : List Oper) (us : List AV) (σ : AS) (t : Nat), us.length = os.length → (∀ (q q' : Nat) o o' d, os[q]? = some o → os[q']? = some o' → o.dst = some d → o'.dst = some d → q = q') →
    look (puts σ os us).t t = match (os.zip us).find? (fun p => p.1.dst == some t) with | some p => some p.2 | none => look σ.t t
  | [], [], σ, t, _, _ => rfl
  | o :: os, u :: us, σ, t, hl, hd => by
    simp only [puts, List.zip_cons_cons, List.find?_cons]
    have hd' : ∀ (q q' : Nat) o o' d, os[q]? = some o → os[q']? = some o' → o.dst = some d → o'.dst = some d → q = q' := fun q q' o1 o2 d h1 h2 h3 h4 => by
      have := hd (q + 1) (q' + 1) o1 o2 d (by simpa using h1) (by simpa using h2) h3 h4
      omega
    have ih := puts_look os us (match o.dst with | some d => σ.put d u | none => σ) t (by simpa using hl) hd'
    rw [ih]
    by_cases he : o.dst = some t
    · have hb : (o.dst == some t) = true := by simp [he]
      have hnone : (os.zip us).find? (fun p => p.1.dst == some t) = none := by
        rw [List.find?_eq_none]
        intro p hp hb2
        obtain ⟨q, hq⟩ := List.getElem?_of_mem (List.of_mem_zip hp).1
        have := hd 0 (q + 1) o p.1 t rfl (by simpa using hq) he (by simpa using hb2)
        omega
      rw [hnone, hb]
      simp only [he, AS.put, look_cons, if_true]
    · have hb : (o.dst == some t) = false := by simp [he]
      rw [hb]
      cases hf : (os.zip us).find? (fun p => p.1.dst == some t) with
      | some p => rfl
      | none =>
        simp only
        cases hod : o.dst with
        | none => rfl
        | some d =>
          have hne : t ≠ d := fun e => he (by rw [hod, e])
          simp only [AS.put, look_cons]
          rw [if_neg hne]

theorem wantedA_congr {σ σ' : AS} (hn : σ'.n = σ.n) (h : ∀ j want d, o.guard = some (j, want) → (l[j]?).bind (·.dst) = some d → look σ'.t d = look σ.t d) : wantedA l σ' o = wantedA l σ o := by
  unfold wantedA
  cases hg : o.guard with
  | none => rfl
  | some p =>
    obtain ⟨j, want⟩ := p
    simp only
    cases hd : (l[j]?).bind (·.dst) with
    | none => rfl
    | some d => simp only; rw [hn, h j want d hg hd]

/-- A region that draws its order: one walk. -/
theorem ar_draw {id : Nat} (hm : P.follows .mixedOrders = true) (hB : drawB l = true) (he : σ.e = []) (h : QSem P l (fun σ' => ARun P Q ks σ') l σ) : ARun P Q (.c (.region id l.toArray true) :: ks) σ := by
  intro F X a hs hdf
  obtain ⟨us, hul, hK, hstep⟩ := q_table l σ h
  simp only [drawB, Bool.and_eq_true] at hB
  obtain ⟨⟨hx, hset⟩, hdst⟩ := hB
  have hdd := (dstsB_spec l [] hdst).2
  have hdis : ∀ (q q' : Nat) o o' d, l[q]? = some o → l[q']? = some o' → o.dst = some d → o'.dst = some d → q = q' := hdd
  refine wp_region_any hm ?_
  -- where a slot's value comes from
  let Inv : Array Bool → GW → Act → Prop := fun listed X1 a1 => ∃ σ1 : AS, SimE F X1 σ1 a1.tmps ∧ σ1.n = σ.n ∧ σ1.h = σ.h ∧
    (∀ (i : Nat) o d u, l[i]? = some o → us[i]? = some u → o.dst = some d → listed.getD i false = true → look σ1.t d = some u) ∧
    (∀ t, (∀ (i : Nat) o, l[i]? = some o → o.dst = some t → listed.getD i false = false) → look σ1.t t = look σ.t t)
  have key : ∀ (fuel : Nat) (listed : Array Bool) (X1 : GW) (a1 : Act), listed.size = l.length →
      ((List.range l.length).filter (fun i => !listed.getD i true)).length ≤ fuel → Ext F X X1 → a1.defers = [] → Inv listed X1 a1 →
      (∀ j oj, l[j]? = some oj → listed.getD j false = true → ∀ d ∈ depsOf oj, listed.getD d false = true) →
      wpAny P .any l.toArray (PostA F X (Stk P Q ks)) fuel listed a1 X1.w := by
    have fin : ∀ (listed : Array Bool) (X1 : GW) (a1 : Act), listed.size = l.length → Region.ready .any l.toArray listed = [] → Ext F X X1 → a1.defers = [] → Inv listed X1 a1 → PostA F X (Stk P Q ks) .normal a1 X1.w := by
      rintro listed X1 a1 hsz hnil hx1 hd1 ⟨σ1, s1, s2, s3, s4, s5⟩
      have hall : ∀ i, i < l.length → listed.getD i false = true := by
        intro i hil
        apply Classical.byContradiction
        intro hc
        have hc : listed.getD i false = false := by simpa using hc
        obtain ⟨k, hk, hkf, hkl⟩ := first_false (fun j => listed.getD j false) l.length ⟨i, hil, hc⟩
        have hmem : k ∈ Region.ready .any l.toArray listed := by
          refine mem_ready.2 ⟨by rw [getD_tf (by omega)]; exact hkf, l[k], by simp [hk], fun e he hb => ?_⟩
          have hlt := lexFrom_spec l 0 k l[k] hx (List.getElem?_eq_getElem hk) e.on (mem_depsOf.2 ⟨e, he, hb, rfl⟩)
          exact hkl e.on (by omega)
        rw [hnil] at hmem; cases hmem
      refine ⟨hd1, X1, puts σ l us, rfl, hK, s1.sub (by rw [puts_n, s2]) (fun t u hu => ?_) (fun k cs hk => by rw [puts_h] at hk; rw [s3]; exact hk) (fun p hp => by rw [puts_e l us σ he] at hp; cases hp), hx1⟩
      rw [puts_look l us σ t hul hdis] at hu
      cases hf : (l.zip us).find? (fun p => p.1.dst == some t) with
      | some p =>
        rw [hf] at hu
        cases hu
        have hmem := List.mem_of_find?_eq_some hf
        have hpd : p.1.dst = some t := by simpa using List.find?_some hf
        obtain ⟨q, hq⟩ := List.getElem?_of_mem hmem
        rw [List.getElem?_zip_eq_some] at hq
        exact s4 q p.1 t p.2 hq.1 hq.2 hpd (hall q (List.getElem?_eq_some_iff.1 hq.1).1)
      | none =>
        rw [hf] at hu
        rw [← hu]
        refine s5 t fun i o ho hod => ?_
        have hil := (List.getElem?_eq_some_iff.1 ho).1
        have hui : us[i]? = some us[i] := List.getElem?_eq_getElem (by omega)
        have := List.find?_eq_none.1 hf (o, us[i]) (List.mem_of_getElem? (List.getElem?_zip_eq_some.2 ⟨ho, hui⟩))
        exact absurd (by simpa using hod) this
    intro fuel
    induction fuel with
    | zero =>
      intro listed X1 a1 hsz hf hx1 hd1 hI hdn
      have hnil : Region.ready .any l.toArray listed = [] := by
        rw [List.eq_nil_iff_forall_not_mem]
        intro i hi
        obtain ⟨h1, o, h2, _⟩ := mem_ready.1 hi
        have hil : i < l.length := by simpa using (Array.getElem?_eq_some_iff.1 h2).1
        have h0 := List.length_eq_zero_iff.1 (Nat.le_zero.1 hf)
        have := List.filter_eq_nil_iff.1 h0 i (List.mem_range.2 hil)
        rw [h1] at this; exact this rfl
      exact ⟨hnil, fin listed X1 a1 hsz hnil hx1 hd1 hI⟩
    | succ fuel ih =>
      intro listed X1 a1 hsz hf hx1 hd1 hI hdn
      refine ⟨fun hnil => fin listed X1 a1 hsz hnil hx1 hd1 hI, fun i hi => ?_⟩
      obtain ⟨h1, o, h2, h3⟩ := mem_ready.1 hi
      have h2' : l[i]? = some o := by simpa using h2
      have hil : i < l.length := (List.getElem?_eq_some_iff.1 h2').1
      have hui : us[i]? = some us[i] := List.getElem?_eq_getElem (by omega)
      have hlf : listed.getD i false = false := by rw [← getD_tf (by omega)]; exact h1
      obtain ⟨σ1, s1, s2, s3, s4, s5⟩ := hI
      obtain ⟨d, hod, hdn2, hcase⟩ := hstep i o us[i] h2' hui
      have hset1 : settledB l i o l 0 = true := by have := settledAll_spec l 0 i o hset h2'; rwa [Nat.zero_add] at this
      -- what it sees is as in the text's order
      have hsee : ∀ t, t ∈ seesOf l o → look (puts σ (l.take i) (us.take i)).t t = look σ1.t t := by
        intro t ht
        rw [puts_look _ _ _ _ (by simp; omega) (fun q q' o1 o2 d h1 h2 h3 h4 => by
          rw [List.getElem?_take] at h1 h2
          split at h1
          · split at h2
            · exact hdis q q' o1 o2 d h1 h2 h3 h4
            · cases h2
          · cases h1)]
        cases hf : ((l.take i).zip (us.take i)).find? (fun p => p.1.dst == some t) with
        | some p =>
          have hmem := List.mem_of_find?_eq_some hf
          have hpd : p.1.dst = some t := by simpa using List.find?_some hf
          obtain ⟨q, hq⟩ := List.getElem?_of_mem hmem
          rw [List.getElem?_zip_eq_some, List.getElem?_take, List.getElem?_take] at hq
          have hqi : q < i := by
            apply Classical.byContradiction
            intro hc
            rw [if_neg hc] at hq; cases hq.1
          rw [if_pos hqi, if_pos hqi] at hq
          obtain ⟨d', hd', hs'⟩ := settledB_spec l 0 q p.1 hset1 hq.1
          rw [hpd] at hd'; cases hd'
          have hdep := (hs' ht (by omega)).1 (by omega)
          rw [Nat.zero_add] at hdep
          obtain ⟨e, he1, he2, he3⟩ := mem_depsOf.1 hdep
          have hq3 : listed.getD q false = true := by rw [← he3]; exact h3 e he1 he2
          rw [s4 q p.1 t p.2 hq.1 hq.2 hpd hq3]
        | none =>
          simp only
          symm
          refine s5 t fun j oj hj hjd => ?_
          have hjl := (List.getElem?_eq_some_iff.1 hj).1
          by_cases hji : j < i
          · have hmem : (oj, us[j]'(by omega)) ∈ (l.take i).zip (us.take i) := by
              refine List.mem_of_getElem? (i := j) (List.getElem?_zip_eq_some.2 ⟨?_, ?_⟩)
              · rw [List.getElem?_take, if_pos hji]; exact hj
              · rw [List.getElem?_take, if_pos hji]; exact List.getElem?_eq_getElem (by omega)
            exact absurd (by simpa using hjd) (List.find?_eq_none.1 hf _ hmem)
          · by_cases hje : j = i
            · subst hje; exact hlf
            · obtain ⟨d', hd', hs'⟩ := settledB_spec l 0 j oj hset1 hj
              rw [hjd] at hd'; cases hd'
              have hdep := (hs' ht (by omega)).2 (by omega)
              cases hc : listed.getD j false
              · rfl
              · have := hdn j oj hj hc i hdep
                rw [hlf] at this; cases this
      have hwan : wantedA l (puts σ (l.take i) (us.take i)) o = wantedA l σ1 o := by
        refine (wantedA_congr (by rw [puts_n, s2]) fun j want d0 hg hd0 => hsee d0 ?_)
        simp only [seesOf, hg, hd0]; simp
      -- on behind it
      have go : ∀ (v : Value) (X2 : GW), New X1 X2 → (∀ b n, X2.g b = some n → b < X2.w.heap.size) → Rel X2 us[i] v → FreshOk F X1.w.heap.size X2 us[i] v → wpAny P .any l.toArray (PostA F X (Stk P Q ks)) fuel (listed.setIfInBounds i true) (a1.put o.dst v) X2.w := by
        intro v X2 hn2 hg2 hr2 hf2
        refine ih (listed.setIfInBounds i true) X2 (a1.put o.dst v) (by simp [hsz]) ?_ (hx1.trans (hn2.ext s1.gb s1.fb)) (by rw [put_defers]; exact hd1) ?_ ?_
        · have := count_set hil hsz h1
          omega
        · refine ⟨σ1.put d us[i], ?_, s2, s3, fun j oj dj uj hj huj hdj hlj => ?_, fun t ht => ?_⟩
          · rw [hod]
            exact s1.put_new (by rw [s2]; exact lt_of_ble hdn2) hn2 hg2 hr2 hf2
          · simp only [AS.put, look_cons]
            by_cases e : j = i
            · subst e
              rw [h2'] at hj; cases hj
              rw [hod] at hdj; cases hdj
              rw [if_pos rfl, ← huj, hui]
            · have hne : dj ≠ d := fun e2 => e (hdis j i oj o d hj h2' (by rw [hdj, e2]) hod)
              rw [if_neg hne]
              rw [getD_setb false (by omega), if_neg e] at hlj
              exact s4 j oj dj uj hj huj hdj hlj
          · have hne : t ≠ d := by
              rintro rfl
              have := ht i o h2' hod
              rw [getD_setb false (by omega), if_pos rfl] at this; cases this
            simp only [AS.put, look_cons]
            rw [if_neg hne]
            refine s5 t fun j oj hj hjd => ?_
            have := ht j oj hj hjd
            rw [getD_setb false (by omega)] at this
            by_cases e : j = i
            · rw [if_pos e] at this; cases this
            · rw [if_neg e] at this; exact this
        · intro j oj hoj hj dd hdd
          rw [getD_setb false (by omega)]
          by_cases e : dd = i
          · rw [if_pos e]
          · rw [if_neg e]
            by_cases e2 : j = i
            · subst e2
              rw [h2'] at hoj; cases hoj
              obtain ⟨x, hx1, hx2, hx3⟩ := mem_depsOf.1 hdd
              rw [← hx3]; exact h3 x hx1 hx2
            · rw [getD_setb false (by omega), if_neg e2] at hj
              exact hdn j oj hoj hj dd hdd
      unfold wpOp
      simp only [h2]
      rcases hcase with ⟨hw, hop⟩ | ⟨hw, hun⟩
      · rw [hwan] at hw
        rw [if_pos (wanted_of s1 hw)]
        left
        have hR : SimR F X1 (puts σ (l.take i) (us.take i)) o.op a1.tmps := by
          refine ⟨s1.gb, s1.fb, fun t u ht hu => ?_, fun k cs hk => ?_⟩
          · rw [hsee t (by simp only [seesOf]; exact List.mem_append_left _ (mem_tmpsOf ht))] at hu
            exact s1.slot t u hu
          · rw [puts_h, ← s3] at hk; exact s1.box k cs hk
        refine (hop F X1 a1 hR).wp fun x w' ⟨X2, k1, k2, k3, k4, k5⟩ => ?_
        subst k1
        exact go x X2 k2 k3 k4 k5
      · rw [hwan] at hw
        rw [if_neg (by rw [wanted_of s1 hw]; simp)]
        exact go undef X1 (New.refl X1) s1.gb (by rw [hun]; exact .v _) (by rw [hun]; exact FreshOk.plain rfl)
  have h0 : PostA F X (Stk P Q ks) = PostA F X (Stk P Q ks) := rfl
  have hdrew : ({ X.w with drawn := X.w.drawn + 1 } : World) = X.w.drew := rfl
  have hXd : New X ⟨X.w.drew, X.g⟩ := ⟨rfl, rfl, rfl, Nat.le_refl _, fun _ _ => ⟨rfl, rfl⟩⟩
  have hsd := hs.new hXd hs.gb
  refine key _ _ ⟨X.w.drew, X.g⟩ a (by simp) (by refine Nat.le_trans (List.length_filter_le _ _) (by simp)) (hXd.ext hs.gb hs.fb) hdf ⟨σ, hsd, rfl, rfl, fun i o d u _ _ _ hf => ?_, fun t _ => rfl⟩ (fun j oj hoj hf => ?_)
  · simp only [Array.getD_eq_getD_getElem?, Array.getElem?_replicate] at hf
    split at hf <;> simp at hf
  · simp only [Array.getD_eq_getD_getElem?, Array.getElem?_replicate] at hf
    split at hf <;> simp at hf

/-- A call, in whatever order: what it is handed it only reads. -/
theorem opv_call {f : FuncId} {xs : Array Operand} {ats : Array TypeId} {ty : TypeId} {pos : String} {af : Array Edge} {g : Option (Nat × Bool)} {dd : Option Tmp} {us : List AV} (hc : ACalls P f us [] (fun out H => out = .ret u ∧ H = [])) {us0 : List AV} (hx : opVs σ xs.toList = some us0) (hle : LeL us0 us) (hp : us.all (fun u => (own1 (some u)).isNone) = true) :
    OpV P ⟨dd, .call { callee := .value (.func f), args := xs, argTypes := ats }, ty, pos, af, g⟩ σ u := by
  intro F X a hs
  obtain ⟨g1, g2⟩ := opVs_get hx
  let vs : Array Value := xs.map a.eval
  have hlen : us.length = xs.size := by rw [← hle.length, g1]; simp
  let F1 : Nat → Prop := fun b => b < X.w.heap.size
  have hno : ∀ i u, us[i]? = some u → own1 (some u) = none := fun i u hu => by simpa using List.all_eq_true.1 hp u (List.mem_of_getElem? hu)
  have hnown : ∀ r, AS.own ⟨us.length, slotsOf 0 us, [], []⟩ r = none := by
    intro r
    cases r with
    | c k o => rfl
    | s t =>
      simp only [AS.own]
      cases hlk : look (slotsOf 0 us) t with
      | none => rfl
      | some u =>
        obtain ⟨_, h2⟩ := look_slotsOf us 0 t u hlk
        exact hno _ u h2
  have hτ : SimE F1 X ⟨us.length, slotsOf 0 us, [], []⟩ vs := by
    refine ⟨⟨by simp [vs, hlen], hs.gb, fun b hb => hb, fun t u hu => ?_, (fun k cs hk => by simp [look_nil] at hk), (fun x r hx => by simp [look_nil] at hx), (fun r sz l ho => by rw [hnown r] at ho; cases ho), (fun r r' sz l sz' l' a n c a' n' c' _ ho => by rw [hnown r] at ho; cases ho)⟩, (fun p hp => by cases hp)⟩
    obtain ⟨_, h2⟩ := look_slotsOf us 0 t u hu
    rw [Nat.sub_zero] at h2
    obtain ⟨u0, k1, k2⟩ := hle.get t u h2
    have ht : t < xs.size := by rw [← hlen]; exact (List.getElem?_eq_some_iff.1 h2).1
    have hxt : xs.toList[t]? = some xs[t] := by simp [ht]
    obtain ⟨u1, m1, m2⟩ := g2 t xs[t] hxt
    rw [k1] at m1; cases m1
    have : vs.getD t undef = a.eval xs[t] := by simp [vs, ht]
    rw [this]
    exact k2.rel (opV_rel hs (by simp only [Op.operands, Call.operands]; simp) m2)
  unfold Runs
  rw [Conc.execOp_call_func rfl, run_enter hc.1]
  refine (hc.2 F1 X vs hτ).mono fun e w' ⟨X', out, H', p1, p2, p3, p4⟩ => ?_
  obtain ⟨rfl, rfl⟩ := p2
  obtain ⟨v, rfl, hv⟩ := p3
  refine ⟨X', p1, ⟨p4.os, p4.tape, p4.output, p4.size, fun b hb => p4.frame b hb⟩, hv.gb, hv.slot 0 u (by simp [look_cons]), fun sz l' ho => ?_⟩
  obtain ⟨y, k1, k2⟩ := hv.own (.s 0) sz l' (by simp only [AS.own, look_cons]; exact ho)
  simp only [rootV] at k1
  have k1' : v = y := by have := Option.some.inj k1; exact this
  subst k1'
  refine ⟨k2.keep fun b n c hb => ⟨rfl, rfl, fun hF => (k2.lt hb).2 (hs.fb b hF)⟩, fun q n c hq => ?_⟩
  rcases k2 with ⟨k2, _⟩ | ⟨b, cap, cs, e, fr, k2, _, _, _, _, k3⟩
  · rw [k2] at hq; cases hq
  · rw [k2] at hq; cases hq
    exact Nat.le_of_not_lt k3
theorem opv_move_rd {op : Op} {x : Operand} {ty : TypeId} {pos : String} {af : Array Edge} {g : Option (Nat × Bool)} {dd : Option Tmp} (hx : opV σ x = some u) (ho : op = .move x ∨ op = .assign x) : OpV P ⟨dd, op, ty, pos, af, g⟩ σ u.rd := by
  rcases ho with rfl | rfl
  · exact opv_same (plain_rd u) fun F X ac hs => ⟨ac.eval x, rfl, (opV_rel hs (by simp [Op.operands]) hx).rd⟩
  · exact opv_same (plain_rd u) fun F X ac hs => ⟨ac.eval x, rfl, (opV_rel hs (by simp [Op.operands]) hx).rd⟩
end
end Go.Proofs.Ytophpbihcfdkcaa
