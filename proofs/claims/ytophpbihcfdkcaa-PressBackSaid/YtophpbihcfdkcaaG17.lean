/- The layer of abstract values: regions that draw their order, with an append to a row that a box holds, and a store behind it. -/
import Derived.Test.YtophpbihcfdkcaaG16
namespace Go.Proofs.Ytophpbihcfdkcaa
open Go.RowKit P
set_option linter.unusedSimpArgs false
set_option linter.unusedVariables false

/-- An append in a region that draws its order: its number, the number of the operation that fetches its base, their slots, and the cell at which the base is owned. -/
structure AppIn where
  ia : Nat
  i0 : Nat
  s : Nat
  d : Nat
  k : Nat
  o : Nat
  sz : Nat
  L : List (List AV)
  m : List (List AV)
def AppIn.r (A : AppIn) : Root := .c A.k A.o
/-- What is asked of the append, the state as in the text's order. -/
def AppOk (P : Program) (A : AppIn) (o : Oper) (σ : AS) : Prop :=
  ∀ F X (a : Act) (xv : Value), SimR F X σ o.op a.tmps → a.tmps.getD A.s undef = xv → ∃ (t u e ty : TypeId) (i : TypeInfo) (zv : Value) (du : TypeDesc) (yv : Value) (c' : Nat → Nat → Value), P.underlying t = some (.slice e) ∧ P.underlying u = some du ∧ (du = .string ∨ ∃ e', du = .slice e') ∧ P.info? e = some i ∧ i.zero = some zv ∧ zv.cells.size = A.sz ∧ i.size = A.sz ∧ AddsA P X A.sz A.m yv c' ∧ (A.L.length + A.m.length) * i.bytes ≤ 140737488355328 ∧ 1 ≤ i.bytes ∧
    ∀ y w', (Builtin.append_ #[t, u] ty #[xv, yv]).run P X.w = .ok y w' → (execOp a.eval o).run P X.w = .ok (.value y) w'
/-- What is asked of the operation that fetches the base: it hands back what stands at the place. -/
def SrcOk (P : Program) (A : AppIn) (o : Oper) (σ : AS) : Prop := o.dst = some A.s ∧ ∀ F X (a : Act), SimR F X σ o.op a.tmps → ∃ x, (execOp a.eval o).run P X.w = .ok (.value x) X.w ∧ rootV a.tmps X.w A.r = some x
def settledAllB (l body : List Oper) : List Oper → Nat → Bool
  | [], _ => true
  | o :: r, i => settledB l i o body 0 && settledAllB l body r (i + 1)
theorem settledAllB_spec {l body : List Oper} : ∀ (r : List Oper) (i q : Nat) (o : Oper), settledAllB l body r i = true → r[q]? = some o → settledB l (i + q) o body 0 = true
  | [], _, _, _, _, h => by simp at h
  | o0 :: r, i, 0, o, h, ho => by
    simp at ho; subst ho
    simp only [settledAllB, Bool.and_eq_true] at h
    exact h.1
  | o0 :: r, i, q + 1, o, h, ho => by
    simp only [settledAllB, Bool.and_eq_true] at h
    have := settledAllB_spec r (i + 1) q o h.2 (by simpa using ho)
    rw [show i + (q + 1) = i + 1 + q by omega]; exact this
def appB (body : List Oper) (ow : Oper) (A : AppIn) : Bool := lexFrom 0 body && settledAllB (body ++ [ow]) body body 0 && dstsB body [] && (List.range body.length).all (fun j => (depsOf ow).contains j || (depsOf ow).any (fun i => match body[i]? with | some o => (depsOf o).contains j | none => false)) && (depsOf ow).all (fun j => j < body.length) && (match body[A.ia]? with | some o => (depsOf o).contains A.i0 && o.dst == some A.d && o.guard.isNone | none => false) && (match body[A.i0]? with | some o => o.dst == some A.s && o.guard.isNone | none => false) && A.i0 != A.ia

/-- The walk in the text's order, an append among the operations. -/
def QSemA (P : Program) (l : List Oper) (A : AppIn) (K : AS → Prop) : Nat → List Oper → AS → Prop
  | _, [], σ => K (σ.lay A.r)
  | k, o :: rest, σ => ∃ d u, o.dst = some d ∧ Nat.ble (d + 1) σ.n = true ∧ ((k = A.ia ∧ AppOk P A o σ ∧ u = .sl true A.sz (A.L ++ A.m)) ∨ (k ≠ A.ia ∧ wantedA l σ o = some true ∧ OpV P o σ u ∧ (k = A.i0 → SrcOk P A o σ)) ∨ (k ≠ A.ia ∧ k ≠ A.i0 ∧ wantedA l σ o = some false ∧ u = .v undef)) ∧ QSemA P l A K (k + 1) rest (σ.put d u)
section
variable {P : Program} {Q : Exit → AS → Prop} {ks : List It} {T : Tys P} {σ : AS} {K : AS → Prop} {l body rest : List Oper} {ow o : Oper} {A : AppIn} {d k : Nat} {u : AV}
theorem qa_op (hk : Nat.beq k A.ia = false) (hk0 : Nat.beq k A.i0 = false) (hw : wantedA l σ o = some true) (hdst : o.dst = some d) (hd : Nat.ble (d + 1) σ.n = true) (h : OpV P o σ u) (hn : QSemA P l A K (k + 1) rest (σ.put d u)) : QSemA P l A K k (o :: rest) σ :=
  ⟨d, u, hdst, hd, .inr (.inl ⟨(fun e => by rw [e, Nat.beq_refl] at hk; cases hk), hw, h, (fun e => by rw [e, Nat.beq_refl] at hk0; cases hk0)⟩), hn⟩
theorem qa_src (hk : Nat.beq k A.ia = false) (hw : wantedA l σ o = some true) (hdst : o.dst = some d) (hd : Nat.ble (d + 1) σ.n = true) (h : OpV P o σ u) (hsrc : SrcOk P A o σ) (hn : QSemA P l A K (k + 1) rest (σ.put d u)) : QSemA P l A K k (o :: rest) σ :=
  ⟨d, u, hdst, hd, .inr (.inl ⟨(fun e => by rw [e, Nat.beq_refl] at hk; cases hk), hw, h, fun _ => hsrc⟩), hn⟩
theorem qa_app (hk : k = A.ia) (hdst : o.dst = some d) (hd : Nat.ble (d + 1) σ.n = true) (h : AppOk P A o σ) (hn : QSemA P l A K (k + 1) rest (σ.put d (.sl true A.sz (A.L ++ A.m)))) : QSemA P l A K k (o :: rest) σ := ⟨d, _, hdst, hd, .inl ⟨hk, h, rfl⟩, hn⟩
theorem qa_nil (h : K (σ.lay A.r)) : QSemA P l A K k [] σ := h
theorem qa_table : ∀ (rest : List Oper) (k : Nat) (σ : AS), QSemA P l A K k rest σ → ∃ us : List AV, us.length = rest.length ∧ K ((puts σ rest us).lay A.r) ∧
    ∀ (i : Nat) o u, rest[i]? = some o → us[i]? = some u → ∃ d, o.dst = some d ∧ Nat.ble (d + 1) σ.n = true ∧ ((k + i = A.ia ∧ AppOk P A o (puts σ (rest.take i) (us.take i)) ∧ u = .sl true A.sz (A.L ++ A.m)) ∨ (k + i ≠ A.ia ∧ wantedA l (puts σ (rest.take i) (us.take i)) o = some true ∧ OpV P o (puts σ (rest.take i) (us.take i)) u ∧ (k + i = A.i0 → SrcOk P A o (puts σ (rest.take i) (us.take i)))) ∨ (k + i ≠ A.ia ∧ k + i ≠ A.i0 ∧ wantedA l (puts σ (rest.take i) (us.take i)) o = some false ∧ u = .v undef))
  | [], k, σ, h => ⟨[], rfl, h, fun i o u h => by simp at h⟩
  | o :: rest, k, σ, ⟨d, u, h1, h2, h3, h4⟩ => by
    obtain ⟨us, k1, k2, k3⟩ := qa_table rest (k + 1) (σ.put d u) h4
    refine ⟨u :: us, by simp [k1], by simp only [puts, h1]; exact k2, fun i o' u' ho hu => ?_⟩
    cases i with
    | zero => simp at ho hu; subst ho hu; exact ⟨d, h1, h2, h3⟩
    | succ i =>
      obtain ⟨d', m1, m2, m3⟩ := k3 i o' u' (by simpa using ho) (by simpa using hu)
      refine ⟨d', m1, m2, ?_⟩
      simp only [List.take_succ_cons, puts, h1]
      rw [show k + (i + 1) = k + 1 + i by omega]
      exact m3
theorem box_unlay {F : Nat → Prop} {X : GW} {tm : Array Value} {σ1 : AS} {r : Root} {H : List (Nat × List AV)} (h : SimE F X σ1 tm) (hh : σ1.h = (AS.lay ⟨0, [], H, []⟩ r).h) : ∀ k cs, look H k = some cs → BoxOk F X k cs := by
  intro k cs hk
  cases r with
  | s t => exact h.box k cs (by rw [hh]; exact hk)
  | c k0 o0 =>
    by_cases e1 : k = k0
    · subst e1
      have hl : look σ1.h k = some (match cs[o0]? with | some u => cs.set o0 u.rd | none => cs) := by
        rw [hh]; simp only [AS.lay, hk, look_cons, if_true]; cases cs[o0]? <;> rfl
      rcases h.box k _ hl with ⟨_, b1, b2, arr, el, fr, b3, b4, b5, b6⟩ | ⟨l, hl2, hmk⟩
      case inr =>
        cases hc : cs[o0]? with
        | none => rw [hc] at hl2; exact .inr ⟨l, hl2, hmk⟩
        | some u0 =>
          rw [hc] at hl2
          simp only at hl2
          have h0 := (List.getElem?_eq_some_iff.1 hc).1
          have h1 : cs.length = 1 := by have := congrArg List.length hl2; simpa using this
          obtain ⟨q, rfl⟩ : ∃ q, cs = [q] := List.length_eq_one_iff.1 h1
          have h2 : o0 = 0 := by omega
          subst h2
          simp at hc hl2
          subst hc
          cases q with
          | mp l' => exact .inr ⟨l', rfl, by simp [AV.rd] at hl2; subst hl2; exact hmk⟩
          | _ => simp [AV.rd] at hl2
      cases hc : cs[o0]? with
      | none => rw [hc] at b4 b6; exact CellsOk.box ⟨b1, b2, arr, el, fr, b3, b4, b5, b6⟩
      | some u0 =>
        rw [hc] at b4 b6
        refine CellsOk.box ⟨b1, b2, arr, el, fr, b3, by simpa using b4, b5, fun q u x hu hx => ?_⟩
        by_cases e2 : q = o0
        · subst e2
          rw [hc] at hu; cases hu
          have := b6 q u0.rd x (by simp only; rw [List.getElem?_set_self (List.getElem?_eq_some_iff.1 hc).1]) hx
          cases u0 with
          | sl o sz l => exact this.own
          | _ => exact this
        · exact b6 q u x (by simp only; rw [List.getElem?_set_ne (fun e => e2 e.symm)]; exact hu) hx
    · refine h.box k cs ?_
      rw [hh]
      simp only [AS.lay]
      cases hl : look H k0 with
      | none => exact hk
      | some c0 => simp only [look_cons]; rw [if_neg e1]; exact hk


/-- A region that draws its order: reads and calls, an append to a row that a box holds, a store behind all: one walk. -/
theorem ar_drawA {id : Nat} (A : AppIn) (hm : P.follows .mixedOrders = true) (hl : l = body ++ [ow]) (hB : appB body ow A = true) (he : σ.e = []) (hown : σ.own A.r = some (A.sz, A.L)) (h : QSemA P l A (fun σ' => wantedA l σ' ow = some true ∧ EffOp P ow σ' (fun σ'' => ARun P Q ks σ'')) 0 body σ) : ARun P Q (.c (.region id l.toArray true) :: ks) σ := by
  intro F X a hs hdf
  obtain ⟨us, hul, ⟨hKw, hK⟩, hstep⟩ := qa_table body 0 σ h
  simp only [appB, Bool.and_eq_true] at hB
  obtain ⟨⟨⟨⟨⟨⟨⟨hx, hset⟩, hdst⟩, howd⟩, howl⟩, hia⟩, hi0⟩, hne0⟩ := hB
  have hdis := (dstsB_spec body [] hdst).2
  have hlb : ∀ i, i < body.length → l[i]? = body[i]? := fun i hi => by rw [hl, List.getElem?_append_left hi]
  have hll : l.length = body.length + 1 := by rw [hl]; simp
  have hlo : l[body.length]? = some ow := by rw [hl]; simp
  obtain ⟨oa, hoa, hoa1, hoa2, hoa3⟩ : ∃ o, body[A.ia]? = some o ∧ A.i0 ∈ depsOf o ∧ o.dst = some A.d ∧ o.guard = none := by
    cases ho : body[A.ia]? with
    | none => rw [ho] at hia; cases hia
    | some o => rw [ho] at hia; simp only [Bool.and_eq_true] at hia; exact ⟨o, rfl, by simpa using hia.1.1, by simpa using hia.1.2, by simpa using hia.2⟩
  obtain ⟨o0, ho0, ho01, ho02⟩ : ∃ o, body[A.i0]? = some o ∧ o.dst = some A.s ∧ o.guard = none := by
    cases ho : body[A.i0]? with
    | none => rw [ho] at hi0; cases hi0
    | some o => rw [ho] at hi0; simp only [Bool.and_eq_true] at hi0; exact ⟨o, rfl, by simpa using hi0.1, by simpa using hi0.2⟩
  have hne0 : A.i0 ≠ A.ia := by simpa using hne0
  have hial : A.ia < body.length := (List.getElem?_eq_some_iff.1 hoa).1
  have hi0l : A.i0 < body.length := (List.getElem?_eq_some_iff.1 ho0).1
  have hlex : ∀ (i : Nat) o, l[i]? = some o → ∀ j ∈ depsOf o, j < i := by
    intro i o ho j hj
    have hil := (List.getElem?_eq_some_iff.1 ho).1
    by_cases hib : i < body.length
    · rw [hlb i hib] at ho
      have := lexFrom_spec body 0 i o hx ho j hj
      omega
    · have hie : i = body.length := by omega
      subst hie
      rw [hlo] at ho; cases ho
      have := List.all_eq_true.1 howl j hj
      simpa using this
  have howall : ∀ j, j < body.length → j ∈ depsOf ow ∨ ∃ i o, i ∈ depsOf ow ∧ body[i]? = some o ∧ j ∈ depsOf o := fun j hj => by
    have h1 := List.all_eq_true.1 howd j (List.mem_range.2 hj)
    rw [Bool.or_eq_true] at h1
    rcases h1 with h1 | h1
    · exact .inl (by simpa using h1)
    · obtain ⟨i, hi, h2⟩ := List.any_eq_true.1 h1
      cases ho : body[i]? with
      | none => rw [ho] at h2; cases h2
      | some o => rw [ho] at h2; exact .inr ⟨i, o, hi, ho, by simpa using h2⟩
  refine wp_region_any hm ?_
  let Inv : Array Bool → GW → Act → Prop := fun listed X1 a1 => ∃ σ1 : AS, SimE F X1 σ1 a1.tmps ∧ σ1.n = σ.n ∧ σ1.h = (if listed.getD A.ia false = true then (AS.lay ⟨0, [], σ.h, []⟩ A.r).h else σ.h) ∧ σ1.e = [] ∧
    (∀ (i : Nat) o d u, body[i]? = some o → us[i]? = some u → o.dst = some d → listed.getD i false = true → look σ1.t d = some u) ∧
    (∀ t, (∀ (i : Nat) o, body[i]? = some o → o.dst = some t → listed.getD i false = false) → look σ1.t t = look σ.t t) ∧
    (listed.getD A.i0 false = true → listed.getD A.ia false = false → rootV a1.tmps X1.w A.r = some (a1.tmps.getD A.s undef))
  have ready_of : ∀ (listed : Array Bool), listed.size = l.length → (∃ i, i < l.length ∧ listed.getD i false = false) → Region.ready .any l.toArray listed ≠ [] := by
    intro listed hsz hex hnil
    obtain ⟨k, hk, hkf, hkl⟩ := first_false (fun j => listed.getD j false) l.length hex
    have hmem : k ∈ Region.ready .any l.toArray listed := by
      refine mem_ready.2 ⟨by rw [getD_tf (by omega)]; exact hkf, l[k], by simp [hk], fun e he hb => ?_⟩
      exact hkl e.on (hlex k l[k] (List.getElem?_eq_getElem hk) e.on (mem_depsOf.2 ⟨e, he, hb, rfl⟩))
    rw [hnil] at hmem; cases hmem
  have key : ∀ (fuel : Nat) (listed : Array Bool) (X1 : GW) (a1 : Act), listed.size = l.length → listed.getD body.length false = false →
      ((List.range l.length).filter (fun i => !listed.getD i true)).length ≤ fuel → Ext F X X1 → a1.defers = [] → Inv listed X1 a1 →
      (∀ j oj, l[j]? = some oj → listed.getD j false = true → ∀ d ∈ depsOf oj, listed.getD d false = true) →
      wpAny P .any l.toArray (PostA F X (Stk P Q ks)) fuel listed a1 X1.w := by
    intro fuel
    induction fuel with
    | zero =>
      intro listed X1 a1 hsz hlast hf hx1 hd1 hI hdn
      have h0 := List.length_eq_zero_iff.1 (Nat.le_zero.1 hf)
      have := List.filter_eq_nil_iff.1 h0 body.length (List.mem_range.2 (by omega))
      rw [getD_tf (by omega), hlast] at this; exact absurd rfl this
    | succ fuel ih =>
      intro listed X1 a1 hsz hlast hf hx1 hd1 hI hdn
      refine ⟨fun hnil => absurd hnil (ready_of listed hsz ⟨body.length, by omega, hlast⟩), fun i hi => ?_⟩
      obtain ⟨h1, o, h2, h3⟩ := mem_ready.1 hi
      have h2l : l[i]? = some o := by simpa using h2
      have hil : i < l.length := (List.getElem?_eq_some_iff.1 h2l).1
      have hlf : listed.getD i false = false := by rw [← getD_tf (by omega)]; exact h1
      obtain ⟨σ1, s1, s2, s3, se, s4, s5, s6⟩ := hI
      unfold wpOp
      simp only [h2]
      by_cases hib : i < body.length
      · -- an operation of the body
        have h2' : body[i]? = some o := by rw [← hlb i hib]; exact h2l
        have hui : us[i]? = some us[i] := List.getElem?_eq_getElem (by omega)
        obtain ⟨d, hod, hdn2, hcase⟩ := hstep i o us[i] h2' hui
        rw [Nat.zero_add] at hcase
        have hset1 : settledB (body ++ [ow]) i o body 0 = true := by have := settledAllB_spec body 0 i o hset h2'; rwa [Nat.zero_add] at this
        rw [← hl] at hset1
        have hsee : ∀ t, t ∈ seesOf l o → look (puts σ (body.take i) (us.take i)).t t = look σ1.t t := by
          intro t ht
          rw [puts_look _ _ _ _ (by simp; omega) (fun q q' o1 o2 d h1 h2 h3 h4 => by
            rw [List.getElem?_take] at h1 h2
            split at h1
            · split at h2
              · exact hdis q q' o1 o2 d h1 h2 h3 h4
              · cases h2
            · cases h1)]
          cases hf : ((body.take i).zip (us.take i)).find? (fun p => p.1.dst == some t) with
          | some p =>
            have hmem := List.mem_of_find?_eq_some hf
            have hpd : p.1.dst = some t := by simpa using List.find?_some hf
            obtain ⟨q, hq⟩ := List.getElem?_of_mem hmem
            rw [List.getElem?_zip_eq_some, List.getElem?_take, List.getElem?_take] at hq
            have hqi : q < i := by
              apply Classical.byContradiction
              intro hc
              rw [if_neg hc] at hq; cases hq.1
            rw [if_pos hqi, if_pos hqi] at hq
            obtain ⟨d', hd', hs'⟩ := settledB_spec body 0 q p.1 hset1 hq.1
            rw [hpd] at hd'; cases hd'
            have hdep := (hs' ht (by omega)).1 (by omega)
            rw [Nat.zero_add] at hdep
            obtain ⟨e, he1, he2, he3⟩ := mem_depsOf.1 hdep
            have hq3 : listed.getD q false = true := by rw [← he3]; exact h3 e he1 he2
            rw [s4 q p.1 t p.2 hq.1 hq.2 hpd hq3]
          | none =>
            simp only
            symm
            refine s5 t fun j oj hj hjd => ?_
            have hjl := (List.getElem?_eq_some_iff.1 hj).1
            by_cases hji : j < i
            · have hmem : (oj, us[j]'(by omega)) ∈ (body.take i).zip (us.take i) := by
                refine List.mem_of_getElem? (i := j) (List.getElem?_zip_eq_some.2 ⟨?_, ?_⟩)
                · rw [List.getElem?_take, if_pos hji]; exact hj
                · rw [List.getElem?_take, if_pos hji]; exact List.getElem?_eq_getElem (by omega)
              exact absurd (by simpa using hjd) (List.find?_eq_none.1 hf _ hmem)
            · by_cases hje : j = i
              · subst hje; exact hlf
              · obtain ⟨d', hd', hs'⟩ := settledB_spec body 0 j oj hset1 hj
                rw [hjd] at hd'; cases hd'
                have hdep := (hs' ht (by omega)).2 (by omega)
                cases hc : listed.getD j false
                · rfl
                · have := hdn j oj (by rw [hlb j hjl]; exact hj) hc i hdep
                  rw [hlf] at this; cases this
        have hwan : wantedA l (puts σ (body.take i) (us.take i)) o = wantedA l σ1 o := by
          refine (wantedA_congr (by rw [puts_n, s2]) fun j want d0 hg hd0 => hsee d0 ?_)
          simp only [seesOf, hg, hd0]; simp
        have hbox : ∀ k cs, look σ.h k = some cs → BoxOk F X1 k cs := by
          by_cases hla : listed.getD A.ia false = true
          · rw [if_pos hla] at s3; exact box_unlay s1 s3
          · rw [if_neg hla] at s3; intro k cs hk; exact s1.box k cs (by rw [s3]; exact hk)
        have hR : SimR F X1 (puts σ (body.take i) (us.take i)) o.op a1.tmps := by
          refine ⟨s1.gb, s1.fb, fun t u ht hu => ?_, fun k cs hk => ?_⟩
          · rw [hsee t (by simp only [seesOf]; exact List.mem_append_left _ (mem_tmpsOf ht))] at hu
            exact s1.slot t u hu
          · rw [puts_h] at hk; exact hbox k cs hk
        -- what is left to be shown behind it
        have go : ∀ (v : Value) (X2 : GW) (σ2 : AS), Ext F X X2 → SimE F X2 σ2 (a1.put o.dst v).tmps → σ2.n = σ.n → σ2.h = (if (listed.setIfInBounds i true).getD A.ia false = true then (AS.lay ⟨0, [], σ.h, []⟩ A.r).h else σ.h) → σ2.e = [] →
            (∀ t, look σ2.t t = if t = d then some us[i] else look σ1.t t) → ((listed.setIfInBounds i true).getD A.i0 false = true → (listed.setIfInBounds i true).getD A.ia false = false → rootV (a1.put o.dst v).tmps X2.w A.r = some ((a1.put o.dst v).tmps.getD A.s undef)) →
            wpAny P .any l.toArray (PostA F X (Stk P Q ks)) fuel (listed.setIfInBounds i true) (a1.put o.dst v) X2.w := by
          intro v X2 σ2 hx2 hs2 hn2 hh2 he2 hlk2 hal2
          refine ih (listed.setIfInBounds i true) X2 (a1.put o.dst v) (by simp [hsz]) (by rw [getD_setb false (by omega), if_neg (by omega)]; exact hlast) ?_ hx2 (by rw [put_defers]; exact hd1) ⟨σ2, hs2, hn2, hh2, he2, ?_, ?_, hal2⟩ ?_
          · have := count_set hil hsz h1
            omega
          · intro j oj dj uj hj huj hdj hlj
            rw [hlk2]
            by_cases e : j = i
            · subst e
              rw [h2'] at hj; cases hj
              rw [hod] at hdj; cases hdj
              rw [if_pos rfl, ← huj, hui]
            · have hne : dj ≠ d := fun e2 => e (hdis j i oj o d hj h2' (by rw [hdj, e2]) hod)
              rw [if_neg hne]
              rw [getD_setb false (by omega), if_neg e] at hlj
              exact s4 j oj dj uj hj huj hdj hlj
          · intro t ht
            have hne : t ≠ d := by
              rintro rfl
              have := ht i o h2' hod
              rw [getD_setb false (by omega), if_pos rfl] at this; cases this
            rw [hlk2, if_neg hne]
            refine s5 t fun j oj hj hjd => ?_
            have := ht j oj hj hjd
            rw [getD_setb false (by omega)] at this
            by_cases e : j = i
            · rw [if_pos e] at this; cases this
            · rw [if_neg e] at this; exact this
          · intro j oj hoj hj dd hdd
            rw [getD_setb false (by omega)]
            by_cases e : dd = i
            · rw [if_pos e]
            · rw [if_neg e]
              by_cases e2 : j = i
              · subst e2
                rw [h2l] at hoj; cases hoj
                obtain ⟨x, hx1, hx2, hx3⟩ := mem_depsOf.1 hdd
                rw [← hx3]; exact h3 x hx1 hx2
              · rw [getD_setb false (by omega), if_neg e2] at hj
                exact hdn j oj hoj hj dd hdd
        have hput : ∀ v, (a1.put o.dst v).tmps = a1.tmps.setIfInBounds d v := fun v => by rw [hod]; rfl
        have hlk : ∀ (σ' : AS) (uu : AV), (∀ t, look σ'.t t = look σ1.t t) → ∀ t, look (σ'.put d uu).t t = if t = d then some uu else look σ1.t t := fun σ' uu h t => by
          simp only [AS.put, look_cons]; rw [h]
        have hepu : ∀ (σ' : AS) (uu : AV), σ'.e = [] → (σ'.put d uu).e = [] := fun σ' uu h => by simp [AS.put, h]
        -- a step that turns nothing
        have quiet : i ≠ A.ia → ∀ (v : Value) (X2 : GW), New X1 X2 → (∀ b n, X2.g b = some n → b < X2.w.heap.size) → Rel X2 us[i] v → FreshOk F X1.w.heap.size X2 us[i] v → (i = A.i0 → rootV a1.tmps X1.w A.r = some v) → wpAny P .any l.toArray (PostA F X (Stk P Q ks)) fuel (listed.setIfInBounds i true) (a1.put o.dst v) X2.w := by
          intro hnia v X2 hn2 hg2 hr2 hf2 hsrc
          have hia2 : (listed.setIfInBounds i true).getD A.ia false = listed.getD A.ia false := by rw [getD_setb false (by omega), if_neg (fun e => hnia e.symm)]
          refine go v X2 (σ1.put d us[i]) (hx1.trans (hn2.ext s1.gb s1.fb)) (by rw [hput]; exact s1.put_new (by rw [s2]; exact lt_of_ble hdn2) hn2 hg2 hr2 hf2) s2 (by rw [hia2]; exact s3) (hepu σ1 _ se) (hlk σ1 _ (fun _ => rfl)) (fun h4 h5 => ?_)
          rw [hia2] at h5
          rw [hput]
          by_cases e : i = A.i0
          · have hds : d = A.s := by
              subst e
              rw [ho0] at h2'; cases h2'
              rw [ho01] at hod; cases hod; rfl
            rw [← hds, getD_set_self (by rw [s1.size, s2]; exact lt_of_ble hdn2)]
            exact rootV_new hn2 (by have := hsrc e; exact this)
          · have h6 : listed.getD A.i0 false = true := by rw [getD_setb false (by omega), if_neg (fun e2 => e e2.symm)] at h4; exact h4
            have h7 := s6 h6 h5
            have hds : A.s ≠ d := fun e2 => e (hdis i A.i0 o o0 d h2' ho0 hod (by rw [ho01, e2]))
            rw [getD_set_ne hds]
            exact rootV_new hn2 (by have := h7; exact this)
        rcases hcase with ⟨hia', hap, hu⟩ | ⟨hnia, hw, hop, hsrc⟩ | ⟨hnia, hni0, hw, hun⟩
        · -- the append
          subst hia'
          rw [hoa] at h2'; cases h2'
          rw [hoa2] at hod; cases hod
          have hwt : Region.wanted oa (yielded l.toArray a1.tmps) = true := by simp [Region.wanted, hoa3]
          rw [if_pos hwt]
          left
          rw [if_neg (by rw [hlf]; simp)] at s3
          have hi0d : listed.getD A.i0 false = true := by
            obtain ⟨e, he1, he2, he3⟩ := mem_depsOf.1 hoa1
            rw [← he3]; exact h3 e he1 he2
          have hxv := s6 hi0d hlf
          have hown1 : σ1.own A.r = some (A.sz, A.L) := by
            simp only [AppIn.r, AS.own] at hown ⊢
            rw [s3]; exact hown
          obtain ⟨xv, hv1, hok⟩ := s1.own A.r A.sz A.L hown1
          rw [hxv] at hv1; cases hv1
          have hrel := own_rel s1 hown1 hxv
          obtain ⟨t, u, e, ty, inf, zv, du, yv, c', p1, p2, p3, p4, p5, p6, p7, p8, p9, p10, p11⟩ := hap F X1 a1 _ hR rfl
          have hlay := s1.lay A.r
          obtain ⟨X2, y, hrun, happ⟩ := append_core (P := P) (ty := ty) (σ := σ1.lay A.r) hlay p1 p2 p3 p4 p5 p6 p7 hrel hok (rel_rows hrel) p8 p9 p10 (fun r' sz' l' q n c q' n' c' ho' hr' hx' => by
              obtain ⟨h1, h2⟩ := own_lay ho'
              exact s1.disj r' A.r sz' l' A.sz A.L q n c q' n' c' h1 h2 hown1 hr' (by rw [hxv, hx'])) (fun b p hp o => by
              have : (σ1.lay A.r).e = σ1.e := by cases A.r <;> rfl
              rw [this, se] at hp; cases hp)
          have hex := p11 y X2.w hrun
          unfold Oper.wp
          rw [hex]
          simp only [Oper.upon]
          rw [hu] at go
          refine go y X2 ((σ1.lay A.r).put A.d (.sl true A.sz (A.L ++ A.m))) (hx1.trans happ.ext) ?_ (by rw [← s2]; exact lay_n σ1 A.r) ?_ (hepu _ _ (by rw [show (σ1.lay A.r).e = σ1.e by cases A.r <;> rfl]; exact se)) (hlk _ _ (fun _ => rfl)) (fun _ h5 => by rw [getD_setb false (by omega), if_pos rfl] at h5; cases h5)
          · rw [hput]
            exact happ.sim.put' (by rw [lay_n, s2]; exact lt_of_ble hdn2) happ.rel (fun sz' l' h => by cases h; exact happ.own) (fun r' sz' l' sz2 l2 q n c q' n' c' h1 _ h2 h3 => happ.apart r' sz' l' q n c q' n' c' h1 h2 h3)
          · rw [getD_setb false (by omega), if_pos rfl, if_pos rfl]
            show (σ1.lay A.r).h = _
            simp only [AppIn.r, AS.lay, s3]
        · rw [hwan] at hw
          rw [if_pos (wanted_of s1 hw)]
          left
          by_cases e0 : i = A.i0
          · obtain ⟨x, hrun, hrv⟩ := (hsrc e0).2 F X1 a1 hR
            have h5 := hop F X1 a1 hR
            unfold Runs at h5
            rw [hrun] at h5
            obtain ⟨X2, k1, k2, k3, k4, k5⟩ := h5
            unfold Oper.wp
            rw [hrun]
            simp only [Oper.upon]
            rw [← k1]
            exact quiet hnia x X2 k2 k3 k4 k5 (fun _ => hrv)
          · refine (hop F X1 a1 hR).wp fun x w' ⟨X2, k1, k2, k3, k4, k5⟩ => ?_
            subst k1
            exact quiet hnia x X2 k2 k3 k4 k5 (fun e => absurd e e0)
        · rw [hwan] at hw
          rw [if_neg (by rw [wanted_of s1 hw]; simp)]
          exact quiet hnia undef X1 (New.refl X1) s1.gb (by rw [hun]; exact .v _) (by rw [hun]; exact FreshOk.plain rfl) (fun e => absurd e hni0)
      · -- the store, behind all
        have hie : i = body.length := by omega
        subst hie
        rw [hlo] at h2l; cases h2l
        have hallb : ∀ j, j < body.length → listed.getD j false = true := by
          intro j hj
          have hdl : ∀ q, q ∈ depsOf ow → listed.getD q false = true := fun q hq => by
            obtain ⟨e, he1, he2, he3⟩ := mem_depsOf.1 hq
            rw [← he3]; exact h3 e he1 he2
          rcases howall j hj with hj1 | ⟨i, oi, hi1, hi2, hi3⟩
          · exact hdl j hj1
          · exact hdn i oi (by rw [hlb i (List.getElem?_eq_some_iff.1 hi2).1]; exact hi2) (hdl i hi1) j hi3
        have hfin : SimE F X1 ((puts σ body us).lay A.r) a1.tmps := by
          rw [if_pos (hallb A.ia hial)] at s3
          refine s1.sub (by rw [lay_n, puts_n, s2]) (fun t u hu => ?_) (fun k cs hk => ?_) (fun p hp => ?_)
          · have hu' : look (puts σ body us).t t = some u := hu
            rw [puts_look body us σ t hul hdis] at hu'
            cases hf : (body.zip us).find? (fun p => p.1.dst == some t) with
            | some p =>
              rw [hf] at hu'
              cases hu'
              have hmem := List.mem_of_find?_eq_some hf
              have hpd : p.1.dst = some t := by simpa using List.find?_some hf
              obtain ⟨q, hq⟩ := List.getElem?_of_mem hmem
              rw [List.getElem?_zip_eq_some] at hq
              exact s4 q p.1 t p.2 hq.1 hq.2 hpd (hallb q (List.getElem?_eq_some_iff.1 hq.1).1)
            | none =>
              rw [hf] at hu'
              rw [← hu']
              refine s5 t fun i o ho hod => ?_
              have hil := (List.getElem?_eq_some_iff.1 ho).1
              have hui : us[i]? = some us[i] := List.getElem?_eq_getElem (by omega)
              have := List.find?_eq_none.1 hf (o, us[i]) (List.mem_of_getElem? (List.getElem?_zip_eq_some.2 ⟨ho, hui⟩))
              exact absurd (by simpa using hod) this
          · rw [s3]
            have : ((puts σ body us).lay A.r).h = (AS.lay ⟨0, [], σ.h, []⟩ A.r).h := by simp only [AppIn.r, AS.lay, puts_h]
            rw [this] at hk; exact hk
          · have h8 : ((puts σ body us).lay A.r).e = (puts σ body us).e := by simp only [AppIn.r, AS.lay]
            rw [h8, puts_e body us σ he] at hp; cases hp
        rw [if_pos (wanted_of hfin hKw)]
        left
        refine (hK F X1 a1 hfin).wp fun x w' ⟨X2, σ2, k1, k2, k3, k4⟩ => ?_
        subst k1
        have hpost : PostA F X (Stk P Q ks) .normal (a1.put ow.dst x) X2.w := ⟨by rw [put_defers]; exact hd1, X2, σ2, rfl, k2, k3, hx1.trans k4⟩
        have hnil : Region.ready .any l.toArray (listed.setIfInBounds body.length true) = [] := by
          rw [List.eq_nil_iff_forall_not_mem]
          intro j hj
          obtain ⟨h5, oj, h6, _⟩ := mem_ready.1 hj
          have hjl : j < l.length := by simpa using (Array.getElem?_eq_some_iff.1 h6).1
          rw [getD_setb true (by omega)] at h5
          by_cases e : j = body.length
          · rw [if_pos e] at h5; cases h5
          · rw [if_neg e, getD_tf (by omega), hallb j (by omega)] at h5; cases h5
        cases fuel with
        | zero => exact ⟨hnil, hpost⟩
        | succ fuel => exact ⟨fun _ => hpost, fun j hj => by rw [hnil] at hj; cases hj⟩
  have hXd : New X ⟨X.w.drew, X.g⟩ := ⟨rfl, rfl, rfl, Nat.le_refl _, fun _ _ => ⟨rfl, rfl⟩⟩
  have hsd := hs.new hXd hs.gb
  have hno : ∀ i, (Array.replicate l.toArray.size false).getD i false = false := fun i => by
    simp only [Array.getD_eq_getD_getElem?, Array.getElem?_replicate]
    split <;> simp
  refine key _ _ ⟨X.w.drew, X.g⟩ a (by simp) (hno _) (by refine Nat.le_trans (List.length_filter_le _ _) (by simp)) (hXd.ext hs.gb hs.fb) hdf ⟨σ, hsd, rfl, (by rw [if_neg (by rw [hno]; simp)]), he, (fun i o d u _ _ _ hf => by rw [hno] at hf; cases hf), (fun t _ => rfl), (fun hf => by rw [hno] at hf; cases hf)⟩ (fun j oj hoj hf => by rw [hno] at hf; cases hf)
end
end Go.Proofs.Ytophpbihcfdkcaa
