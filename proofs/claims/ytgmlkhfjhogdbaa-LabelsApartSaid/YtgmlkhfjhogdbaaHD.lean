-- slim: written by gen/slim.py from XHD.lean.tpl
/- Typed abstract values: what operations yield, proved. -/
import Derived.Test.YtgmlkhfjhogdbaaHC
namespace Go.Proofs.Ytgmlkhfjhogdbaa
open Go.RowKit P
set_option linter.unusedSimpArgs false
set_option linter.unusedVariables false

theorem Le1.trans {a b c : AV} (h : Le1 a b) (k : Le1 b c) : Le1 a c := by
  cases h with
  | refl => exact k
  | rd o sz l => cases k <;> exact .rd _ _ _
  | nil o sz => cases k <;> exact .nil _ _
theorem LeL.trans {a b c : List AV} (h : LeL a b) (k : LeL b c) : LeL a c := by
  induction h generalizing c with
  | nil => exact k
  | cons hu _ ih => cases k with | cons ku kr => exact .cons (hu.trans ku) (ih kr)
theorem le1_rd (u : AV) : Le1 u u.rd := by cases u <;> first | exact .refl _ | exact .rd _ _ _
section
variable {P : Program} {o : Oper} {σ : AS}
theorem opv_le {u u' : AV} (h : OpV P o σ u) (hl : Le1 u u') : OpV P o σ u' := by
  cases hl with
  | refl => exact h
  | rd ow sz l => exact fun F X a hs => (h F X a hs).mono fun x w' ⟨X', h1, h2, h3, h4, h5⟩ => ⟨X', h1, h2, h3, h4.own, FreshOk.plain rfl⟩
  | nil ow sz =>
    refine fun F X a hs => (h F X a hs).mono fun x w' ⟨X', h1, h2, h3, h4, h5⟩ => ?_
    have hx := rel_v h4
    subst hx
    refine ⟨X', h1, h2, h3, .nl _ _ _ _, fun sz' l hq => ?_⟩
    cases ow with
    | false => cases hq
    | true => cases hq; exact ⟨.inl ⟨rfl, rfl⟩, fun a n c e => by cases e⟩
theorem rel_ag_le {X : GW} {cs cs' : List AV} {v : Value} (h : Rel X (.ag cs) v) (hl : LeL cs cs') : Rel X (.ag cs') v := by
  cases h with
  | ag us xs hlen hr =>
    refine .ag cs' xs (by rw [← hl.length]; exact hlen) fun i u' x hu hx => ?_
    obtain ⟨u, h1, h2⟩ := hl.get i u' hu
    exact h2.rel (hr i u x h1 hx)
theorem opv_ag_le {cs cs' : List AV} (h : OpV P o σ (.ag cs)) (hl : LeL cs cs') : OpV P o σ (.ag cs') :=
  fun F X a hs => (h F X a hs).mono fun x w' ⟨X', h1, h2, h3, h4, h5⟩ => ⟨X', h1, h2, h3, rel_ag_le h4 hl, FreshOk.plain rfl⟩
/-- Rows, of which less is told. -/
inductive LeR : List (List AV) → List (List AV) → Prop
  | nil : LeR [] []
  | cons {r r' : List AV} {R R' : List (List AV)} : LeL r r' → LeR R R' → LeR (r :: R) (r' :: R')
theorem LeR.length {R R' : List (List AV)} (h : LeR R R') : R.length = R'.length := by induction h <;> simp_all
theorem LeR.get {R R' : List (List AV)} (h : LeR R R') : ∀ (i : Nat) r', R'[i]? = some r' → ∃ r, R[i]? = some r ∧ LeL r r' := by
  induction h with
  | nil => intro i r' h; simp at h
  | cons hr _ ih =>
    intro i r' h
    cases i with
    | zero => simp at h; subst h; exact ⟨_, by simp, hr⟩
    | succ i => simpa using ih i r' (by simpa using h)
theorem rel_rows_le {X : GW} {ow : Bool} {sz : Nat} {R R' : List (List AV)} {v : Value} (h : Rel X (.sl ow sz R) v) (hl : LeR R R') : Rel X (.sl ow sz R') v := by
  cases h with
  | nl _ _ a c => cases hl; exact .nl _ _ _ _
  | sl _ _ _ b off cap n c hg hn hc hs hm hr =>
    rw [hl.length]
    refine .sl ow sz R' b off cap n c hg (by rw [← hl.length]; exact hn) (by rw [← hl.length]; exact hc) (fun i r' hr' => ?_) (fun i j r' u' hr' hu' => ?_) (fun i j r' u' hr' hu' => ?_)
    · obtain ⟨r, h1, h2⟩ := hl.get i r' hr'
      rw [← h2.length]; exact hs i r h1
    · obtain ⟨r, h1, h2⟩ := hl.get i r' hr'
      obtain ⟨u, k1, k2⟩ := h2.get j u' hu'
      exact hm i j r u h1 k1
    · obtain ⟨r, h1, h2⟩ := hl.get i r' hr'
      obtain ⟨u, k1, k2⟩ := h2.get j u' hu'
      exact k2.rel (hr i j r u h1 k1)
theorem ownOk_len {F : Nat → Prop} {X : GW} {sz : Nat} {R R' : List (List AV)} {v : Value} (h : OwnOk F X sz R v) (hl : R.length = R'.length) : OwnOk F X sz R' v := by
  rcases h with ⟨h1, h2⟩ | ⟨b, cap, cs, e, fr, h1, h2, h3, h4, h5, h6⟩
  · left; refine ⟨h1, ?_⟩; subst h2; exact List.length_eq_zero_iff.1 (by rw [← hl]; rfl)
  · right; rw [hl] at h1 h2 h5; exact ⟨b, cap, cs, e, fr, h1, h2, h3, h4, h5, h6⟩
theorem opv_rows_le {ow : Bool} {sz : Nat} {R R' : List (List AV)} (h : OpV P o σ (.sl ow sz R)) (hl : LeR R R') : OpV P o σ (.sl ow sz R') :=
  fun F X a hs => (h F X a hs).mono fun x w' ⟨X', h1, h2, h3, h4, h5⟩ => by
    refine ⟨X', h1, h2, h3, rel_rows_le h4 hl, fun sz' l hq => ?_⟩
    cases ow with
    | false => cases hq
    | true => cases hq; obtain ⟨k1, k2⟩ := h5 _ _ rfl; exact ⟨ownOk_len k1 hl.length, k2⟩
end

theorem run_bounds3 {P : Program} {len cap : Nat} {lo : Option Value} {i j m : Int} {k1 k2 : IntKind} {w : World} (hlo : optV lo i 0) (h1 : 0 ≤ i) (h2 : i ≤ j) (h3 : j ≤ m) (h4 : m ≤ cap) :
    (Instr.sliceBounds true len cap lo (some (.int k1 j)) (some (.int k2 m))).run P w = .ok (i.toNat, j.toNat, m.toNat) w := by
  have hM : ∀ (c : BoundsCode), (Instr.sliceBound (.int k2 m) cap c).run P w = .ok m.toNat w := fun c => run_bound (by omega) h4
  have hB : ∀ (c : BoundsCode), (Instr.sliceBound (.int k1 j) m.toNat c).run P w = .ok j.toNat w := fun c => run_bound (by omega) (by omega)
  have hA : ∀ (k : IntKind) (c : BoundsCode), (Instr.sliceBound (.int k i) j.toNat c).run P w = .ok i.toNat w := fun k c => run_bound h1 (by omega)
  cases lo with
  | none =>
    simp only [optV] at hlo
    subst hlo
    simp [Instr.sliceBounds, hM, hB]
  | some v0 =>
    obtain ⟨k0, rfl⟩ := hlo
    simp [Instr.sliceBounds, hM, hB, hA]
theorem slice3_core {P : Program} {T : Tys P} {σ : AS} {d : Option Tmp} {t ty e : TypeId} {x hi mx : Operand} {pos : String} {af : Array Edge} {g : Option (Nat × Bool)} {lo : Option Operand} {o : Bool} {sz : Nat} {l : List (List AV)} {k1 k2 k3 : IntKind} {i j m : Int} {by_ : Nat} (hx : opV σ x = some (.sl o sz l)) (h0 : look T.ty t = some (.slice e)) (hsz : look T.sz e = some (sz, by_))
    (hlo : optIs σ lo k1 i 0) (hhi : opV σ hi = some (.v (.int k2 j))) (hmx : opV σ mx = some (.v (.int k3 m))) (h1 : 0 ≤ i) (h2 : i ≤ j) (h3 : j ≤ m) (h4 : m ≤ l.length)  {F : Nat → Prop} {X : GW} (ac : Act) (hs : SimR F X σ (.slice t x lo (some hi) (some mx)) ac.tmps) :
    ∃ a', (execOp ac.eval ⟨d, .slice t x lo (some hi) (some mx), ty, pos, af, g⟩).run P X.w = .ok (.value (.slice a' (j.toNat - i.toNat) (m.toNat - i.toNat))) X.w ∧ Rel X (.sl false sz ((l.take j.toNat).drop i.toNat)) (.slice a' (j.toNat - i.toNat) (m.toNat - i.toNat)) := by
  have e1 := opV_rel hs (by simp [Op.operands]) hx
  have e2 := opV_val hs (by cases lo <;> simp [Op.operands]) hhi
  have e3 := opV_val hs (by cases lo <;> simp [Op.operands]) hmx
  have hu := T.tyOk _ _ h0
  obtain ⟨inf, hi1, hi2, hi3⟩ := T.szOk _ _ _ hsz
  have hls : ∀ w : World, (sizeOf e).run P w = .ok sz w := fun w => by simp [sizeOf, typeInfo, hi1, hi2]
  obtain ⟨a0, c0, hform⟩ := rel_sl_form e1
  have hcap : l.length ≤ c0 := by
    rcases rel_sl e1 with ⟨h, hl⟩ | ⟨b, off, cap, n, h, _, _, hc, _⟩
    · rw [hl]; exact Nat.zero_le _
    · rw [hform] at h; cases h; exact hc
  have hB := run_bounds3 (P := P) (len := l.length) (cap := c0) (w := X.w) (k1 := k2) (k2 := k3) (opt_val (q := lo) (k := k1) (i := i) (z := 0) hs (fun p hp => by subst hp; simp [Op.operands]) hlo) h1 h2 h3 (by omega)
  refine ⟨(if m.toNat = i.toNat then a0 else a0.map (·.add (i.toNat * sz))), ?_, ?_⟩
  · simp only [execOp, hform, e2, e3]
    refine run_val ?_
    simp only [Instr.sliceAt, Instr.slice, Option.map_some, e2, e3]
    simp [run_underlying hu, hB, hls]
  · have hlen : ((l.take j.toNat).drop i.toNat).length = j.toNat - i.toNat := by simp; omega
    rcases rel_sl e1 with ⟨⟨a1, c1, h⟩, hl⟩ | ⟨b, off, cap, n, h, hg, hn, hc, c, c1, c2, c3⟩
    · subst hl
      have : j.toNat - i.toNat = 0 := by simp at h4; omega
      rw [this]
      simp only [List.take_nil, List.drop_nil]
      exact .nl _ _ _ _
    · rw [hform] at h; cases h
      rw [← hlen]
      by_cases hci : m.toNat = i.toNat
      · rw [if_pos hci]
        have hnil : (l.take j.toNat).drop i.toNat = [] := List.eq_nil_of_length_eq_zero (by omega)
        rw [hnil]
        exact .sl _ _ [] b off _ n (fun _ _ => undef) hg (by simp; have := Nat.zero_le (l.length * sz); omega) (Nat.zero_le _) (by simp) (by simp) (by simp)
      · rw [if_neg hci]
        simp only [Option.map, add_off]
        have hget : ∀ (q : Nat) (r : List AV), ((l.take j.toNat).drop i.toNat)[q]? = some r → l[i.toNat + q]? = some r := by
          intro q r hr
          rw [List.getElem?_drop, List.getElem?_take] at hr
          split at hr
          · exact hr
          · cases hr
        refine .sl _ _ _ b (off + i.toNat * sz) _ n (fun q p => c (i.toNat + q) p) hg ?_ (by omega) (fun q r hr => c1 _ r (hget q r hr)) (fun q p r u hr hu => ?_) (fun q p r u hr hu => c3 _ p r u (hget q r hr) hu)
        · rw [hlen, Nat.add_assoc, ← Nat.add_mul, show i.toNat + (j.toNat - i.toNat) = j.toNat by omega]
          have : j.toNat * sz ≤ l.length * sz := Nat.mul_le_mul_right _ (by omega)
          omega
        · rw [← c2 (i.toNat + q) p r u (hget q r hr) hu, Nat.add_mul]
          congr 2; omega
theorem opv_slice3 {P : Program} {T : Tys P} {σ : AS} {d : Option Tmp} {t ty e : TypeId} {x hi mx : Operand} {pos : String} {af : Array Edge} {g : Option (Nat × Bool)} {lo : Option Operand} {o : Bool} {sz : Nat} {l : List (List AV)} {k1 k2 k3 : IntKind} {i j m : Int} {by_ : Nat} (hx : opV σ x = some (.sl o sz l)) (h0 : look T.ty t = some (.slice e)) (hsz : look T.sz e = some (sz, by_))
    (hlo : optIs σ lo k1 i 0) (hhi : opV σ hi = some (.v (.int k2 j))) (hmx : opV σ mx = some (.v (.int k3 m))) (h1 : 0 ≤ i) (h2 : i ≤ j) (h3 : j ≤ m) (h4 : m ≤ l.length) :
    OpV P ⟨d, .slice t x lo (some hi) (some mx), ty, pos, af, g⟩ σ (.sl false sz ((l.take j.toNat).drop i.toNat)) :=
  opv_same rfl fun F X ac hs => let ⟨a', h⟩ := slice3_core (d := d) (ty := ty) (pos := pos) (af := af) (g := g) hx h0 hsz hlo hhi hmx h1 h2 h3 h4 ac hs; ⟨_, h⟩
theorem opv_max {P : Program} {σ : AS} {d : Option Tmp} {ty : TypeId} {x y : Operand} {pos : String} {af : Array Edge} {g : Option (Nat × Bool)} {ats : Array TypeId} {k k' : IntKind} {a b : Int} (hx : opV σ x = some (.v (.int k a))) (hy : opV σ y = some (.v (.int k' b))) :
    OpV P ⟨d, .call { callee := .builtin .max, args := #[x, y], argTypes := ats }, ty, pos, af, g⟩ σ (.v (.int k (if a < b then b else a))) := by
  refine opv_same rfl fun F X ac hs => ⟨_, ?_, .v _⟩
  have h1 := opV_val hs (by simp [Op.operands, Call.operands]) hx
  have h2 := opV_val hs (by simp [Op.operands, Call.operands]) hy
  simp [execOp, resolve, invoke, builtin, Builtin.max_, Builtin.max2, h1, h2]
theorem opv_uxor {P : Program} {σ : AS} {d : Option Tmp} {t ty : TypeId} {x : Operand} {pos : String} {af : Array Edge} {g : Option (Nat × Bool)} {op : UnOp} {k : IntKind} {a : Int} (hx : opV σ x = some (.v (.int k a))) (hop : op = .xor) : OpV P ⟨d, .unOp op t x, ty, pos, af, g⟩ σ (.v (.int k (bits .xor k (if k.signed then -1 else k.max) a))) := by
  subst hop
  refine opv_same rfl fun F X ac hs => ⟨_, ?_, .v _⟩
  have h1 := opV_val hs (by simp [Op.operands]) hx
  simp only [execOp, h1]
  refine run_val ?_
  rfl
theorem sub3C_some {α : Type} {l r : List α} {i j m : Int} (h : sub3C l i j m = some r) : 0 ≤ i ∧ i ≤ j ∧ j ≤ m ∧ m ≤ l.length ∧ r = (l.take j.toNat).drop i.toNat := by
  unfold sub3C at h
  split at h
  · rename_i h0; cases h; exact ⟨h0.1, h0.2.1, h0.2.2.1, h0.2.2.2, rfl⟩
  · cases h
section
variable {P : Program} {Y : Tys P} {E : Env} {ρ : Nat → Nat} {σ : TS E.T} {d : Option Tmp} {t t2 yt ty e : TypeId} {x y z : Operand} {pos : String} {af : Array Edge} {g : Option (Nat × Bool)}
theorem opTs_to : ∀ {xs : List Operand} {us : List (TV E.T)}, opTs σ xs = some us → opVs (σ.to E.toEnc ρ) xs = some (us.map (TV.to E.toEnc ρ))
  | [], us, h => by cases h; rfl
  | x :: xs, us, h => by
    simp only [opTs] at h
    split at h
    · rename_i u us' h1 h2
      cases h
      simp only [opVs, opT_to h1, opTs_to h2, List.map_cons]
    · cases h
theorem nilFix_to (t : TypeId) (u : TV E.T) : Le1 (u.to E.toEnc ρ) ((nilFix E t u).to E.toEnc ρ) := by
  unfold nilFix
  split
  · split
    · exact .nil _ _
    · exact .refl _
  · exact .refl _
theorem nilFix_rd_to (t : TypeId) (u : TV E.T) : Le1 (u.to E.toEnc ρ) ((nrm (nilFix E t u).rd).to E.toEnc ρ) := by
  rw [nrm_to, TV.rd_to]; exact (nilFix_to t u).trans (le1_rd _)
theorem own1_rd (u : AV) : own1 (some u.rd) = none := plain_rd u
theorem fixArgs_le : ∀ (ts : List TypeId) (us : List (TV E.T)), us.length = (fixArgs E ts us).length → LeL (us.map (TV.to E.toEnc ρ)) ((fixArgs E ts us).map (TV.to E.toEnc ρ))
  | [], us, _ => by
    simp only [fixArgs, List.map_map]
    induction us with
    | nil => exact .nil
    | cons u us ih => exact .cons (show Le1 _ ((nrm (TV.rd u)).to E.toEnc ρ) by rw [nrm_to, TV.rd_to]; exact le1_rd _) (ih (by simp [fixArgs]))
  | t :: ts, [], _ => .nil
  | t :: ts, u :: us, h => .cons (nilFix_rd_to t u) (fixArgs_le ts us (by simpa [fixArgs] using h))
theorem fixArgs_len : ∀ (ts : List TypeId) (us : List (TV E.T)), us.length = (fixArgs E ts us).length
  | [], us => by simp [fixArgs]
  | t :: ts, [] => rfl
  | t :: ts, u :: us => by simp only [fixArgs, List.length_cons]; rw [fixArgs_len ts us]
theorem fixArgs_plain : ∀ (ts : List TypeId) (us : List (TV E.T)), ((fixArgs E ts us).map (TV.to E.toEnc ρ)).all (fun u => (own1 (some u)).isNone) = true
  | [], us => by
    simp only [fixArgs, List.map_map, List.all_map, List.all_eq_true]
    intro u _
    simp only [Function.comp, nrm_to, TV.rd_to, own1_rd]; rfl
  | t :: ts, [] => rfl
  | t :: ts, u :: us => by
    simp only [fixArgs, List.map_cons, List.all_cons, nrm_to, TV.rd_to, own1_rd, Bool.and_eq_true]
    exact ⟨rfl, fixArgs_plain ts us⟩
theorem cs_to {u : TV E.T} {l : List (TA E.T)} (h : u.cs = some l) : (u.to E.toEnc ρ).cells = l.map (TA.to E.toEnc ρ) ∧ (u.to E.toEnc ρ).okc = true := by
  unfold TV.cs at h
  split at h
  · rename_i x
    split at h
    · rename_i hs
      cases h
      cases x with
      | d t x =>
        cases t with
        | nam i => cases hs
        | ptr t => cases x <;> exact ⟨rfl, rfl⟩
        | _ => exact ⟨rfl, rfl⟩
      | raw v => cases v <;> first | exact ⟨rfl, rfl⟩ | cases hs
      | _ => exact ⟨rfl, rfl⟩
    · cases h
  · cases h; exact ⟨rfl, rfl⟩
  · cases h
theorem map_spl (cs us : List (TA E.T)) (o : Nat) : (spl cs o us).map (TA.to E.toEnc ρ) = splice (cs.map (TA.to E.toEnc ρ)) o (us.map (TA.to E.toEnc ρ)) := by
  simp [spl, splice]
theorem buildT_to {pl : List (Nat × Nat)} : ∀ {is : List Nat} {us : List (TV E.T)} {cs cs' : List (TA E.T)}, buildT pl cs is us = some cs' → buildA Y pl (cs.map (TA.to E.toEnc ρ)) is (us.map (TV.to E.toEnc ρ)) = some (cs'.map (TA.to E.toEnc ρ))
  | [], [], cs, cs', h => by simp only [buildT, Option.some.injEq] at h; subst h; rfl
  | [], _ :: _, cs, cs', h => by simp [buildT] at h
  | _ :: _, [], cs, cs', h => by simp [buildT] at h
  | i :: is, u :: us, cs, cs', h => by
    simp only [buildT] at h
    split at h
    · rename_i off n vs hpl hvs
      obtain ⟨h1, h2⟩ := cs_to (ρ := ρ) hvs
      split at h
      · rename_i hc
        simp only [List.map_cons, buildA, hpl, h1, h2, List.length_map, Bool.true_and, hc]
        rw [← map_spl]
        exact buildT_to h
      · cases h
    · cases h
theorem map_rd_le (l : List (TA E.T)) : LeL (l.map (TA.to E.toEnc ρ)) (l.map fun a => (a.rd.to E.toEnc ρ)) := by
  induction l with
  | nil => exact .nil
  | cons a l ih => exact .cons (show Le1 _ ((TA.rd a).to E.toEnc ρ) by rw [TA.rd_to]; exact le1_rd _) ih
theorem packAll_to {ty : Ty} : ∀ {us : List (TV E.T)} {xs : List (Den E.T ty)}, packAll E ty us = some xs → LeR ((us.map (TV.to E.toEnc ρ)).map AV.cells) (xs.map (cells E.toEnc ty)) ∧ (us.map (TV.to E.toEnc ρ)).all (fun u => u.okc && Nat.beq u.cells.length (csz E.toEnc ty)) = true
  | [], xs, h => by cases h; exact ⟨.nil, rfl⟩
  | u :: us, xs, h => by
    simp only [packAll] at h
    split at h
    · rename_i l xs' h1 h2
      split at h
      · rename_i x hx
        cases h
        obtain ⟨k1, k2⟩ := cs_to (ρ := ρ) h1
        obtain ⟨m1, m2⟩ := packAll_to h2
        have hp := pkT_to E ρ hx
        simp only [List.map_nil, List.append_nil] at hp
        have hle := (map_rd_le (ρ := ρ) l).trans hp
        refine ⟨?_, ?_⟩
        · simp only [List.map_cons]
          exact .cons (by rw [k1]; exact hle) m1
        · simp only [List.map_cons, List.all_cons, k1, k2, Bool.true_and, Bool.and_eq_true]
          refine ⟨?_, m2⟩
          rw [hle.length, cells_len]
          exact Nat.beq_refl _
      · cases h
    · cases h
theorem atoms_to : ∀ {us : List (TV E.T)} {xs : List (TA E.T)}, atoms us = some xs → us.map (TV.to E.toEnc ρ) = xs.map (TA.to E.toEnc ρ)
  | [], xs, h => by cases h; rfl
  | .a x :: us, xs, h => by
    simp only [atoms] at h
    split at h
    · rename_i xs' h2; cases h; simp only [List.map_cons, atoms_to h2]; rfl
    · cases h
  | .ag _ :: _, _, h => by cases h
  | .el _ :: _, _, h => by cases h
  | .tu _ :: _, _, h => by cases h
  | .fn _ _ :: _, _, h => by cases h
  | .ifc _ _ :: _, _, h => by cases h
theorem isMpB_ne : ∀ {cs : List AV}, (∀ u ∈ cs, u.isMp = false) → isMpB cs = false
  | [], _ => rfl
  | [u], h => by
    have := h u List.mem_cons_self
    cases u with
    | mp l => cases this
    | _ => rfl
  | u :: u' :: r, _ => by cases u <;> rfl
theorem notMpB (cs : List (TA E.T)) : isMpB (cs.map (TA.to E.toEnc ρ)) = false := isMpB_ne fun u hu => by
  obtain ⟨c, _, rfl⟩ := List.mem_map.1 hu
  exact TA.to_notMp E.toEnc ρ c
theorem bndT_to {q : Option Operand} {i z : Int} (h : bndT σ q z = some i) : optIs (σ.to E.toEnc ρ) q .i64 i z := by
  unfold bndT at h
  cases q with
  | none => simp only [Option.some.injEq] at h; exact h.symm
  | some q =>
    simp only at h
    split at h
    · rename_i j hj; cases h; exact asI_to hj
    · cases h
theorem idxC_some {α : Type} {l : List α} {i : Int} {z : α} (h : idxC l i = some z) : 0 ≤ i ∧ i < l.length ∧ l[i.toNat]? = some z := by
  unfold idxC at h
  split at h
  · rename_i h0; have := (List.getElem?_eq_some_iff.1 h).1; exact ⟨h0, by omega, h⟩
  · cases h
theorem subC_some {α : Type} {l r : List α} {i j : Int} (h : subC l i j = some r) : 0 ≤ i ∧ i ≤ j ∧ j ≤ l.length ∧ r = (l.take j.toNat).drop i.toNat := by
  unfold subC at h
  split at h
  · rename_i h0; cases h; exact ⟨h0.1, h0.2.1, h0.2.2, rfl⟩
  · cases h
theorem beq_of {a b : Nat} (h : Nat.beq a b = true) : a = b := Nat.eq_of_beq_eq_true h
theorem evConv_ok : (evConv Y E σ t t2 x).ok fun u => OpV P ⟨d, .convert t t2 x, ty, pos, af, g⟩ (σ.to E.toEnc ρ) (u.to E.toEnc ρ) := by
  unfold evConv
  split
  · rename_i d0 k h0 h1
    split
    · rename_i k0 n hn
      simp only [PV.ok, mkI_wrap]
      exact opv_conv_int (T := Y) (asI_to hn) h0 h1
    · trivial
  · rename_i h0 h1
    split
    · rename_i s hs; exact opv_conv_str (T := Y) (asS_to hs) h0 h1
    · trivial
  · rename_i e h0 h1
    split
    · rename_i l he hl
      obtain ⟨o, ho⟩ := asL_to (ρ := ρ) hl
      exact opv_bytes_str (T := Y) (o := o) (L := l) ho h0 he h1
    · trivial
  · rename_i e h0 h1
    split
    · rename_i s he hs
      exact opv_str_bytes (T := Y) (s := mkB s) (asS_to hs) h0 h1 he
    · trivial
  · trivial
theorem evBin_ok {op : BinOp} : (evBin Y σ op t x y).ok fun u => OpV P ⟨d, .binOp op t x y yt, ty, pos, af, g⟩ (σ.to E.toEnc ρ) (u.to E.toEnc ρ) := by
  have nu : ∀ k, notU8 k = true → k ≠ .u8 := fun k h e => by subst e; cases h
  unfold evBin
  split
  · split
    · rename_i k a k' b hx hy
      intro z hz
      unfold shlC at hz
      split at hz
      · rename_i hb; cases hz; rw [mkI_wrap]; exact opv_shl (asI_to hx) (asI_to hy) rfl hb
      · cases hz
    · trivial
  · split
    · rename_i k a k' b hx hy
      split
      · rename_i hk
        intro z hz
        unfold shrC at hz
        split at hz
        · rename_i hb; cases hz; rw [mkI_to _ _ (fun h => absurd h (nu k hk))]; exact opv_shr (asI_to hx) (asI_to hy) rfl hb
        · cases hz
      · rename_i hk
        have hk8 : k = .u8 := isU8 (by rw [hk]; intro h; cases h)
        subst hk8
        intro z hz
        obtain ⟨r, h1, h2⟩ := u8C_some hz
        unfold shrC at h1
        split at h1
        · rename_i hb
          cases h1
          have := opv_shr (P := P) (d := d) (t := t) (yt := yt) (ty := ty) (pos := pos) (af := af) (g := g) (asI_to (ρ := ρ) hx) (asI_to (ρ := ρ) hy) rfl hb
          rw [← h2] at this
          exact this
        · cases h1
    · trivial
  · split
    · rename_i k a k' b hx hy
      split
      · rename_i e; subst e; exact binI_ok (asI_to hx) (asI_to hy)
      · trivial
    · split
      · rename_i a b hx hy; exact binS_ok (asS_to hx) (asS_to hy)
      · split
        · rename_i a b hx hy h0 _ _; exact opv_beqlH (Y := Y) (asB_to hx) (asB_to hy) rfl h0
        · rename_i a b hx hy h0 _ _; exact opv_bneqH (Y := Y) (asB_to hx) (asB_to hy) rfl h0
        · trivial
end
end Go.Proofs.Ytgmlkhfjhogdbaa
