/- The layer of abstract values: calls and boxes as the walk wants them. -/
import Derived.Test.YtophpbihcfdkcaaG17
namespace Go.Proofs.Ytophpbihcfdkcaa
open Go.RowKit P
set_option linter.unusedSimpArgs false
set_option linter.unusedVariables false
section
variable {P : Program} {Q : Exit → AS → Prop} {ks : List It} {T : Tys P} {σ : AS} {t ty e : TypeId} {x y : Operand} {pos : String} {af : Array Edge} {g : Option (Nat × Bool)} {d k : Nat} {l rest : List Oper} {post : AOut → List (Nat × List AV) → Prop} {us : List AV} {ρs : List (Option Root)} {xs : Array Operand} {ats : Array TypeId} {f : FuncId}

/-- At most one owner goes along. -/
def oneSome : List (Option Root) → Bool
  | [] => true
  | none :: r => oneSome r
  | some _ :: r => r.all (fun ρ => match ρ with | none => true | some _ => false)
theorem oneSome_spec : ∀ {ρs : List (Option Root)}, oneSome ρs = true → ∀ (i j : Nat) r r', ρs[i]? = some (some r) → ρs[j]? = some (some r') → i = j
  | [], _, i, j, r, r', h, _ => by simp at h
  | none :: ρs, h, i, j, r, r', hi, hj => by
    cases i with
    | zero => simp at hi
    | succ i =>
      cases j with
      | zero => simp at hj
      | succ j => rw [oneSome_spec (ρs := ρs) h i j r r' (by simpa using hi) (by simpa using hj)]
  | some r0 :: ρs, h, i, j, r, r', hi, hj => by
    have hno : ∀ (q : Nat) z, ρs[q]? ≠ some (some z) := fun q z hq => by
      have := List.all_eq_true.1 h _ (List.mem_of_getElem? hq)
      simp at this
    cases i with
    | zero =>
      cases j with
      | zero => rfl
      | succ j => exact absurd (by simpa using hj) (hno j r')
    | succ i => exact absurd (by simpa using hi) (hno i r)
def slotsOnly : List (Option Root) → Bool
  | [] => true
  | some (.c _ _) :: _ => false
  | _ :: r => slotsOnly r
theorem slotsOnly_spec : ∀ {ρs : List (Option Root)}, slotsOnly ρs = true → ∀ k o, some (Root.c k o) ∉ ρs
  | [], _, _, _, h => by cases h
  | none :: r, h, k, o, hm => by
    rcases List.mem_cons.1 hm with h1 | h1
    · cases h1
    · exact slotsOnly_spec (ρs := r) h k o h1
  | some (.s _) :: r, h, k, o, hm => by
    rcases List.mem_cons.1 hm with h1 | h1
    · cases h1
    · exact slotsOnly_spec (ρs := r) h k o h1
  | some (.c _ _) :: r, h, k, o, hm => by cases h
theorem layAll_h_slots : ∀ {ρs : List (Option Root)} {σ : AS}, slotsOnly ρs = true → (layAll ρs σ).h = σ.h
  | [], _, _ => rfl
  | none :: r, σ, h => layAll_h_slots (ρs := r) h
  | some (.s t) :: r, σ, h => by simp only [layAll]; rw [layAll_h_slots (ρs := r) h]; rfl
  | some (.c _ _) :: r, σ, h => by cases h
/-- A call that is handed no box. -/
theorem ar_call0 {fop : Op} (hop : fop = .call { callee := .value (.func f), args := xs, argTypes := ats }) (hc : ACalls P f us [] post) (ho : l[k]? = some ⟨some d, fop, ty, pos, af, g⟩) (hw : wantedA l σ ⟨some d, fop, ty, pos, af, g⟩ = some true) (ha : PArgs σ xs.toList us ρs) (h1 : oneSome ρs = true) (hd : Nat.ble (d + 1) σ.n = true)
    (hR : ∀ out H', post out H' → ∃ u, out = .ret u ∧ ARun P Q (.o l (k + 1) rest :: ks) ((callSt σ ρs (layAll ρs σ).h H').put d u)) : ARun P Q (.o l k (⟨some d, fop, ty, pos, af, g⟩ :: rest) :: ks) σ := by
  subst hop
  exact ar_eff ho hw (eff_call hc ha (fun i j r hi hj => oneSome_spec h1 i j r r hi hj) (fun _ _ _ => rfl) (fun k cs hk => by simp [look_nil] at hk) (fun k cs hk => ⟨hk, rfl⟩) hd hR)
/-- A call that is handed all boxes. -/
theorem ar_callH {fop : Op} (hop : fop = .call { callee := .value (.func f), args := xs, argTypes := ats }) (hc : ACalls P f us σ.h post) (ho : l[k]? = some ⟨some d, fop, ty, pos, af, g⟩) (hw : wantedA l σ ⟨some d, fop, ty, pos, af, g⟩ = some true) (ha : PArgs σ xs.toList us ρs) (h1 : oneSome ρs = true) (h2 : slotsOnly ρs = true) (hd : Nat.ble (d + 1) σ.n = true)
    (hR : ∀ out H', post out H' → ∃ u, out = .ret u ∧ ARun P Q (.o l (k + 1) rest :: ks) ((callSt σ ρs [] H').put d u)) : ARun P Q (.o l k (⟨some d, fop, ty, pos, af, g⟩ :: rest) :: ks) σ := by
  subst hop
  exact ar_eff ho hw (eff_call hc ha (fun i j r hi hj => oneSome_spec h1 i j r r hi hj) (fun k o hm => absurd hm (slotsOnly_spec h2 k o)) (fun k cs hk => hk) (fun k cs hk => by simp [look_nil] at hk) hd hR)
/-- A closure's call, all boxes handed along. -/
theorem ar_callfnH {caps : List AV} {s : Nat} {fop : Op} (hop : fop = .call { callee := .value (.tmp s), args := xs, argTypes := ats }) (hfn : look σ.t s = some (.fn f caps)) (hc : ACalls P f (us ++ caps) σ.h post) (ho : l[k]? = some ⟨some d, fop, ty, pos, af, g⟩) (hw : wantedA l σ ⟨some d, fop, ty, pos, af, g⟩ = some true) (ha : PArgs σ xs.toList us ρs) (hcap : caps.all (fun u => (own1 (some u)).isNone) = true) (h1 : oneSome ρs = true) (h2 : slotsOnly ρs = true) (hd : Nat.ble (d + 1) σ.n = true)
    (hR : ∀ out H', post out H' → ∃ u, out = .ret u ∧ ARun P Q (.o l (k + 1) rest :: ks) ((callSt σ ρs [] H').put d u)) : ARun P Q (.o l k (⟨some d, fop, ty, pos, af, g⟩ :: rest) :: ks) σ := by
  subst hop
  exact ar_eff ho hw (eff_call_fn hfn hc ha hcap (fun i j r hi hj => oneSome_spec h1 i j r r hi hj) (fun k o hm => absurd hm (slotsOnly_spec h2 k o)) (fun k cs hk => hk) (fun k cs hk => by simp [look_nil] at hk) hd hR)

/-- A state's boxes, told anew. -/
theorem ar_boxes {it : It} {n : Nat} {t : List (Nat × AV)} {H : List (Nat × List AV)} {e : List (Nat × Root)} (H' : List (Nat × List AV)) (hit : (match it with | .c _ => true | .o _ _ _ => true | _ => false) = true) (hh : ∀ k cs, look H' k = some cs → look H k = some cs) (h : ARun P Q (it :: ks) ⟨n, t, H', e⟩) : ARun P Q (it :: ks) ⟨n, t, H, e⟩ := by
  have hsub : ∀ F X tm, SimE F X ⟨n, t, H, e⟩ tm → SimE F X ⟨n, t, H', e⟩ tm := fun F X tm hs => hs.sub rfl (fun _ _ h => h) hh (fun _ h => h)
  cases it with
  | c c => exact fun F X a hs hd => h F X a (hsub _ _ _ hs) hd
  | o l k r => exact fun F X a hs hd => h F X a (hsub _ _ _ hs) hd
  | b id => cases hit
  | l I => cases hit
theorem ar_dedup {it : It} {n b : Nat} {t : List (Nat × AV)} {c1 c2 : List AV} {H : List (Nat × List AV)} {e : List (Nat × Root)} (hit : (match it with | .c _ => true | .o _ _ _ => true | _ => false) = true) (h : ARun P Q (it :: ks) ⟨n, t, (b, c1) :: H, e⟩) : ARun P Q (it :: ks) ⟨n, t, (b, c1) :: (b, c2) :: H, e⟩ :=
  ar_boxes ((b, c1) :: H) hit (fun k cs hk => by
    simp only [look_cons] at hk ⊢
    by_cases e1 : k = b
    · rw [if_pos e1] at hk ⊢; exact hk
    · rw [if_neg e1] at hk ⊢; rw [if_neg e1]; exact hk) h

theorem src_load {A : AppIn} {o : Oper} {dsc : TypeDesc} {cs : List AV} {u : AV} (ho : o = ⟨some A.s, .load t x, ty, pos, af, g⟩) (hx : opV σ x = some (.v (.pointer (some ⟨A.k, A.o, none⟩)))) (hb : look σ.h A.k = some cs) (hu : cs[A.o]? = some u) (h0 : look T.ty t = some dsc) (h1 : oneB dsc = true) (hm : u.isMp = false) : SrcOk P A o σ := by
  subst ho
  refine ⟨rfl, fun F X a hs => ?_⟩
  have e1 := opV_val hs (by simp [Op.operands]) hx
  obtain ⟨b1, b2, arr, el, fr, b3, b4, b5, b6⟩ := (hs.box _ cs hb).at hu hm
  have hlt := (List.getElem?_eq_some_iff.1 hu).1
  have hxx : arr[A.o]? = some arr[A.o] := Array.getElem?_eq_getElem (by omega)
  have hc : X.w.cell? ⟨A.k, A.o, none⟩ = some arr[A.o] := by simp only [World.cell?, b3]; exact hxx
  refine ⟨arr[A.o], by simp only [execOp, e1]; exact run_val (run_load1 (T.tyOk _ _ h0) h1 hc), hc⟩
theorem app_ok {A : AppIn} {o : Oper} {u : TypeId} {du : TypeDesc} {by_ : Nat} (ho : o = ⟨some d, .call { callee := .builtin .append, args := #[.tmp A.s, y], argTypes := #[t, u] }, ty, pos, af, g⟩) (ht : look T.ty t = some (.slice e)) (hu : look T.ty u = some du) (hnz : du = .string ∨ ∃ e', du = .slice e') (hz : look T.sz e = some (A.sz, by_)) (hb : Nat.ble 1 by_ = true)
    (hadd : ∀ (X : GW) (a : Act), Rel X (.sl false A.sz A.m) (a.eval y) → ∃ c, AddsA P X A.sz A.m (a.eval y) c) {o2 : Bool} (hy : opV σ y = some (.sl o2 A.sz A.m)) (hfit : (A.L.length + A.m.length) * by_ ≤ 140737488355328) : AppOk P A o σ := by
  subst ho
  obtain ⟨i, hi1, hi2, hi3, zv, hi4, hi5⟩ := T.szOk _ _ _ hz
  intro F X a xv hs hxv
  have hry := opV_rel hs (by simp [Op.operands, Call.operands]) hy
  obtain ⟨c', hc'⟩ := hadd X a hry.own
  exact ⟨t, u, e, ty, i, zv, du, a.eval y, c', T.tyOk _ _ ht, T.tyOk _ _ hu, hnz, hi1, hi4, hi5, hi2, hc', by rw [hi3]; exact hfit, by rw [hi3]; exact Nat.le_of_ble_eq_true hb, fun v w' h => run_builtin_append hxv rfl h⟩
theorem adds_rel {sz : Nat} {m : List (List AV)} (h1 : RowsOne m) : ∀ (X : GW) (a : Act), Rel X (.sl false sz m) (a.eval y) → ∃ c, AddsA P X sz m (a.eval y) c := fun _ _ h => addsA_sl h (fun r hr => ⟨rel_rows h r hr, h1 r hr⟩)
theorem opv_assign_const {v : Value} {op : Op} {dd : Option Tmp} (ho : op = .assign (.const v)) : OpV P ⟨dd, op, ty, pos, af, g⟩ σ (cst v) := opv_const (cst_plain v) (.inr ho)
theorem look_hd {α : Type} {k : Nat} {a : α} {r : List (Nat × α)} : look ((k, a) :: r) k = some a := by rw [look_cons, if_pos rfl]
theorem look_tl {α : Type} {k k' : Nat} {a b : α} {r : List (Nat × α)} (h : k ≠ k') (h2 : look r k = some b) : look ((k', a) :: r) k = some b := by rw [look_cons, if_neg h]; exact h2

/-- A contract over worlds, its answer read as an abstract value. -/
theorem acalls_of_calls' {vs : List Value} {v : Value} {u : AV} (hf : FnOk P f) (hu : ∀ X, Rel X u v) (hp : own1 (some u) = none) (h : ∀ w, Calls P f vs.toArray w fun e w' => e = .returned v ∧ Below w.heap.size w w') : ACalls P f (vs.map .v) [] (fun out H => out = .ret u ∧ H = []) := by
  obtain ⟨h1, h2⟩ := acalls_of_calls hf h
  refine ⟨h1, fun F X xs hs => (h2 F X xs hs).mono fun e w' ⟨X', out, H', p1, p2, p3, p4⟩ => ?_⟩
  obtain ⟨rfl, rfl⟩ := p2
  obtain ⟨x, rfl, hx⟩ := p3
  have hxv : x = v := by have := rel_v (hx.slot 0 (.v v) (by simp [look_cons])); simpa using this
  subst hxv
  refine ⟨X', .ret u, [], p1, ⟨rfl, rfl⟩, ⟨x, rfl, ?_⟩, p4⟩
  refine hx.other rfl hx.fb (fun t u' hu' => ?_) (fun k cs hk => by simp [look_nil] at hk) rfl id (fun r sz l ho => ?_) (fun _ _ _ _ _ _ _ _ hne _ _ _ _ => hne)
  · simp only [look_cons, look_nil] at hu'
    split at hu'
    · rename_i e1; subst e1; cases hu'; exact hu X'
    · cases hu'
  · cases r with
    | s t => obtain ⟨_, h2⟩ := own_one ho; rw [hp] at h2; cases h2
    | c k o => simp [AS.own, look_nil] at ho
/-- Only the slots of K stay, whatever comes next. -/
theorem ar_keepS (K : List Nat) (h : ARun P Q ks (σ.keep K)) (hk : (match ks with | .c _ :: _ => true | .o _ _ _ :: _ => true | _ => false) = true) : ARun P Q ks σ := by
  cases ks with
  | nil => cases hk
  | cons it ks =>
    cases it with
    | c c => exact fun F X a hs hd => h F X a (hs.keep K) hd
    | o l k r => exact fun F X a hs hd => h F X a (hs.keep K) hd
    | b id => cases hk
    | l I => cases hk
theorem ar_nop {c : Code} (h : ARun P Q (.c c :: .o [] 0 [] :: ks) σ) : ARun P Q (.c c :: ks) σ := by
  intro F X a hs hd
  refine wp_mono (h F X a hs hd) fun e a' w' hp => ?_
  obtain ⟨h1, X', σ', h2, h3, h4, h5⟩ := hp
  cases e with
  | normal =>
    have h6 : wpOps P ([] : List Oper).toArray (PostA F X' (Stk P Q ks)) (List.range' 0 0) a' X'.w := h3 F X' a' h4 h1
    have h7 : PostA F X' (Stk P Q ks) .normal a' X'.w := h6
    subst h2
    exact h7.ext h5
  | _ => exact ⟨h1, X', σ', h2, h3, h4, h5⟩
theorem opv_min_l {dd : Option Tmp} {k k' : IntKind} {a b : Int} (hx : opV σ x = some (.v (.int k a))) (hy : opV σ y = some (.v (.int k' b))) (h : a ≤ b) : OpV P ⟨dd, .call { callee := .builtin .min, args := #[x, y], argTypes := ats }, ty, pos, af, g⟩ σ (.v (.int k a)) := by
  have := opv_min (P := P) (σ := σ) (d := dd) (ty := ty) (pos := pos) (af := af) (g := g) (ats := ats) hx hy
  rwa [if_neg (by omega)] at this
theorem opv_min_r {dd : Option Tmp} {k k' : IntKind} {a b : Int} (hx : opV σ x = some (.v (.int k a))) (hy : opV σ y = some (.v (.int k' b))) (h : b ≤ a) : OpV P ⟨dd, .call { callee := .builtin .min, args := #[x, y], argTypes := ats }, ty, pos, af, g⟩ σ (.v (.int k b)) := by
  have := opv_min (P := P) (σ := σ) (d := dd) (ty := ty) (pos := pos) (af := af) (g := g) (ats := ats) hx hy
  by_cases e1 : b = a
  · subst e1; rwa [if_neg (by omega)] at this
  · rwa [if_pos (by omega)] at this
/-- Sums that stay where they are. -/
theorem opv_add64 {op : BinOp} {yt : TypeId} {dd : Option Tmp} {a b : Int} (hx : opV σ x = some (.v (.int .i64 a))) (hy : opV σ y = some (.v (.int .i64 b))) (hop : op = .add) (h : -9223372036854775808 ≤ a + b ∧ a + b ≤ 9223372036854775807) : OpV P ⟨dd, .binOp op t x y yt, ty, pos, af, g⟩ σ (.v (.int .i64 (a + b))) := by
  subst hop
  have hw : IntKind.i64.wrap (a + b) = a + b := by rw [IntKind.wrap_i64]; omega
  exact opv_bin hx hy (by simp only [arV]; rw [hw])
theorem opv_sub64 {op : BinOp} {yt : TypeId} {dd : Option Tmp} {a b : Int} (hx : opV σ x = some (.v (.int .i64 a))) (hy : opV σ y = some (.v (.int .i64 b))) (hop : op = .sub) (h : -9223372036854775808 ≤ a - b ∧ a - b ≤ 9223372036854775807) : OpV P ⟨dd, .binOp op t x y yt, ty, pos, af, g⟩ σ (.v (.int .i64 (a - b))) := by
  subst hop
  have hw : IntKind.i64.wrap (a - b) = a - b := by rw [IntKind.wrap_i64]; omega
  exact opv_bin hx hy (by simp only [arV]; rw [hw])
theorem opv_conv64 {T : Tys P} {t2 : TypeId} {dd : Option Tmp} {k0 : IntKind} {n : Int} {d0 : TypeDesc} (hx : opV σ x = some (.v (.int k0 n))) (h0 : look T.ty t = some d0) (ht : look T.ty t2 = some (.int .i64)) (h : -9223372036854775808 ≤ n ∧ n ≤ 9223372036854775807) : OpV P ⟨dd, .convert t t2 x, ty, pos, af, g⟩ σ (.v (.int .i64 n)) := by
  have hw : IntKind.i64.wrap n = n := by rw [IntKind.wrap_i64]; omega
  have := opv_conv_int (P := P) (T := T) (d := dd) (ty := ty) (pos := pos) (af := af) (g := g) hx h0 ht
  rwa [hw] at this
theorem opv_conv8 {T : Tys P} {t2 : TypeId} {dd : Option Tmp} {k0 : IntKind} {n : Int} {d0 : TypeDesc} (hx : opV σ x = some (.v (.int k0 n))) (h0 : look T.ty t = some d0) (ht : look T.ty t2 = some (.int .u8)) : OpV P ⟨dd, .convert t t2 x, ty, pos, af, g⟩ σ (.v (.int .u8 (n % 256))) := by
  have hw : IntKind.u8.wrap n = n % 256 := by rw [IntKind.wrap_u8]
  have := opv_conv_int (P := P) (T := T) (d := dd) (ty := ty) (pos := pos) (af := af) (g := g) hx h0 ht
  rwa [hw] at this
/-- Shifts by a literal, of what is from 0 on. -/
theorem opv_shr_div {op : BinOp} {yt : TypeId} {dd : Option Tmp} {k yk : IntKind} {a b : Int} (c : Int) (hx : opV σ x = some (.v (.int k a))) (hy : opV σ y = some (.v (.int yk b))) (hop : op = .shr) (hb : 0 ≤ b) (hc : (2 : Int) ^ (min b.toNat k.bits) = c) (hc0 : 0 < c) : OpV P ⟨dd, .binOp op t x y yt, ty, pos, af, g⟩ σ (.v (.int k (a / c))) := by
  have := opv_shr (P := P) (d := dd) (t := t) (yt := yt) (ty := ty) (pos := pos) (af := af) (g := g) hx hy hop hb
  rwa [hc, Int.fdiv_eq_ediv_of_nonneg _ (by omega)] at this
theorem opv_shl_mul {op : BinOp} {yt : TypeId} {dd : Option Tmp} {yk : IntKind} {a b : Int} (c : Int) (hx : opV σ x = some (.v (.int .i64 a))) (hy : opV σ y = some (.v (.int yk b))) (hop : op = .shl) (hb : 0 ≤ b) (hc : (2 : Int) ^ (min b.toNat IntKind.i64.bits) = c) (h : -9223372036854775808 ≤ a * c ∧ a * c ≤ 9223372036854775807) : OpV P ⟨dd, .binOp op t x y yt, ty, pos, af, g⟩ σ (.v (.int .i64 (a * c))) := by
  have := opv_shl (P := P) (d := dd) (t := t) (yt := yt) (ty := ty) (pos := pos) (af := af) (g := g) hx hy hop hb
  have hw : IntKind.i64.wrap (a * c) = a * c := by rw [IntKind.wrap_i64]; omega
  rwa [hc, hw] at this
theorem ar_retK (K : List Nat) (h : Stk P Q ks .ret (σ.keep K)) : ARun P Q (.c .ret :: ks) σ := fun F X a hs hd => wp_ret ⟨hd, X, σ.keep K, rfl, h, hs.keep K, Ext.refl F X⟩
theorem bsOf_list (l : List UInt8) : bsOf { data := l.toArray } = l := rfl
theorem bsOf_arr (l : List UInt8) : bsOf { data := Array.mk l } = l := rfl
theorem bsOf_nil : bsOf { data := #[] } = [] := rfl
theorem qret_mk {rs : List ResultVar} {u : AV} (h : resA rs σ = some u) (hp : post (.ret u) σ.h) : Qret rs post .ret σ := ⟨u, h, hp⟩
end
end Go.Proofs.Ytophpbihcfdkcaa
