-- slim: written by gen/slim.py from XGC.lean.tpl
import Derived.Test.YtgmlkhfjhogdbaaGB
import Derived.Recover
/- The layer of abstract values: calls that may panic, 'panic' itself, assertions of a type, results that lie in cells. -/
namespace Go.Proofs.Ytgmlkhfjhogdbaa
open Go.RowKit P
set_option linter.unusedSimpArgs false
set_option linter.unusedVariables false

/-- What an operation comes to: a value, or a panic. -/
def runsX (P : Program) (R : Value → World → Prop) (RP : Value → World → Prop) : Result Next → Prop
  | .ok (.value x) w => R x w
  | .ok .skip w => R undef w
  | .ok (.enter f args) w => Calls P f args w fun e w' => match e with
    | .returned v => R v w'
    | .panicked ch => ∃ v, ch = [{ v := v, recovered := false }] ∧ RP v w'
    | .outgrown => False
  | .halt (.panic v) w => RP v w
  | _ => False
section
variable {P : Program} {Q : Exit → AS → Prop} {ks : List It} {T : Tys P} {σ σ' : AS} {t ty e : TypeId} {x y : Operand} {pos : String} {af : Array Edge} {g : Option (Nat × Bool)} {d k : Nat} {l rest : List Oper} {o : Oper} {post : AOut → List (Nat × List AV) → Prop} {us : List AV} {ρs : List (Option Root)} {xs : Array Operand} {ats : Array TypeId} {f : FuncId} {F : Nat → Prop} {X : GW}

/-- Left by a panic: some slots and boxes are known. -/
def PanK (P : Program) (Q : Exit → AS → Prop) (ks : List It) (x : Value) (σ : AS) : Prop :=
  ∃ t2 H2, (∀ s u, look t2 s = some u → look σ.t s = some u) ∧ (∀ k cs, look H2 k = some cs → look σ.h k = some cs) ∧ Stk P Q ks (.panic [{ v := x, recovered := false }]) ⟨σ.n, t2, H2, []⟩
/-- An operation that may panic. -/
theorem ar_effX (ho : l[k]? = some o) (hw : wantedA l σ o = some true)
    (h : ∀ F X (a : Act), SimE F X σ a.tmps → runsX P (fun x w' => ∃ (X' : GW) (σ' : AS), X'.w = w' ∧ ARun P Q (.o l (k + 1) rest :: ks) σ' ∧ SimE F X' σ' (a.put o.dst x).tmps ∧ Ext F X X')
      (fun v w' => ∃ (X' : GW) (σ' : AS), X'.w = w' ∧ PanK P Q ks v σ' ∧ SimE F X' σ' a.tmps ∧ Ext F X X') ((execOp a.eval o).run P X.w)) : ARun P Q (.o l k (o :: rest) :: ks) σ := by
  intro F X a hs D hd
  have hk : k < l.length := (List.getElem?_eq_some_iff.1 ho).1
  rw [range'_cons hk]
  have ho' : (l.toArray)[k]? = some o := by simpa using ho
  simp only [wpOps, ho']
  rw [if_pos (wanted_of hs hw)]
  left
  have h1 := h F X a hs
  have fin : ∀ x w', (∃ (X' : GW) (σ' : AS), X'.w = w' ∧ ARun P Q (.o l (k + 1) rest :: ks) σ' ∧ SimE F X' σ' (a.put o.dst x).tmps ∧ Ext F X X') → wpOps P l.toArray (PostA F X D (Stk P Q ks)) (List.range' (k + 1) (l.length - (k + 1))) (a.put o.dst x) w' := by
    rintro x w' ⟨X', σ', rfl, h2, h3, h4⟩
    exact wpOps_mono' (fun _ _ _ hp => hp.ext h4) _ _ _ (h2 F X' (a.put o.dst x) h3 D (by rw [put_defers]; exact hd))
  have pan : ∀ v w', (∃ (X' : GW) (σ' : AS), X'.w = w' ∧ PanK P Q ks v σ' ∧ SimE F X' σ' a.tmps ∧ Ext F X X') → PostA F X D (Stk P Q ks) (.panic [{ v := v, recovered := false }]) a w' := by
    rintro v w' ⟨X', σ', rfl, ⟨t2, H2, ht, h2, h3⟩, h4, h5⟩
    exact ⟨hd, X', _, rfl, h3, h4.sub rfl ht h2 (fun p hp => by cases hp), h5⟩
  unfold Oper.wp
  generalize (execOp a.eval o).run P X.w = r at h1 ⊢
  cases r with
  | halt z w =>
    cases z <;> simp only [runsX] at h1
    exact pan _ _ h1
  | ok nx w =>
    cases nx <;> simp only [runsX] at h1 <;> simp only [Oper.upon]
    case value x => exact fin _ _ h1
    case skip => exact fin _ _ h1
    case enter f args =>
      refine h1.mono fun e w' he => ?_
      cases e with
      | returned v => exact fin _ _ he
      | panicked ch => obtain ⟨v, rfl, he⟩ := he; exact pan _ _ he
      | outgrown => exact he.elim

/-- How a call ends: on behind it, or out by a panic. -/
def CallEnd (P : Program) (Q : Exit → AS → Prop) (ks : List It) (l : List Oper) (k : Nat) (rest : List Oper) (d : Nat) (σ : AS) : AOut → Prop
  | .ret u => ARun P Q (.o l (k + 1) rest :: ks) (AS.nf (σ.put d u))
  | .pan x => PanK P Q ks x σ
theorem ar_callX {Hp Hr : List (Nat × List AV)} {fop : Op} (hop : fop = .call { callee := .value (.func f), args := xs, argTypes := ats }) (hc : ACalls P f us Hp post) (ho : l[k]? = some ⟨some d, fop, ty, pos, af, g⟩) (hw : wantedA l σ ⟨some d, fop, ty, pos, af, g⟩ = some true) (ha : PArgs σ xs.toList us ρs) (h1 : oneSome ρs = true) (hroot : ∀ k o, some (Root.c k o) ∈ ρs → look Hp k = none) (hHp : ∀ k cs, look Hp k = some cs → look σ.h k = some cs) (hHr : ∀ k cs, look Hr k = some cs → look (layAll ρs σ).h k = some cs ∧ look Hp k = none) (hd : Nat.ble (d + 1) σ.n = true)
    (hR : ∀ out H', post out H' → CallEnd P Q ks l k rest d (callSt σ ρs Hr H') out) : ARun P Q (.o l k (⟨some d, fop, ty, pos, af, g⟩ :: rest) :: ks) σ := by
  subst hop
  refine ar_effX ho hw fun F X a hs => ?_
  have hlen := ha.len
  rw [Conc.execOp_call_func rfl, run_enter hc.1]
  simp only [runsX]
  refine (call_core (vs := xs.map a.eval) hs hc (by simp [hlen.1]) (fun i u hu => ?_) (fun i j r hi hj => oneSome_spec h1 i j r r hi hj) hroot hHp hHr (lt_of_ble hd)).mono fun e w' ⟨X', out, H', p1, p2, p3, p4, p5⟩ => ?_
  · obtain ⟨x, ρ, hx, hρ, hp⟩ := ha.get i u hu
    have hx' : xs[i]? = some x := by simpa using hx
    have : (xs.map a.eval).getD i undef = a.eval x := by simp [hx']
    rw [this]; exact ⟨ρ, hρ, hp.val hs⟩
  · have hr := hR out H' p2
    cases out with
    | ret u => obtain ⟨v, rfl, hv⟩ := p5; exact ⟨X', _, p1, hr, hv, p3⟩
    | pan x => subst p5; exact ⟨x, rfl, X', _, p1, hr, p4, p3⟩
/-- A closure's call: it is handed the boxes Hp. -/
theorem ar_callXF {caps : List AV} {s : Nat} {Hp Hr : List (Nat × List AV)} {fop : Op} (hop : fop = .call { callee := .value (.tmp s), args := xs, argTypes := ats }) (hfn : look σ.t s = some (.fn f caps)) (hc : ACalls P f (us ++ caps) Hp post) (ho : l[k]? = some ⟨some d, fop, ty, pos, af, g⟩) (hw : wantedA l σ ⟨some d, fop, ty, pos, af, g⟩ = some true) (ha : PArgs σ xs.toList us ρs) (hcap : caps.all (fun u => (own1 (some u)).isNone) = true) (h1 : oneSome ρs = true) (h2 : slotsOnly ρs = true) (hHp : ∀ k cs, look Hp k = some cs → look σ.h k = some cs) (hHr : ∀ k cs, look Hr k = some cs → look σ.h k = some cs ∧ look Hp k = none) (hd : Nat.ble (d + 1) σ.n = true)
    (hR : ∀ out H', post out H' → CallEnd P Q ks l k rest d (callSt σ ρs Hr H') out) : ARun P Q (.o l k (⟨some d, fop, ty, pos, af, g⟩ :: rest) :: ks) σ := by
  subst hop
  refine ar_effX ho hw fun F X a hs => ?_
  have hlen := ha.len
  have hf0 := hs.slot s _ hfn
  have hev : a.eval (.tmp s) = a.tmps.getD s undef := rfl
  generalize a.tmps.getD s undef = fv at hf0 hev
  cases hf0 with
  | fn _ _ ys hl hr =>
    have hexec : (execOp a.eval ⟨some d, .call { callee := .value (.tmp s), args := xs, argTypes := ats }, ty, pos, af, g⟩).run P X.w = .ok (.enter f (xs.map a.eval ++ ys)) X.w := by
      simp [execOp, resolve, Deferred.ofValue, invoke, hev]
      exact run_enter hc.1
    rw [hexec]
    simp only [runsX]
    have hlay : ∀ (L : List (Option Root)) (σ : AS) (m : Nat), layAll (L ++ List.replicate m none) σ = layAll L σ := by
      intro L
      induction L with
      | nil => intro σ m; induction m with
        | zero => rfl
        | succ m ih => simpa [List.replicate_succ, layAll] using ih
      | cons ρ L ih => intro σ m; cases ρ <;> simp only [List.cons_append, layAll] <;> exact ih _ _
    have hst : callSt σ (ρs ++ List.replicate caps.length none) Hr = callSt σ ρs Hr := by funext H'; simp only [callSt, hlay]
    have hin : ∀ (i : Nat) r, (ρs ++ List.replicate caps.length none)[i]? = some (some r) → ρs[i]? = some (some r) := by
      intro i r h
      by_cases hi : i < ρs.length
      · rwa [List.getElem?_append_left hi] at h
      · rw [List.getElem?_append_right (by omega)] at h
        have := List.mem_of_getElem? h
        simp at this
    have hcc := call_core (vs := xs.map a.eval ++ ys) (ρs := ρs ++ List.replicate caps.length none) (Hr := Hr) hs hc (by simp [hlen.1, hl]) (fun i u hu => ?_) (fun i j r h3 h4 => oneSome_spec h1 i j r r (hin i r h3) (hin j r h4)) (fun k o h => absurd (by
      rcases List.mem_append.1 h with h | h
      · exact h
      · simp at h) (slotsOnly_spec h2 k o)) hHp (fun k cs hk => by rw [hlay, layAll_h_slots h2]; exact hHr k cs hk) (lt_of_ble hd)
    · rw [hst] at hcc
      refine hcc.mono fun e w' ⟨X', out, H', p1, p2, p3, p4, p5⟩ => ?_
      have hr := hR out H' p2
      cases out with
      | ret u => obtain ⟨v, rfl, hv⟩ := p5; exact ⟨X', _, p1, hr, hv, p3⟩
      | pan x => subst p5; exact ⟨x, rfl, X', _, p1, hr, p4, p3⟩
    · by_cases hi : i < us.length
      · rw [List.getElem?_append_left hi] at hu
        obtain ⟨x, ρ, hx, hρ, hp⟩ := ha.get i u hu
        have hx' : xs[i]? = some x := by simpa using hx
        have hil : i < xs.size := (Array.getElem?_eq_some_iff.1 hx').1
        refine ⟨ρ, by rw [List.getElem?_append_left (by omega)]; exact hρ, ?_⟩
        have : (xs.map a.eval ++ ys).getD i undef = a.eval x := by
          rw [Array.getD_eq_getD_getElem?, Array.getElem?_append_left (by simpa using hil)]
          simp [hx']
        rw [this]; exact hp.val hs
      · rw [List.getElem?_append_right (by omega)] at hu
        have hic := (List.getElem?_eq_some_iff.1 hu).1
        have hxl : xs.toList.length = xs.size := by simp
        refine ⟨none, ?_, .rd ?_ ?_⟩
        · rw [List.getElem?_append_right (by omega)]
          simp only [List.getElem?_replicate]
          rw [if_pos (by omega)]
        · have hys : ys[i - us.length]? = some (ys[i - us.length]'(by omega)) := Array.getElem?_eq_getElem (by omega)
          have : (xs.map a.eval ++ ys).getD i undef = ys[i - us.length]'(by omega) := by
            rw [Array.getD_eq_getD_getElem?, Array.getElem?_append_right (by simp; omega)]
            have : i - (xs.map a.eval).size = i - us.length := by simp; omega
            rw [this, hys]; rfl
          rw [this]
          exact hr _ _ _ hu hys
        · simpa using List.all_eq_true.1 hcap u (List.mem_of_getElem? hu)
/-! ### panic -/
def valsV : List AV → Option (List Value)
  | [] => some []
  | .v x :: r => match valsV r with
    | some xs => some (x :: xs)
    | none => none
  | _ => none
def panV : AV → Option Value
  | .ifc t (.v x) => some (.iface t x)
  | .ifc t (.ag us) => match valsV us with
    | some xs => some (.iface t (.agg xs.toArray))
    | none => none
  | _ => none
theorem valsV_rel {X : GW} : ∀ (us : List AV) (xs ys : List Value), valsV us = some xs → us.length = ys.length → (∀ (i : Nat) u x, us[i]? = some u → ys[i]? = some x → Rel X u x) → ys = xs
  | [], xs, ys, h, hl, _ => by
    simp only [valsV, Option.some.injEq] at h; subst h
    exact List.length_eq_zero_iff.1 hl.symm
  | u :: us, xs, [], h, hl, _ => by simp at hl
  | u :: us, xs, y :: ys, h, hl, hr => by
    cases u with
    | v x =>
      simp only [valsV] at h
      split at h
      · rename_i zs hz
        cases h
        have h1 := rel_v (hr 0 (.v x) y rfl rfl)
        have h2 := valsV_rel us zs ys hz (by simpa using hl) (fun i u x hu hx => hr (i + 1) u x (by simpa using hu) (by simpa using hx))
        rw [h1, h2]
      · cases h
    | _ => cases h
theorem panV_rel {u : AV} {v z : Value} (h : panV u = some v) (hr : Rel X u z) : z = v ∧ ∃ t y, v = .iface t y := by
  unfold panV at h
  split at h
  · cases h
    cases hr with
    | ifc t _ y hy => exact ⟨by rw [rel_v hy], _, _, rfl⟩
  · rename_i t us
    split at h
    · rename_i xs hxs
      cases h
      cases hr with
      | ifc _ _ y hy =>
        cases hy with
        | ag _ arr hl hr2 =>
          have := valsV_rel us xs arr.toList hxs (by simpa using hl) (fun i u x hu hx => hr2 i u x hu (by simpa using hx))
          exact ⟨by rw [← this], _, _, rfl⟩
    · cases h
  · cases h
theorem ar_panic {u : AV} {v : Value} (ho : l[k]? = some ⟨none, .panic x, ty, pos, af, g⟩) (hw : wantedA l σ ⟨none, .panic x, ty, pos, af, g⟩ = some true) (hx : opV σ x = some u) (hv : panV u = some v) (h : PanK P Q ks v σ) : ARun P Q (.o l k (⟨none, .panic x, ty, pos, af, g⟩ :: rest) :: ks) σ := by
  refine ar_effX ho hw fun F X a hs => ?_
  obtain ⟨h1, t, y, h2⟩ := panV_rel hv (opV_rel' hs hx)
  have hrun : (execOp a.eval ⟨none, .panic x, ty, pos, af, g⟩).run P X.w = .halt (.panic v) X.w := by
    simp only [execOp, h1, h2]
    rfl
  rw [hrun]
  exact ⟨X, _, rfl, h, hs, Ext.refl F X⟩

/-! ### Assertions of a type -/
/-! ### Structs out of a box, as a reader sees them -/
theorem rel_rds {cs : List AV} {v : Value} (h : Rel X (.ag cs) v) : Rel X (.ag (cs.map AV.rd)) v := by
  cases h with
  | ag _ xs hl hr =>
    refine .ag _ xs (by simpa using hl) fun i u x hu hx => ?_
    simp only [List.getElem?_map, Option.map_eq_some_iff] at hu
    obtain ⟨u0, h0, rfl⟩ := hu
    exact (hr i u0 x h0 hx).rd
theorem opv_load_boxr {dd : Option Tmp} {fs : Array Field} {n by_ k o : Nat} {cs : List AV} (hx : opV σ x = some (.v (.pointer (some ⟨k, o, none⟩)))) (hb : look σ.h k = some cs) (h0 : look T.ty t = some (.struct fs)) (hz : look T.sz t = some (n, by_)) (hl : Nat.ble (o + n) cs.length = true) (hm : isMpB cs = false) :
    OpV P ⟨dd, .load t x, ty, pos, af, g⟩ σ (.ag (((cs.drop o).take n).map AV.rd)) := by
  intro F X a hs
  refine (opv_load_boxs (T := T) (P := P) (d := dd) (ty := ty) (pos := pos) (af := af) (g := g) hx hb h0 hz hl hm F X a hs).mono fun x w' ⟨X', h1, h2, h3, h4, h5⟩ => ⟨X', h1, h2, h3, rel_rds h4, FreshOk.plain rfl⟩
end
end Go.Proofs.Ytgmlkhfjhogdbaa

/- The layer of abstract values: results that lie in cells; a deferred closure that recovers. -/
namespace Go.Proofs.Ytgmlkhfjhogdbaa
open Go.RowKit P
set_option linter.unusedSimpArgs false
set_option linter.unusedVariables false

/-- A result, out of a slot or a cell. -/
def resC1 {P : Program} (T : Tys P) (t : List (Nat × AV)) (H : List (Nat × List AV)) : ResultVar → Option AV
  | .tmp s => match look t s with
    | some u => some u.rd
    | none => none
  | .cell s ty => match look t s with
    | some (.v (.pointer (some ⟨k, 0, none⟩))) => match look H k, look T.ty ty with
      | some cs, some (.struct _) => match look T.sz ty with
        | some (n, _) => if Nat.beq n cs.length && !isMpB cs then some (.ag (cs.map AV.rd)) else none
        | none => none
      | some [c], some d => if oneB d && !c.isMp then some c.rd else none
      | _, _ => none
    | _ => none
def resCA {P : Program} (T : Tys P) (t : List (Nat × AV)) (H : List (Nat × List AV)) : List ResultVar → Option AV
  | [] => some (.tu [])
  | [r] => resC1 T t H r
  | [r, r'] => match resC1 T t H r, resC1 T t H r' with
    | some u, some u' => some (.tu [u, u'])
    | _, _ => none
  | [r, r', r''] => match resC1 T t H r, resC1 T t H r', resC1 T t H r'' with
    | some u, some u', some u'' => some (.tu [u, u', u''])
    | _, _, _ => none
  | _ => none
def resRun (tm : Array Value) : ResultVar → Sem Value
  | .tmp t => pure (tm.getD t undef)
  | .cell a t => do loadVar t (← asAddr (tm.getD a undef))
section
variable {P : Program} {Q : Exit → AS → Prop} {ks : List It} {T : Tys P} {σ σ' : AS} {post : AOut → List (Nat × List AV) → Prop} {us : List AV} {f : FuncId} {F : Nat → Prop} {X : GW}
theorem resC1_ok {t : List (Nat × AV)} {H : List (Nat × List AV)} {tm : Array Value} {r : ResultVar} {u : AV} (hslot : ∀ s u, look t s = some u → Rel X u (tm.getD s undef)) (hbox : ∀ k cs, look H k = some cs → BoxOk F X k cs) (h : resC1 T t H r = some u) : u.plain ∧ ∃ v, (resRun tm r).run P X.w = .ok v X.w ∧ Rel X u v := by
  cases r with
  | tmp s =>
    simp only [resC1] at h
    split at h
    · rename_i u0 hu
      cases h
      exact ⟨plain_rd u0, tm.getD s undef, rfl, (hslot s u0 hu).rd⟩
    · cases h
  | cell s ty =>
    simp only [resC1] at h
    split at h
    · rename_i k hk
      have hp := rel_v (hslot s _ hk)
      have hass : ∀ w, (asAddr (tm.getD s undef)).run P w = .ok ⟨k, 0, none⟩ w := fun w => by rw [hp]; rfl
      have hgo : ∀ (v : Value), (loadVar ty ⟨k, 0, none⟩).run P X.w = .ok v X.w → (resRun tm (.cell s ty)).run P X.w = .ok v X.w := fun v hv => by
        have h1 := hass X.w
        show (asAddr (tm.getD s undef) >>= fun a => loadVar ty a).run P X.w = _
        generalize asAddr (tm.getD s undef) = q at h1
        simp [h1, hv]
      split at h
      · rename_i cs fs hcs hty
        split at h
        · rename_i n by_ hsz
          split at h
          · rename_i hc
            cases h
            simp only [Bool.and_eq_true, Bool.not_eq_true'] at hc
            have hn := Nat.eq_of_beq_eq_true hc.1
            have hu := T.tyOk _ _ hty
            obtain ⟨inf, hi1, hi2, hi3⟩ := T.szOk _ _ _ hsz
            obtain ⟨b1, b2, arr, e, fr, b3, b4, b5, b6⟩ := (hbox k cs hcs).cells hc.2
            have hld := run_loadCells (P := P) (w := X.w) ⟨k, 0, none⟩ n (fun j => arr.getD (0 + j) undef) (fun j hj => by
              rw [add_off]
              have : 0 + j < arr.size := by omega
              simp only [Nat.zero_add] at this
              simp [World.cell?, b3, this])
            refine ⟨rfl, .agg ((List.range n).map fun j => arr.getD (0 + j) undef).toArray, hgo _ (by simp [loadVar, isAgg, run_underlying hu, sizeOf, typeInfo, hi1, hi2, hld]), .ag _ _ (by simp; omega) (fun j u v hj hv => ?_)⟩
            simp only [List.getElem?_map, Option.map_eq_some_iff] at hj
            obtain ⟨u0, h0, rfl⟩ := hj
            have hjl := (List.getElem?_eq_some_iff.1 h0).1
            have hjn : j < n := by omega
            have hja : j < arr.size := by omega
            simp [hjn, hja] at hv
            subst hv
            exact (b6 j u0 _ h0 (by simp [hja])).rd
          · cases h
        · cases h
      · rename_i c d hno hcs hty
        split at h
        · rename_i hc
          cases h
          simp only [Bool.and_eq_true, Bool.not_eq_true'] at hc
          have hu := T.tyOk _ _ hty
          obtain ⟨b1, b2, arr, e, fr, b3, b4, b5, b6⟩ := (hbox k [c] hcs).at (o := 0) rfl hc.2
          have hlt : 0 < arr.size := by rw [b4]; simp
          have hx : arr[0]? = some arr[0] := Array.getElem?_eq_getElem hlt
          have hcell : X.w.cell? ⟨k, 0, none⟩ = some arr[0] := by simp only [World.cell?, b3]; exact hx
          refine ⟨plain_rd c, arr[0], hgo _ ?_, (b6 0 c _ rfl hx).rd⟩
          have h1 := hc.1
          cases d <;> simp [oneB] at h1 <;> simp [loadVar, isAgg, run_underlying hu, hcell]
        · cases h
      · cases h
    · cases h
theorem results_run {fn : Func} {tm : Array Value} {w : World} {vs : List Value} (h : fn.results.toList.length = vs.length) (hr : ∀ (i : Nat) r v, fn.results.toList[i]? = some r → vs[i]? = some v → (resRun tm r).run P w = .ok v w) (hl : vs.length ≤ 3) : (results fn tm).run P w = .ok (if vs.length = 1 then vs.getD 0 undef else .tuple vs.toArray) w := by
  have hres : fn.results = fn.results.toList.toArray := by simp
  have hmap : (results fn tm) = (do let vs ← fn.results.mapM (resRun tm); pure (if h : vs.size = 1 then vs[0] else .tuple vs)) := by
    unfold results
    congr 2
    all_goals (funext r; cases r <;> rfl)
  rw [hmap]
  generalize fn.results.toList = rs at h hr hres
  rw [hres]
  clear hmap hres
  match rs, vs, h, hr, hl with
  | [], [], _, _, _ => simp
  | [r], [v], _, hr, _ => simp [hr 0 r v rfl rfl]
  | [r, r'], [v, v'], _, hr, _ => simp [hr 0 r v rfl rfl, hr 1 r' v' rfl rfl]
  | [r, r', r''], [v, v', v''], _, hr, _ => simp [hr 0 r v rfl rfl, hr 1 r' v' rfl rfl, hr 2 r'' v'' rfl rfl]
  | _ :: _ :: _ :: _ :: _, _ :: _ :: _ :: _ :: _, _, _, hl => simp at hl
theorem resCA_ok {t : List (Nat × AV)} {H : List (Nat × List AV)} {tm : Array Value} {fn : Func} {u : AV} (hslot : ∀ s u, look t s = some u → Rel X u (tm.getD s undef)) (hbox : ∀ k cs, look H k = some cs → BoxOk F X k cs) (h : resCA T t H fn.results.toList = some u) : u.plain ∧ ∃ v, (results fn tm).run P X.w = .ok v X.w ∧ Rel X u v := by
  have h0 := h
  unfold resCA at h
  have go := fun (vs : List Value) => results_run (P := P) (fn := fn) (tm := tm) (w := X.w) (vs := vs)
  split at h
  · rename_i heq
    cases h
    exact ⟨rfl, _, go [] (by rw [heq]; rfl) (fun i r v hr => by rw [heq] at hr; simp at hr) (by simp), .tu [] #[] rfl (fun i u v hu => by simp at hu)⟩
  · rename_i r heq
    obtain ⟨h1, v, h2, h3⟩ := resC1_ok hslot hbox h
    exact ⟨h1, v, by
      have := go [v] (by rw [heq]; rfl) (fun i r v' hr hv => by
        rw [heq] at hr
        match i with
        | 0 => simp at hr hv; subst hr hv; exact h2
        | i + 1 => simp at hr) (by simp)
      simpa using this, h3⟩
  · rename_i r r' heq
    split at h
    · rename_i u1 u2 e1 e2
      cases h
      obtain ⟨_, v1, a1, a2⟩ := resC1_ok hslot hbox e1
      obtain ⟨_, v2, b1, b2⟩ := resC1_ok hslot hbox e2
      refine ⟨rfl, .tuple #[v1, v2], by
        have := go [v1, v2] (by rw [heq]; rfl) (fun i r v' hr hv => by
          rw [heq] at hr
          match i with
          | 0 => simp at hr hv; subst hr hv; exact a1
          | 1 => simp at hr hv; subst hr hv; exact b1
          | i + 2 => simp at hr) (by simp)
        simpa using this, .tu _ _ rfl (fun i u v hu hv => ?_)⟩
      match i with
      | 0 => simp at hu hv; subst hu hv; exact a2
      | 1 => simp at hu hv; subst hu hv; exact b2
      | i + 2 => simp at hu
    · cases h
  · rename_i r r' r'' heq
    split at h
    · rename_i u1 u2 u3 e1 e2 e3
      cases h
      obtain ⟨_, v1, a1, a2⟩ := resC1_ok hslot hbox e1
      obtain ⟨_, v2, b1, b2⟩ := resC1_ok hslot hbox e2
      obtain ⟨_, v3, c1, c2⟩ := resC1_ok hslot hbox e3
      refine ⟨rfl, .tuple #[v1, v2, v3], by
        have := go [v1, v2, v3] (by rw [heq]; rfl) (fun i r v' hr hv => by
          rw [heq] at hr
          match i with
          | 0 => simp at hr hv; subst hr hv; exact a1
          | 1 => simp at hr hv; subst hr hv; exact b1
          | 2 => simp at hr hv; subst hr hv; exact c1
          | i + 3 => simp at hr) (by simp)
        simpa using this, .tu _ _ rfl (fun i u v hu hv => ?_)⟩
      match i with
      | 0 => simp at hu hv; subst hu hv; exact a2
      | 1 => simp at hu hv; subst hu hv; exact b2
      | 2 => simp at hu hv; subst hu hv; exact c2
      | i + 3 => simp at hu
    · cases h
  · cases h

/-- The end of a panic, as the caller sees it. -/
theorem SimE.panEnd {tm : Array Value} (p4 : SimE F X σ tm) : SimE F X ⟨1, [], σ.h, []⟩ #[undef] := by
  refine p4.other rfl p4.fb (fun t u hu => by simp [look_nil] at hu) (fun k cs hk => ⟨hk, (p4.box k cs hk).nF⟩) rfl id (fun r sz l ho => .inr ?_) (fun _ _ _ _ _ _ _ _ hne _ _ _ _ => hne)
  cases r with
  | s t => simp only [AS.own, look_nil, own1] at ho; cases ho
  | c k o =>
    refine ⟨ho, rfl, fun a n c hr => ?_⟩
    exact (p4.own_nF (r := .c k o) ho hr).1
theorem SimE.retEnd {tm : Array Value} {H2 : List (Nat × List AV)} {u : AV} {v : Value} (p4 : SimE F X σ tm) (hs : ∀ k cs, look H2 k = some cs → look σ.h k = some cs) (hr : Rel X u v) (hp : u.plain) : SimE F X ⟨1, [(0, u)], H2, []⟩ #[v] :=
  (p4.result hr (fun sz l ho => by rw [hp] at ho; cases ho)).sub rfl (fun _ _ h => h) hs (fun _ h => h)
/-! ### A deferred closure -/
end
end Go.Proofs.Ytgmlkhfjhogdbaa

/- The layer of abstract values: a function that defers a closure. -/
namespace Go.Proofs.Ytgmlkhfjhogdbaa
open Go.RowKit P
set_option linter.unusedSimpArgs false
set_option linter.unusedVariables false

section
variable {P : Program} {Q : Exit → AS → Prop} {ks : List It} {T : Tys P} {σ σ' : AS} {post : AOut → List (Nat × List AV) → Prop} {us : List AV} {f g : FuncId} {F : Nat → Prop} {X : GW}
/-- A deferred closure's contract. -/
def DefC (P : Program) (g : FuncId) (us : List AV) (H : List (Nat × List AV)) (u u1 : FrameMode) (post : AOut → List (Nat × List AV) → Prop) : Prop :=
  ∀ F X (vs : Array Value), SimE F X ⟨us.length, slotsOf 0 us, H, []⟩ vs → CallsD P g vs u X.w fun e u' w' => u' = u1 ∧ ∃ (X' : GW) (out : AOut) (H' : List (Nat × List AV)), X'.w = w' ∧ post out H' ∧ EndOk F X' e out H' ∧ Ext F X X'
theorem DefC.sub {us : List AV} {H H1 : List (Nat × List AV)} {u u1 : FrameMode} (h : DefC P g us H1 u u1 post) (hs : ∀ k cs, look H1 k = some cs → look H k = some cs) : DefC P g us H u u1 post :=
  fun F X vs hsim => h F X vs (hsim.sub rfl (fun _ _ h => h) hs (fun _ h => h))
end
end Go.Proofs.Ytgmlkhfjhogdbaa

/- The layer of abstract values: regions that draw their order and end with a store, or with a call that panics. -/
namespace Go.Proofs.Ytgmlkhfjhogdbaa
open Go.RowKit P
set_option linter.unusedSimpArgs false
set_option linter.unusedVariables false

section
variable {P : Program} {Q : Exit → AS → Prop} {ks : List It} {T : Tys P} {σ : AS} {K : AS → Prop} {l body after rest : List Oper} {om o : Oper} {d k : Nat} {u : AV}
end
end Go.Proofs.Ytgmlkhfjhogdbaa

/- The layer of abstract values: boxes of which only some are known; loops over states with such boxes. -/
namespace Go.Proofs.Ytgmlkhfjhogdbaa
open Go.RowKit P
set_option linter.unusedSimpArgs false
set_option linter.unusedVariables false
section
variable {P : Program} {Q : Exit → AS → Prop} {ks : List It} {T : Tys P} {σ σ' : AS}
/-- Whatever reads as σ reads as σ'. -/
def SubS (σ σ' : AS) : Prop := ∀ F X tm, SimE F X σ tm → SimE F X σ' tm
theorem SubS.trans {σ2 : AS} (h : SubS σ σ') (k : SubS σ' σ2) : SubS σ σ2 := fun F X tm hs => k F X tm (h F X tm hs)
theorem SubS.mk {n : Nat} {t t' : List (Nat × AV)} {H H' : List (Nat × List AV)} {e : List (Nat × Root)} (ht : ∀ p ∈ t', look t p.1 = some p.2) (hh : ∀ k cs, look H' k = some cs → look H k = some cs) : SubS ⟨n, t, H, e⟩ ⟨n, t', H', []⟩ :=
  fun _ _ _ hs => hs.sub rfl (fun s u h => ht (s, u) (look_mem h)) hh (fun p hp => by cases hp)
theorem ar_subS {c : Code} (h : SubS σ σ') (hn : ARun P Q (.c c :: ks) σ') : ARun P Q (.c c :: ks) σ := ar_sub hn h
/-- A loop: the states st y, so long as Pr y; each round lowers μ. -/
theorem ar_loopS {α : Type} {c : Code} (st : α → AS) (Pr : α → Prop) (μ : α → Nat) (y0 : α) (h0 : SubS σ (st y0)) (hp : Pr y0)
    (round : ∀ y, Pr y → ARun P Q (.c c :: .l (fun σ' => ∃ y', SubS σ' (st y') ∧ Pr y' ∧ μ y' < μ y) :: ks) (st y)) : ARun P Q (.c (.loop c) :: ks) σ := by
  intro F X a hs D hd b k cs
  have key : ∀ n y a w, μ y = n → a.defers = D → Pr y → (∃ X' : GW, X'.w = w ∧ SimE F X' (st y) a.tmps ∧ Ext F X X') →
      ∃ e a' w', PostA F X D (Stk P Q ks) e a' w' ∧ Arrives P (lone (b.at a (.code c :: .inLoop c :: k)) cs w) b k cs e a' w' := by
    intro n
    induction n using Nat.strongRecOn with
    | _ n ih =>
      rintro y a w hn hd hp ⟨X1, rfl, hs1, hx1⟩
      obtain ⟨e, a₁, w₁, hq, harr⟩ := round y hp F X1 a hs1 D hd b (.inLoop c :: k) cs
      obtain ⟨k1, X2, σ2, k2, k3, k4, k5⟩ := hq
      cases e with
      | normal =>
        obtain ⟨y', l1, l2, l3⟩ := k3
        obtain ⟨e₂, a₂, w₂, hq₂, harr₂⟩ := ih (μ y') (hn ▸ l3) y' a₁ w₁ rfl k1 l2 ⟨X2, k2, l1 _ _ _ k4, hx1.trans k5⟩
        exact ⟨e₂, a₂, w₂, hq₂, .of_steps (Steps.trans harr (.one step_inLoop)) harr₂⟩
      | _ => exact ⟨_, a₁, w₁, ⟨k1, X2, σ2, k2, k3, k4, hx1.trans k5⟩, .pass (x := .inLoop c) rfl (fun _ _ => .inl (by simp)) harr⟩
  obtain ⟨e, a', w', hq, harr⟩ := key _ y0 a X.w rfl hd hp ⟨X, rfl, h0 _ _ _ hs, Ext.refl F X⟩
  exact ⟨e, a', w', hq, .of_steps (.one step_loop) harr⟩
theorem ar_subO {it : It} (hit : (match it with | .c _ => true | .o _ _ _ => true | _ => false) = true) (h : SubS σ σ') (hn : ARun P Q (it :: ks) σ') : ARun P Q (it :: ks) σ := by
  cases it with
  | c c => exact fun F X a hs D hd => hn F X a (h _ _ _ hs) D hd
  | o l k r => exact fun F X a hs D hd => hn F X a (h _ _ _ hs) D hd
  | b id => cases hit
  | l I => cases hit
theorem resC1_struct {t : List (Nat × AV)} {H : List (Nat × List AV)} {s k n by_ : Nat} {ty : TypeId} {cs : List AV} {fs : Array Field} (ht : look t s = some (.v (.pointer (some ⟨k, 0, none⟩)))) (hh : look H k = some cs) (h0 : look T.ty ty = some (.struct fs)) (hz : look T.sz ty = some (n, by_)) (hn : Nat.beq n cs.length = true) (hm : isMpB cs = false) : resC1 T t H (.cell s ty) = some (.ag (cs.map AV.rd)) := by
  simp only [resC1, ht, hh, h0, hz, hn, hm]; rfl
theorem resC1_one {t : List (Nat × AV)} {H : List (Nat × List AV)} {s k : Nat} {ty : TypeId} {c : AV} {d : TypeDesc} (ht : look t s = some (.v (.pointer (some ⟨k, 0, none⟩)))) (hh : look H k = some [c]) (h0 : look T.ty ty = some d) (h1 : oneB d = true) (hm : c.isMp = false) : resC1 T t H (.cell s ty) = some c.rd := by
  cases d <;> simp [oneB] at h1 <;> simp [resC1, ht, hh, h0, hm, oneB]
theorem freshK_look {k : Nat} : ∀ {H : List (Nat × List AV)}, FreshK k H → look H k = none
  | [], _ => rfl
  | (a, c) :: H, h => by
    rw [look_cons, if_neg (fun e => h (a, c) List.mem_cons_self e.symm)]
    exact freshK_look (fun q hq => h q (List.mem_cons_of_mem _ hq))
end
end Go.Proofs.Ytgmlkhfjhogdbaa
