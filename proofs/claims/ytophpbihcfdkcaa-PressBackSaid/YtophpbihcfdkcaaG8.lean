/- The layer of abstract values: moves, new rows, appending. -/
import Derived.Test.YtophpbihcfdkcaaG7
import Derived.Lib.AppendStr
import Derived.Laws.IdiomCopy
namespace Go.Proofs.Ytophpbihcfdkcaa
open Go.RowKit P
set_option linter.unusedSimpArgs false
set_option linter.unusedVariables false
section
variable {P : Program} {Q : Exit → AS → Prop} {ks : List It} {T : Tys P} {σ : AS} {d : Option Tmp} {t t2 yt ty e : TypeId} {x y z : Operand} {pos : String} {af : Array Edge} {g : Option (Nat × Bool)} {F : Nat → Prop} {X : GW}

theorem opv_const {op : Op} {v : Value} (hp : (cst v).plain) (ho : op = .move (.const v) ∨ op = .assign (.const v)) : OpV P ⟨d, op, ty, pos, af, g⟩ σ (cst v) := by
  refine opv_same hp fun F X ac hs => ⟨v, ?_, cst_rel X v⟩
  rcases ho with rfl | rfl <;> rfl
theorem cst_plain (v : Value) : (cst v).plain := by cases v <;> rfl
def AV.isSl : AV → Bool
  | .sl _ _ _ => true
  | _ => false
/-- A move of what is no slice. -/
theorem opv_move {u : AV} (hx : opV σ x = some u) (hp : u.isSl = false) : OpV P ⟨d, .move x, ty, pos, af, g⟩ σ u := by
  refine opv_same (by cases u <;> first | rfl | cases hp) fun F X ac hs => ⟨ac.eval x, rfl, opV_rel hs (by simp [Op.operands]) hx⟩
theorem opv_assign {u : AV} (hx : opV σ x = some u) (hp : u.isSl = false) : OpV P ⟨d, .assign x, ty, pos, af, g⟩ σ u := by
  refine opv_same (by cases u <;> first | rfl | cases hp) fun F X ac hs => ⟨ac.eval x, rfl, opV_rel hs (by simp [Op.operands]) hx⟩

/-- Where what slot s holds is owned, if it is. -/
def rootOf (σ : AS) (s : Nat) : Option Root := match look σ.t s with
  | some (.sl true _ _) => some (.s s)
  | some (.sl false _ _) => look σ.e s
  | _ => none
theorem rootOf_val {tm : Array Value} {s : Nat} {r : Root} (hs : SimE F X σ tm) (h : rootOf σ s = some r) : rootV tm X.w r = some (tm.getD s undef) := by
  unfold rootOf at h
  split at h
  · cases h; rfl
  · exact hs.eqs s r h
  · cases h
def AS.mv (σ : AS) (d s : Nat) (u : AV) : AS := match rootOf σ s with
  | some r => match r.in d with | true => σ.put d u.rd | false => (σ.put d u.rd).alias d r
  | none => σ.put d u.rd
theorem SimE.mv {tm : Array Value} {d s : Nat} {u : AV} (h : SimE F X σ tm) (hd : d < σ.n) (hu : look σ.t s = some u) : SimE F X (σ.mv d s u) (tm.setIfInBounds d (tm.getD s undef)) := by
  have hput : SimE F X (σ.put d u.rd) (tm.setIfInBounds d (tm.getD s undef)) := h.put_new hd (New.refl X) h.gb (h.slot s u hu).rd (FreshOk.plain (plain_rd u))
  unfold AS.mv
  cases hr : rootOf σ s with
  | none => exact hput
  | some r =>
    simp only
    cases hin : r.in d with
    | true => exact hput
    | false =>
      refine hput.alias ?_
      rw [rootV_set hin, getD_set_self (by rw [h.size]; exact hd)]
      exact rootOf_val h hr
theorem ar_move_sl {l : List Oper} {k : Nat} {rest : List Oper} {d s : Nat} {u : AV} (ho : l[k]? = some ⟨some d, .move (.tmp s), ty, pos, af, g⟩) (hw : wantedA l σ ⟨some d, .move (.tmp s), ty, pos, af, g⟩ = some true) (hd : Nat.ble (d + 1) σ.n = true) (hu : look σ.t s = some u)
    (hn : ARun P Q (.o l (k + 1) rest :: ks) (σ.mv d s u)) : ARun P Q (.o l k (⟨some d, .move (.tmp s), ty, pos, af, g⟩ :: rest) :: ks) σ := by
  refine ar_eff ho hw fun F X a hs => runs_value (x := a.eval (.tmp s)) (w' := X.w) rfl ⟨X, _, rfl, hn, ?_, Ext.refl F X⟩
  exact hs.mv (lt_of_ble hd) hu
theorem ar_assign_sl {l : List Oper} {k : Nat} {rest : List Oper} {d s : Nat} {u : AV} (ho : l[k]? = some ⟨some d, .assign (.tmp s), ty, pos, af, g⟩) (hw : wantedA l σ ⟨some d, .assign (.tmp s), ty, pos, af, g⟩ = some true) (hd : Nat.ble (d + 1) σ.n = true) (hu : look (σ.free d).t s = some u)
    (hn : ARun P Q (.o l (k + 1) rest :: ks) ((σ.free d).mv d s u)) : ARun P Q (.o l k (⟨some d, .assign (.tmp s), ty, pos, af, g⟩ :: rest) :: ks) σ := by
  refine ar_eff ho hw fun F X a hs => runs_value (x := a.eval (.tmp s)) (w' := X.w) rfl ⟨X, _, rfl, hn, ?_, Ext.refl F X⟩
  exact (hs.free d).mv (by rw [free_n]; exact lt_of_ble hd) hu
/-- An operation, the slot's owner not being of use any more. -/
theorem ar_op' {l : List Oper} {k : Nat} {o : Oper} {rest : List Oper} {d : Nat} {u : AV} (ho : l[k]? = some o) (hw : wantedA l σ o = some true) (hdst : o.dst = some d) (hd : Nat.ble (d + 1) σ.n = true) (h : OpV P o σ u)
    (hn : ARun P Q (.o l (k + 1) rest :: ks) (σ.put d u)) : ARun P Q (.o l k (o :: rest) :: ks) σ := by
  refine ar_eff ho hw fun F X a hs => (h F X a (hs.r o.op)).mono fun x w' ⟨X', h1, h2, h3, h4, h5⟩ => ⟨X', σ.put d u, h1, hn, ?_, h2.ext hs.gb hs.fb⟩
  rw [hdst]
  exact hs.put_new (lt_of_ble hd) h2 h3 h4 h5
theorem ar_unwanted' {l : List Oper} {k : Nat} {o : Oper} {rest : List Oper} {d : Nat} (ho : l[k]? = some o) (hw : wantedA l σ o = some false) (hdst : o.dst = some d) (hd : Nat.ble (d + 1) σ.n = true)
    (hn : ARun P Q (.o l (k + 1) rest :: ks) (σ.put d (.v undef))) : ARun P Q (.o l k (o :: rest) :: ks) σ := by
  intro F X a hs hdf
  have hk : k < l.length := (List.getElem?_eq_some_iff.1 ho).1
  rw [range'_cons hk]
  have ho' : (l.toArray)[k]? = some o := by simpa using ho
  simp only [wpOps, ho']
  rw [if_neg (by rw [wanted_of hs hw]; simp)]
  refine hn F X (a.put o.dst undef) ?_ (by rw [put_defers]; exact hdf)
  rw [hdst]
  exact hs.put_new (lt_of_ble hd) (New.refl X) hs.gb (.v _) (FreshOk.plain rfl)
/-- A load of a slice out of a box: where it is owned is noted. -/
theorem ar_load_own {l : List Oper} {k : Nat} {rest : List Oper} {d b o : Nat} {cs : List AV} {u : AV} {dsc : TypeDesc} (ho : l[k]? = some ⟨some d, .load t x, ty, pos, af, g⟩) (hw : wantedA l σ ⟨some d, .load t x, ty, pos, af, g⟩ = some true) (hd : Nat.ble (d + 1) σ.n = true)
    (hx : opV σ x = some (.v (.pointer (some ⟨b, o, none⟩)))) (hb : look σ.h b = some cs) (hu : cs[o]? = some u) (h0 : look T.ty t = some dsc) (h1 : oneB dsc = true)
    (hm : u.isMp = false) (hn : ARun P Q (.o l (k + 1) rest :: ks) ((σ.put d u.rd).alias d (.c b o))) : ARun P Q (.o l k (⟨some d, .load t x, ty, pos, af, g⟩ :: rest) :: ks) σ := by
  refine ar_eff ho hw fun F X a hs => ?_
  have e1 := opV_val (hs.r (.load t x)) (by simp [Op.operands]) hx
  obtain ⟨b1, b2, arr, e, fr, b3, b4, b5, b6⟩ := (hs.box b cs hb).at hu hm
  have hlt := (List.getElem?_eq_some_iff.1 hu).1
  have hx : arr[o]? = some arr[o] := Array.getElem?_eq_getElem (by omega)
  have hc : X.w.cell? ⟨b, o, none⟩ = some arr[o] := by simp only [World.cell?, b3]; exact hx
  refine runs_value (x := arr[o]) (w' := X.w) (by simp only [execOp, e1]; exact run_val (run_load1 (T.tyOk _ _ h0) h1 hc)) ⟨X, _, rfl, hn, ?_, Ext.refl F X⟩
  have hput := hs.put_new (lt_of_ble hd) (New.refl X) hs.gb (b6 o u _ hu hx).rd (FreshOk.plain (plain_rd u))
  refine hput.alias ?_
  simp only [rootV]
  rw [getD_set_self (by rw [hs.size]; exact lt_of_ble hd), hc]

/-! ### New rows -/
def GW.with (X : GW) (w' : World) (b n : Nat) : GW := ⟨w', fun c => match Nat.beq c b with | true => some n | false => X.g c⟩
theorem with_self {X : GW} {w' : World} {b n : Nat} : (X.with w' b n).g b = some n := by simp [GW.with]
theorem with_ne {X : GW} {w' : World} {b n c : Nat} (h : c ≠ b) : (X.with w' b n).g c = X.g c := by
  simp only [GW.with]
  cases hb : Nat.beq c b
  · rfl
  · exact absurd (Nat.eq_of_beq_eq_true hb) h
/-- A new row that reads as a list. -/
theorem new_row {w' : World} {cells : Array Value} {el : TypeId} {fr : Nat × Nat} {sz cap : Nat} {rows : List (List AV)} (hos : w'.os = X.w.os) (htape : w'.tape = X.w.tape) (hout : w'.output = X.w.output) (hh : w'.heap = X.w.heap.push (.cells cells el fr))
    (hgb : ∀ b n, X.g b = some n → b < X.w.heap.size) (hfb : ∀ b, F b → b < X.w.heap.size) (hlen : ∀ r ∈ rows, r.length = sz) (hcs : cells.size = cap * sz) (hcap : rows.length ≤ cap)
    (hrel : ∀ (i j : Nat) (r : List AV) (u : AV), rows[i]? = some r → r[j]? = some u → ∃ v, cells[i * sz + j]? = some v ∧ Rel X u v) (hfr : ∀ j, rows.length * sz ≤ j → j < cells.size → (fr.1 ≤ j && j < fr.2) = false) :
    ∃ X' : GW, X'.w = w' ∧ New X X' ∧ (∀ b n, X'.g b = some n → b < X'.w.heap.size) ∧ Rel X' (.sl true sz rows) (.slice (some ⟨X.w.heap.size, 0, none⟩) rows.length cap) ∧ FreshOk F X.w.heap.size X' (.sl true sz rows) (.slice (some ⟨X.w.heap.size, 0, none⟩) rows.length cap) := by
  have hnewh : w'.heap[X.w.heap.size]? = some (.cells cells el fr) := by rw [hh]; simp
  have holdh : ∀ b, b < X.w.heap.size → w'.heap[b]? = X.w.heap[b]? := fun b hb => by rw [hh, Array.getElem?_push, if_neg (by omega)]
  have hsz' : w'.heap.size = X.w.heap.size + 1 := by rw [hh]; simp
  have hnew : New X (X.with w' X.w.heap.size (rows.length * sz)) := ⟨hos, htape, hout, by show X.w.heap.size ≤ w'.heap.size; omega, fun b hb => ⟨holdh b hb, with_ne (by omega)⟩⟩
  have hp := hnew.pres hgb
  refine ⟨X.with w' X.w.heap.size (rows.length * sz), rfl, hnew, fun b n hb => ?_, ?_, fun sz' l' hu => ?_⟩
  · show b < w'.heap.size
    by_cases e : b = X.w.heap.size
    · omega
    · rw [with_ne e] at hb
      have := hgb b n hb; omega
  · refine .sl true sz rows X.w.heap.size 0 cap (rows.length * sz) (fun i j => cells.getD (i * sz + j) undef) with_self (by omega) hcap (fun i r hr => hlen r (List.mem_of_getElem? hr)) (fun i j r u hr hu => ?_) (fun i j r u hr hu => ?_)
    · obtain ⟨v, h1, h2⟩ := hrel i j r u hr hu
      show w'.cell? ⟨X.w.heap.size, 0 + i * sz + j, none⟩ = _
      simp [World.cell?, hnewh, h1]
    · obtain ⟨v, h1, h2⟩ := hrel i j r u hr hu
      have : cells.getD (i * sz + j) undef = v := by simp [h1]
      rw [this]; exact h2.mono hp
  · simp only [own1, Option.some.injEq, Prod.mk.injEq] at hu
    obtain ⟨rfl, rfl⟩ := hu
    refine ⟨.inr ⟨X.w.heap.size, cap, cells, el, fr, rfl, with_self, hnewh, hcs, fun j h1 h2 => ?_, fun hF => ?_⟩, fun a n c hx => ?_⟩
    · show w'.frozen? ⟨X.w.heap.size, j, none⟩ = false
      simp only [World.frozen?, hnewh]
      exact hfr j h1 h2
    · exact Nat.lt_irrefl _ (hfb _ hF)
    · cases hx; exact Nat.le_refl _

def AV.cells : AV → List AV
  | .ag cs => cs
  | u => [u]
theorem rel_cells {u : AV} {v : Value} (h : Rel X u v) (hv : ∀ xs, v = .agg xs → ∃ cs, u = .ag cs) : u.cells.length = v.cells.size ∧ ∀ (j : Nat) c y, u.cells[j]? = some c → v.cells[j]? = some y → Rel X c y := by
  cases h with
  | ag us xs hl hr => exact ⟨hl, hr⟩
  | v _ =>
    cases v with
    | agg xs => obtain ⟨cs, hc⟩ := hv xs rfl; cases hc
    | _ => exact ⟨rfl, fun j c y hc hy => by
        cases j with
        | zero => simp [AV.cells, Value.cells] at hc hy; subst hc hy; exact .v _
        | succ j => simp [AV.cells] at hc⟩
  | nil => exact ⟨rfl, fun j c y hc hy => by
      cases j with
      | zero => simp [AV.cells, Value.cells] at hc hy; subst hc hy; exact .nil _ _
      | succ j => simp [AV.cells] at hc⟩
  | sl o sz l b off cap n c hg hn hc hs hm hr => exact ⟨rfl, fun j c y hc' hy => by
      cases j with
      | zero => simp [AV.cells, Value.cells] at hc' hy; subst hc' hy; exact .sl o sz l b off cap n _ hg hn hc hs hm hr
      | succ j => simp [AV.cells] at hc'⟩
  | tu us xs hl hr => exact ⟨rfl, fun j c y hc' hy => by
      cases j with
      | zero => simp [AV.cells, Value.cells] at hc' hy; subst hc' hy; exact .tu us xs hl hr
      | succ j => simp [AV.cells] at hc'⟩
  | el us b off n c hg hn hm hr => exact ⟨rfl, fun j c y hc' hy => by
      cases j with
      | zero => simp [AV.cells, Value.cells] at hc' hy; subst hc' hy; exact .el us b off n _ hg hn hm hr
      | succ j => simp [AV.cells] at hc'⟩
  | fn f us xs hl hr => exact ⟨rfl, fun j c y hc' hy => by
      cases j with
      | zero => simp [AV.cells, Value.cells] at hc' hy; subst hc' hy; exact .fn f us xs hl hr
      | succ j => simp [AV.cells] at hc'⟩
  | ifc t u x hr => exact ⟨rfl, fun j c y hc' hy => by
      cases j with
      | zero => simp [AV.cells, Value.cells] at hc' hy; subst hc' hy; exact .ifc t u x hr
      | succ j => simp [AV.cells] at hc'⟩

end
end Go.Proofs.Ytophpbihcfdkcaa
