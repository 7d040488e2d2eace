-- slim: written by gen/slim.py from XHG.lean.tpl
/- Typed abstract values: a region's operations, in the text's order. -/
import Derived.Test.YtgmlkhfjhogdbaaHF
namespace Go.Proofs.Ytgmlkhfjhogdbaa
open Go.RowKit P
set_option linter.unusedSimpArgs false
set_option linter.unusedVariables false

def appC {α : Type} (by_ : Nat) (l m : List α) : Option (List α) := if (l.length + m.length) * by_ ≤ 140737488355328 then some (l ++ m) else none
/-- append to a slice without spare room -/
def appCl {α : Type} (by_ : Nat) (l m : List α) : Option (List α) := match m with
  | [] => none
  | _ :: _ => appC by_ l m
/-- What is appended. -/
def addT {T : Nat → Type} (t : Ty) : Option (TV T) → Option (List (Den T t))
  | some (.a (.d (.sl t') l)) => castD (.sl t') (.sl t) l
  | some (.a (.own t' l)) => castD (.sl t') (.sl t) l
  | some (.a (.d .str s)) => castD (.sl .byte) (.sl t) s
  | some (.a (.raw (.slice none 0 0))) => some []
  | _ => none
section
variable {E : Env}
/-- The captured boxes. -/
def cbs {T : Nat → Type} : List (TA T) → Option (List Nat)
  | [] => some []
  | .box i 0 :: r => match cbs r with
    | some l => some (i :: l)
    | none => none
  | _ => none
theorem cbs_to : ∀ {l : List (TA E.T)} {is : List Nat}, cbs l = some is → l = is.map fun i => .box i 0
  | [], is, h => by cases h; rfl
  | x :: r, is, h => by
    unfold cbs at h
    split at h
    · rename_i e; cases e
    · rename_i i r' e
      cases e
      split at h
      · rename_i l hl
        cases h
        rw [cbs_to hl]; rfl
      · cases h
    · cases h
end
/-- Cells that may be stored. -/
def TV.cs1 {T : Nat → Type} : TV T → Option (List (TA T))
  | .a x => match x.simple with
    | true => some [x.rd]
    | false => none
  | .ag l => match l.all (fun x => x.simple && x.plain) with
    | true => some l
    | false => none
  | .fn f l => match cbs l with
    | some is => some [.fnb f is]
    | none => none
  | _ => none
/-- What is put into a map. -/
def mval {T : Nat → Type} (t : Ty) : Option (TV T) → Option (Den T t)
  | some (.a (.d t' x)) => castD t' t x
  | some (.a .tt) => castD .bool t (true : Bool)
  | some (.a .ff) => castD .bool t (false : Bool)
  | _ => none
theorem mval_to {E : Env} {ρ : Nat → Nat} {σ : TS E.T} {t : Ty} {y : Operand} {x : Den E.T t} (h : mval t (opT σ y) = some x) : ∃ v, opV (σ.to E.toEnc ρ) y = some v ∧ v.rd = one E.toEnc t x := by
  cases hy : opT σ y with
  | none => rw [hy] at h; cases h
  | some u =>
    rw [hy] at h
    refine ⟨u.to E.toEnc ρ, opT_to hy, ?_⟩
    unfold mval at h
    split at h
    · rename_i t' x' e; cases e
      obtain ⟨e, rfl⟩ := castD_some h
      cases e
      exact one_rd _ _ _
    · rename_i e; cases e
      obtain ⟨e, rfl⟩ := castD_some h
      cases e; rfl
    · rename_i e; cases e
      obtain ⟨e, rfl⟩ := castD_some h
      cases e; rfl
    · cases h
def hasB : List Nat → Nat → Bool
  | [], _ => false
  | k :: r, i => match Nat.beq i k with | true => true | false => hasB r i
/-- Types of what is written in place, and what stands there first. -/
def byA : TypeDesc → Option Ty
  | .int .u8 => some .byte
  | d => mapTy d
def zeroA {T : Nat → Type} (t : Ty) (v : Value) : Option (Den T t) := match t with
  | .byte => match v with
    | .int .u8 n => if ((UInt8.ofNat n.toNat).toNat : Int) = n then some (UInt8.ofNat n.toNat) else none
    | _ => none
  | .int k => zeroM (.int k) v
  | .bool => zeroM .bool v
  | .str => zeroM .str v
  | _ => none
def zerosA {T : Nat → Type} (t : Ty) : List Value → Option (List (Den T t))
  | [] => some []
  | v :: vs => match zeroA t v, zerosA t vs with
    | some z, some zs => some (z :: zs)
    | _, _ => none
def plain1 {T : Nat → Type} : TV T → Bool
  | .a x => x.plain && x.simple
  | _ => false
def setA {α : Type} (l : List α) (o : Nat) (v : α) : Option (List α) := if o < l.length then some (l.set o v) else none
def apnA {α : Type} (l : List α) (n c : Nat) (m : List α) : Option (List α) := if n + m.length ≤ c ∧ n + m.length ≤ l.length then some (l.take n ++ m ++ l.drop (n + m.length)) else none
def makC (by_ : Nat) (n c : Int) : Option (Nat × Nat) := if 0 ≤ n ∧ n ≤ c ∧ (by_ : Int) * c ≤ 281474976710656 ∧ c ≤ 9223372036854775807 then some (n.toNat, c.toNat) else none
def isStrSl : TypeDesc → Bool
  | .string => true
  | .slice _ => true
  | _ => false
section
variable {P : Program} (Y : Tys P) (E : Env) (G : Gam E)
def pureT (σ : TS E.T) (d : Nat) (op : Op) (ty : TypeId) : Tree (TS E.T) :=
  match evP Y E G σ op ty with
  | .one u => .leaf (σ.put d u)
  | .opt o u => .bnd o fun z => .leaf (σ.put d (u z))
  | .bad => .fail
def appT (σ : TS E.T) (d : Nat) (t e : TypeId) (x y : Operand) (sz by_ : Nat) : Tree (TS E.T) :=
  match x with
  | .tmp s => match σ.rootT s with
    | some r => match σ.ownAt r with
      | some ⟨ty, l⟩ => match Nat.beq sz (csz E.toEnc ty), addT ty (opT σ y) with
        | true, some m => .bnd (appC by_ l m) fun r' => .leaf ((σ.lay r).dropC.put d (.a (.own ty r')))
        | _, _ => .fail
      | none => .fail
    | none => match look σ.t s, look E.et t with
      | some (.a (.raw (.slice none 0 0))), some (.sl ty) => match Nat.beq sz (csz E.toEnc ty), addT ty (opT σ y) with
        | true, some m => .bnd (appC by_ [] m) fun r' => .leaf (σ.dropC.put d (.a (.own ty r')))
        | _, _ => .fail
      | some (.a (.clip ty l)), _ => match Nat.beq sz (csz E.toEnc ty), addT ty (opT σ y) with
        | true, some m => .bnd (appCl by_ l m) fun r' => .leaf (σ.dropC.put d (.a (.own ty r')))
        | _, _ => .fail
      | _, _ => .fail
  | .const (.slice none 0 0) => match look E.et t with
    | some (.sl ty) => match Nat.beq sz (csz E.toEnc ty), addT ty (opT σ y) with
      | true, some m => .bnd (appC by_ [] m) fun r' => .leaf (σ.dropC.put d (.a (.own ty r')))
      | _, _ => .fail
    | _ => .fail
  | _ => .fail
def storeP (σ : TS E.T) (t : TypeId) (k o n : Nat) (y : Operand) : Tree (TS E.T) :=
  match look σ.h k, opT σ y with
  | some (.cs cs), some (.a (.raw (.slice none 0 0))) => match look E.et t with
    | some (.sl ty) => match Nat.beq n 1 && Nat.ble (o + 1) cs.length with
      | true => .leaf (σ.setc k (spl cs o [.own ty []]))
      | false => .fail
    | _ => .fail
  | some (.cs cs), some u => match u.cs1 with
    | some vs => match Nat.beq vs.length n && Nat.ble (o + n) cs.length with
      | true => .leaf (σ.setc k (spl cs o (nilC ((look E.ct t).getD []) vs)))
      | false => .fail
    | none => .fail
  | _, _ => .fail
def evOp0 (o : Oper) (σ : TS E.T) : Tree (TS E.T) :=
  match o.dst with
  | some d => match Nat.ble (d + 1) σ.n with
    | true => match o.op with
      | .move (.tmp s) => match look σ.t s with
        | some (.a (.raw _)) => pureT Y E G σ d o.op o.type
        | some u => .leaf (σ.mvT d s u)
        | none => .fail
      | .assign (.tmp s) => match look (σ.freeT d).t s with
        | some (.a (.raw _)) => pureT Y E G σ d o.op o.type
        | some u => .leaf ((σ.freeT d).mvT d s u)
        | none => .fail
      | .pick c x y => match opT σ c with
        | some (.a .tt) => match opT σ x with
          | some u => .leaf (σ.put d u.rd)
          | none => .fail
        | some (.a .ff) => match opT σ y with
          | some u => .leaf (σ.put d u.rd)
          | none => .fail
        | some (.a (.d .bool b)) => match opT σ x, opT σ y with
          | some u, some v => .cond b (.leaf (σ.put d u.rd)) (.leaf (σ.put d v.rd))
          | _, _ => .fail
        | _ => .fail
      | .alloc el => match look Y.zr el, σ.noId d && Nat.ble d 99999 with
        | some zv, true => .leaf ((σ.boxT d (zeroC ((look E.ct el).getD []) zv.cells.toList)).put d (.a (.box d 0)))
        | _, _ => .fail
      | .box el x => match opT σ x, σ.noId d && Nat.ble d 99999 with
        | some u, true => match u.cs1 with
          | some vs => .leaf ((σ.boxT d vs).put d (.a (.box d 0)))
          | none => .fail
        | _, _ => .fail
      | .load t x => match opT σ x, look Y.ty t with
        | some (.a (.box k p)), some dsc => match oneB dsc with
          | true => match look σ.h k with
            | some (.cs cs) => match cs[p]? with
              | some c => .leaf ((σ.put d (.a c.rd)).alias d (.c k p))
              | none => .fail
            | _ => .fail
          | false => pureT Y E G σ d o.op o.type
        | _, _ => pureT Y E G σ d o.op o.type
      | .makeMap t none => match look Y.ty t with
        | some (.map kt et) => match look Y.ty kt, (look Y.ty et).bind mapTy, σ.noId d && Nat.ble d 99999 with
          | some .string, some ty, true => .leaf ((σ.boxM d ty []).put d (.a (.mpr d)))
          | _, _, _ => .fail
        | _ => .fail
      | .call { callee := .builtin .append, args := xs, argTypes := ats } => match xs.toList, ats.toList with
        | [x, y], [t, u] => match look Y.ty t, look Y.ty u with
          | some (.slice e), some du => match look Y.sz e with
            | some (sz, by_) => match isStrSl du && Nat.ble 1 by_ with
              | true => appT E σ d t e x y sz by_
              | false => .fail
            | none => .fail
          | _, _ => .fail
        | _, _ => .fail
      | op => pureT Y E G σ d op o.type
    | false => .fail
  | none => match o.op with
    | .store t x y => match opT σ x, look Y.sz t with
      | some (.a (.box k p)), some (n, _) => match y with
        | .tmp s => match σ.rootT s with
          | some r => match σ.ownAt r with
            | some ⟨ty, l⟩ => match look (σ.lay r).h k with
              | some (.cs cs) => match Nat.beq n 1 && Nat.ble (p + 1) cs.length with
                | true => .leaf ((σ.lay r).setc k (spl cs p [.own ty l]))
                | false => .fail
              | _ => .fail
            | none => storeP E σ t k p n y
          | none => storeP E σ t k p n y
        | y => storeP E σ t k p n y
      | _, _ => .fail
    | .mapUpdate t x y z => match look Y.ty t, opT σ x, asS (opT σ y) with
      | some (.map kt _), some (.a (.mpr k)), some key => match look Y.ty kt, look σ.h k with
        | some .string, some (.smap ty l) => match mval ty (opT σ z) with
          | some v => .leaf (σ.setm k ty (mset l key v))
          | none => .fail
        | _, _ => .fail
      | _, _, _ => .fail
    | _ => .fail
/-! Boxes of elements that are written in place. -/
def evOpB (o : Oper) (σ : TS E.T) : Option (Tree (TS E.T)) :=
  match o.dst, o.op with
  | some d, .alloc el => match look Y.ty el with
    | some (.array _ e) => match (look Y.ty e).bind byA, look Y.zr el, (σ.noId d && Nat.ble d 99999) && Nat.ble (d + 1) σ.n with
      | some ty, some zv, true => match ty.lone, zerosA (T := E.T) ty zv.cells.toList with
        | true, some l => some (.leaf ((σ.boxR d ty l).put d (.a (.box d 0))))
        | _, _ => none
      | _, _, _ => none
    | _ => none
  | some d, .makeSlice t x y => match hasB G.mu d, look Y.ty t, asI (opT σ x), asI (opT σ y) with
    | true, some (.slice e), some (_, n), some (_, c) => match (look Y.ty e).bind byA, look Y.zr e, look Y.sz e, (σ.noId d && Nat.ble d 99999) && Nat.ble (d + 1) σ.n with
      | some ty, some zv, some (1, by_), true => match ty.lone, zerosA (T := E.T) ty zv.cells.toList with
        | true, some [z] => some (.bnd (makC by_ n c) fun p => .leaf ((σ.boxR d ty (List.replicate p.2 z)).put d (.a (.bsl d 0 p.1 p.2))))
        | _, _ => none
      | _, _, _, _ => none
    | _, _, _, _ => none
  | some d, .buildSlice t len ps => match hasB G.mu d, look Y.ty t, look E.et t, opTs σ (ps.toList.map (·.2)) with
    | true, some (.slice e), some (.sl ty), some us => match ty.lone && sz1 Y e, packAll E ty us, (σ.noId d && Nat.ble d 99999) && Nat.ble (d + 1) σ.n, partsOk ps.toList 0 && Nat.beq len ps.toList.length && Nat.ble (len * 1) 16777216 && us.all plain1 with
      | true, some xs, true, true => some (.leaf ((σ.boxR d ty xs).put d (.a (.bsl d 0 len len))))
      | _, _, _, _ => none
    | _, _, _, _ => none
  | some d, .load t x => match opT σ x with
    | some (.a (.box k _)) => match look σ.h k, Nat.ble (d + 1) σ.n with
      | some (.row _ _), true => some (pureT Y E G σ d o.op o.type)
      | _, _ => none
    | _ => none
  | some d, .call { callee := .builtin .append, args := ⟨[x, y]⟩, argTypes := ⟨[t, u]⟩ } => match opT σ x with
    | some (.a (.bsl k 0 n c)) => match look Y.ty t, look Y.ty u, look σ.h k with
      | some (.slice e), some du, some (.row ty l) => match ty.lone && sz1 Y e && isStrSl du && Nat.ble (d + 1) σ.n, addT ty (opT σ y) with
        | true, some m => some (.bnd (apnA l n c m) fun l' => .leaf ((σ.setr k ty l').put d (.a (.bsl k 0 (n + m.length) c))))
        | _, _ => none
      | _, _, _ => none
    | _ => none
  | none, .store t x y => match opT σ x with
    | some (.a (.box k p)) => match look σ.h k with
      | some (.row ty l) => match ty.lone && sz1 Y t, (opT σ y).bind TV.cs1 with
        | true, some [a] => match asD ty a with
          | some v => some (.bnd (setA l p v) fun l' => .leaf (σ.setr k ty l'))
          | none => none
        | _, _ => none
      | _ => none
    | _ => none
  | _, _ => none
def evOp (o : Oper) (σ : TS E.T) : Tree (TS E.T) := match evOpB Y E G o σ with
  | some t => t
  | none => evOp0 Y E G o σ
end
section
variable {P : Program} {Y : Tys P} {E : Env} {G : Gam E} {ρ : Nat → Nat} {σ : TS E.T} {Q : Exit → AS → Prop} {ks : List It} {l : List Oper} {k : Nat} {o : Oper} {rest : List Oper}
/-- Whence one goes on. -/
abbrev On (P : Program) (E : Env) (Q : Exit → AS → Prop) (ρ : Nat → Nat) (its : List It) (σ' : TS E.T) : Prop := ∀ ρ', Inj ρ' σ'.h → Agr ρ ρ' → ARun P Q its (σ'.to E.toEnc ρ')
/-- Whence one goes on, whatever is asked there. -/
abbrev OnE (E : Env) (R : AS → Prop) (A : (Nat → Nat) → Prop) (σ' : TS E.T) : Prop := ∀ ρ', Inj ρ' σ'.h → A ρ' → R (σ'.to E.toEnc ρ')
/-- Does an operation make a box? -/
def creO (mu : List Nat) (o : Oper) : Bool := match o.op with
  | .alloc _ | .box _ _ | .makeMap _ _ => true
  | _ => match o.dst with
    | some d => hasB mu d
    | none => false
def Low (R : AS → Prop) : Prop := ∀ σ σ' : AS, σ.n = σ'.n → SubS σ σ' → R σ' → R σ
section
variable {R : AS → Prop} {A : (Nat → Nat) → Prop}
theorem Low.low {σ σ' : AS} (h : Low R) (hr : R σ') (hs : SubS σ σ') (hn : σ.n = σ'.n) : R σ := h σ σ' hn hs hr
theorem low_arun {it : It} (hit : (match it with | .c _ => true | .o _ _ _ => true | _ => false) = true) : Low (fun τ => ARun P Q (it :: ks) τ) := fun _ _ _ hs h => ar_subO hit hs h
theorem eff_op {o : Oper} {σ : AS} {d : Nat} {u : AV} (hdst : o.dst = some d) (hd : Nat.ble (d + 1) σ.n = true) (h : OpV P o σ u) (hn : R (σ.put d u)) : EffOp P o σ R := fun F X a hs =>
  (h F X a (hs.r o.op)).mono fun x w' ⟨X', h1, h2, h3, h4, h5⟩ => ⟨X', σ.put d u, h1, hn, by rw [hdst]; exact hs.put_new (lt_of_ble hd) h2 h3 h4 h5, h2.ext hs.gb hs.fb⟩
theorem eff_move_sl {σ : AS} {d s : Nat} {u : AV} {ty : TypeId} {pos : String} {af : Array Edge} {g : Option (Nat × Bool)} (hd : Nat.ble (d + 1) σ.n = true) (hu : look σ.t s = some u) (hn : R (σ.mv d s u)) : EffOp P ⟨some d, .move (.tmp s), ty, pos, af, g⟩ σ R := fun F X a hs =>
  runs_value (x := a.eval (.tmp s)) (w' := X.w) rfl ⟨X, _, rfl, hn, hs.mv (lt_of_ble hd) hu, Ext.refl F X⟩
theorem eff_assign_sl {σ : AS} {d s : Nat} {u : AV} {ty : TypeId} {pos : String} {af : Array Edge} {g : Option (Nat × Bool)} (hd : Nat.ble (d + 1) σ.n = true) (hu : look (σ.free d).t s = some u) (hn : R ((σ.free d).mv d s u)) : EffOp P ⟨some d, .assign (.tmp s), ty, pos, af, g⟩ σ R := fun F X a hs =>
  runs_value (x := a.eval (.tmp s)) (w' := X.w) rfl ⟨X, _, rfl, hn, (hs.free d).mv (by rw [free_n]; exact lt_of_ble hd) hu, Ext.refl F X⟩
theorem eff_load_own {σ : AS} {d b o : Nat} {cs : List AV} {u : AV} {t ty : TypeId} {x : Operand} {pos : String} {af : Array Edge} {g : Option (Nat × Bool)} {T : Tys P} {dsc : TypeDesc} (hd : Nat.ble (d + 1) σ.n = true) (hx : opV σ x = some (.v (.pointer (some ⟨b, o, none⟩)))) (hb : look σ.h b = some cs) (hu : cs[o]? = some u) (h0 : look T.ty t = some dsc) (h1 : oneB dsc = true)
    (hm : u.isMp = false) (hn : R ((σ.put d u.rd).alias d (.c b o))) : EffOp P ⟨some d, .load t x, ty, pos, af, g⟩ σ R := by
  intro F X a hs
  have e1 := opV_val (hs.r (.load t x)) (by simp [Op.operands]) hx
  obtain ⟨b1, b2, arr, e, fr, b3, b4, b5, b6⟩ := (hs.box b cs hb).at hu hm
  have hlt := (List.getElem?_eq_some_iff.1 hu).1
  have hx : arr[o]? = some arr[o] := Array.getElem?_eq_getElem (by omega)
  have hc : X.w.cell? ⟨b, o, none⟩ = some arr[o] := by simp only [World.cell?, b3]; exact hx
  refine runs_value (x := arr[o]) (w' := X.w) (by simp only [execOp, e1]; exact run_val (run_load1 (T.tyOk _ _ h0) h1 hc)) ⟨X, _, rfl, hn, ?_, Ext.refl F X⟩
  have hput := hs.put_new (lt_of_ble hd) (New.refl X) hs.gb (b6 o u _ hu hx).rd (FreshOk.plain (plain_rd u))
  refine hput.alias ?_
  simp only [rootV]
  rw [getD_set_self (by rw [hs.size]; exact lt_of_ble hd), hc]
theorem pureT_eff {d : Nat} (hi : Inj ρ σ.h) (hG : GOk P Y E G) (hA0 : A ρ) (hdst : o.dst = some d) (hd : Nat.ble (d + 1) σ.n = true)
    (h : (pureT Y E G σ d o.op o.type).holds (OnE E R A)) : EffOp P o (σ.to E.toEnc ρ) R := by
  have hok := evP_ok (Y := Y) (σ := σ) (d := o.dst) (ty := o.type) (pos := o.pos) (af := o.after) (g := o.guard) hi hG o.op
  unfold pureT at h
  cases hp : evP Y E G σ o.op o.type with
  | one u =>
    rw [hp] at h hok
    refine eff_op hdst hd hok ?_
    rw [← put_to]
    exact h ρ hi hA0
  | opt q u =>
    rw [hp] at h hok
    obtain ⟨z, hz, h⟩ := h
    refine eff_op hdst hd (hok z hz) ?_
    rw [← put_to]
    exact h ρ hi hA0
  | bad => rw [hp] at h; cases h
theorem lay_inj (hi : Inj ρ σ.h) (r : Root) : Inj ρ (σ.lay r).h := hi.sub (lay_ids σ r)
theorem addT_to {t : Ty} {y : Operand} {m : List (Den E.T t)} (h : addT t (opT σ y) = some m) : ∃ v S, opV (σ.to E.toEnc ρ) y = some v ∧ addE (csz E.toEnc t) v = some (m.map (cells E.toEnc t), S) ∧ S := by
  have hone : ∀ (t : Ty) (m : List (Den E.T t)), RowsOne (m.map (cells E.toEnc t)) := fun t m r hr u hu => by
    obtain ⟨x, _, rfl⟩ := List.mem_map.1 hr
    exact (cellsT_one E.toEnc t x u hu).1
  cases hy : opT σ y with
  | none => rw [hy] at h; cases h
  | some u =>
    rw [hy] at h
    refine ⟨u.to E.toEnc ρ, ?_⟩
    rw [opT_to hy]
    have hrow : ∀ (l : List (Den E.T t)), (match Nat.beq (csz E.toEnc t) (csz E.toEnc t) with | true => some (l.map (cells E.toEnc t), RowsOne (l.map (cells E.toEnc t))) | false => none) = some (l.map (cells E.toEnc t), RowsOne (l.map (cells E.toEnc t))) := fun l => by rw [Nat.beq_refl]
    cases u with
    | a x =>
      cases x with
      | d t' x =>
        cases t' with
        | sl t' =>
          obtain ⟨e, rfl⟩ := castD_some (show castD (.sl t') (.sl t) x = some m from h)
          cases e
          exact ⟨_, rfl, hrow _, hone _ _⟩
        | str =>
          obtain ⟨e, rfl⟩ := castD_some (show castD (.sl .byte) (.sl t) x = some m from h)
          cases e
          exact ⟨True, rfl, rfl, trivial⟩
        | _ => cases h
      | own t' l =>
        obtain ⟨e, rfl⟩ := castD_some (show castD (.sl t') (.sl t) l = some m from h)
        cases e
        exact ⟨_, rfl, hrow _, hone _ _⟩
      | raw v =>
        cases v with
        | slice a n c =>
          cases a <;> cases n <;> cases c <;> first
            | (have h' : some [] = some m := h
               cases h'
               exact ⟨True, rfl, rfl, trivial⟩)
            | cases h
        | _ => cases h
      | _ => cases h
    | _ => cases h
theorem appC_some {α : Type} {by_ : Nat} {l m r : List α} (h : appC by_ l m = some r) : (l.length + m.length) * by_ ≤ 140737488355328 ∧ r = l ++ m := by
  unfold appC at h
  split at h
  · rename_i h0; cases h; exact ⟨h0, rfl⟩
  · cases h
theorem constT_noId {T : Nat → Type} (d : Nat) (v : Value) : (constT v : TV T).noId d = true := by
  cases v with
  | int k n =>
    cases k with
    | u8 => unfold constT; simp only; split <;> rfl
    | _ => rfl
  | bool b => cases b <;> rfl
  | agg xs => simp [constT, TV.noId, TA.noId]
  | tuple xs => simp [constT, TV.noId, TC.noId, TA.noId]
  | _ => rfl
theorem appT_eff {d : Nat} {x y : Operand} {t u e : TypeId} {du : TypeDesc} {sz by_ : Nat} (hi : Inj ρ σ.h) (hA0 : A ρ)
    (hop : o = ⟨some d, .call { callee := .builtin .append, args := #[x, y], argTypes := #[t, u] }, o.type, o.pos, o.after, o.guard⟩) (hd : Nat.ble (d + 1) σ.n = true) (ht : look Y.ty t = some (.slice e)) (hu : look Y.ty u = some du) (hnz : isStrSl du = true) (hz : look Y.sz e = some (sz, by_)) (hb : Nat.ble 1 by_ = true)
    (h : (appT E σ d t e x y sz by_).holds (OnE E R A)) : EffOp P o (σ.to E.toEnc ρ) R := by
  have nilCase : ∀ (ty : Ty), opV (σ.to E.toEnc ρ) x = some (.v (.slice none 0 0)) → (match Nat.beq sz (csz E.toEnc ty), addT ty (opT σ y) with
        | true, some m => Tree.bnd (appC by_ [] m) fun r' => .leaf (σ.dropC.put d (.a (.own ty r')))
        | _, _ => .fail).holds (OnE E R A) → EffOp P o (σ.to E.toEnc ρ) R := by
    intro ty hx hh
    split at hh
    · rename_i m hs hm
      obtain ⟨r', hr, hh⟩ := hh
      obtain ⟨h1, h2⟩ := appC_some hr
      obtain ⟨v, S, k1, k2, k3⟩ := addT_to (ρ := ρ) hm
      have hs' := beq_of hs
      subst hs'
      have heff := effTo_append_nil (P := P) (T := Y) (d := d) (ty := o.type) (pos := o.pos) (af := o.after) (g := o.guard) hx ht hu (by cases du <;> first | rfl | cases hnz) hz hb k1 k2 hd k3 (by simpa using h1)
      rw [hop]
      refine heff _ ?_
      have := hh ρ hi hA0
      rw [put_to, dropC_to, h2, List.nil_append] at this
      exact this
    · cases hh
  unfold appT at h
  split at h
  · rename_i s
    split at h
    · rename_i r hr
      split at h
      · rename_i ty L hown
        split at h
        · rename_i m hs hm
          obtain ⟨r', hr', h⟩ := h
          obtain ⟨h1, h2⟩ := appC_some hr'
          obtain ⟨v, S, k1, k2, k3⟩ := addT_to (ρ := ρ) hm
          have hs' := beq_of hs
          subst hs'
          have heff := effTo_append (P := P) (T := Y) (d := d) (ty := o.type) (pos := o.pos) (af := o.after) (g := o.guard) (rootT_to hr) (ownAt_to σ hi hown) ht hu (by cases du <;> first | rfl | cases hnz) hz hb k1 k2 hd k3 (by simpa using h1)
          rw [hop]
          refine heff _ ?_
          have := h ρ (lay_inj hi r) hA0
          rw [put_to, dropC_to, lay_to σ hi hown, h2] at this
          have e2 : (TV.a (TA.own ty (L ++ m)) : TV E.T).to E.toEnc ρ = .sl true (csz E.toEnc ty) (L.map (cells E.toEnc ty) ++ m.map (cells E.toEnc ty)) := by
            show AV.sl true _ (List.map _ (L ++ m)) = _
            rw [List.map_append]
          rw [e2] at this
          exact this
        · cases h
      · cases h
    · split at h
      · rename_i ty hx hty
        exact nilCase ty (opT_to (x := .tmp s) hx) h
      · rename_i ty L hx
        split at h
        · rename_i m hs hm
          obtain ⟨r', hr, hh⟩ := h
          have hr2 : m ≠ [] ∧ appC by_ L m = some r' := by
            unfold appCl at hr
            split at hr
            · cases hr
            · exact ⟨by simp, hr⟩
          obtain ⟨h1, h2⟩ := appC_some hr2.2
          obtain ⟨v, S, k1, k2, k3⟩ := addT_to (ρ := ρ) hm
          have hs' := beq_of hs
          subst hs'
          have heff := eff_append_cl (P := P) (T := Y) (σ := σ.to E.toEnc ρ) (d := d) (ty := o.type) (pos := o.pos) (af := o.after) (g := o.guard) (L := L.map (cells E.toEnc ty)) (m := m.map (cells E.toEnc ty)) (opT_to (x := .tmp s) hx) ht hu (by cases du <;> first | exact .inl rfl | exact .inr ⟨_, rfl⟩ | cases hnz) hz hb (addE_ok k1 k2 k3) (by simpa using h1) (by simpa using hr2.1) hd (R := R)
          rw [hop]
          refine heff ?_
          have := hh ρ hi hA0
          rw [put_to, dropC_to, h2] at this
          have e2 : (TV.a (TA.own ty (L ++ m)) : TV E.T).to E.toEnc ρ = .sl true (csz E.toEnc ty) (L.map (cells E.toEnc ty) ++ m.map (cells E.toEnc ty)) := by
            show AV.sl true _ (List.map _ (L ++ m)) = _
            rw [List.map_append]
          rw [e2] at this
          exact this
        · cases h
      · cases h
  · split at h
    · rename_i ty hty
      exact nilCase ty rfl h
    · cases h
  · cases h
theorem simple_one {x : TA E.T} (h : x.simple = true) : (x.to E.toEnc ρ).one = true := by
  cases x with
  | d t x =>
    cases t with
    | nam i => cases h
    | ptr t => cases x <;> rfl
    | _ => rfl
  | clip t l => cases h
  | raw v => cases v <;> first | rfl | cases h
  | _ => rfl
theorem simple_rd {x : TA E.T} (h : x.simple = true) : x.rd.simple = true := by
  cases x <;> first | exact h | rfl
theorem rd_plain (x : TA E.T) : x.rd.plain = true := by cases x <;> rfl
theorem simple_cells {x : TA E.T} (h : x.simple = true) : (x.to E.toEnc ρ).cells = [x.to E.toEnc ρ] ∧ (x.to E.toEnc ρ).okc = true := by
  cases x with
  | d t x =>
    cases t with
    | nam i => cases h
    | ptr t => cases x <;> exact ⟨rfl, rfl⟩
    | _ => exact ⟨rfl, rfl⟩
  | raw v => cases v <;> first | exact ⟨rfl, rfl⟩ | cases h
  | _ => exact ⟨rfl, rfl⟩
theorem cs1_to {u : TV E.T} {vs : List (TA E.T)} (h : u.cs1 = some vs) : (u.to E.toEnc ρ).okc = true ∧ (u.to E.toEnc ρ).rd.cells = vs.map (TA.to E.toEnc ρ) ∧ ((u.to E.toEnc ρ).rd.cells.all AV.one) = true ∧ ((u.to E.toEnc ρ).rd.cells.all fun u => (own1 (some u)).isNone) = true := by
  unfold TV.cs1 at h
  split at h
  · rename_i x
    split at h
    · rename_i hs
      cases h
      obtain ⟨h1, h2⟩ := simple_cells (ρ := ρ) hs
      obtain ⟨h3, h4⟩ := simple_cells (ρ := ρ) (simple_rd hs)
      have e : ((TV.a x : TV E.T).to E.toEnc ρ).rd.cells = [x.rd.to E.toEnc ρ] := by
        show (x.to E.toEnc ρ).rd.cells = _
        rw [← TA.rd_to, h3]
      refine ⟨h2, e, ?_, ?_⟩
      · rw [e]; simp only [List.all_cons, List.all_nil, Bool.and_true]; exact simple_one (simple_rd hs)
      · rw [e]; simp only [List.all_cons, List.all_nil, Bool.and_true, TA.plain_to _ _ (rd_plain x)]; rfl
    · cases h
  · rename_i l
    split at h
    · rename_i hs
      cases h
      refine ⟨rfl, rfl, ?_, ?_⟩
      · show (vs.map (TA.to E.toEnc ρ)).all AV.one = true
        rw [List.all_map, List.all_eq_true]
        intro x hx
        have := List.all_eq_true.1 hs x hx
        simp only [Bool.and_eq_true] at this
        exact simple_one this.1
      · show (vs.map (TA.to E.toEnc ρ)).all (fun u => (own1 (some u)).isNone) = true
        rw [List.all_map, List.all_eq_true]
        intro x hx
        have := List.all_eq_true.1 hs x hx
        simp only [Bool.and_eq_true] at this
        simp only [Function.comp, TA.plain_to _ _ this.2]; rfl
    · cases h
  · rename_i f l
    split at h
    · rename_i is hc
      cases h
      have e : (TV.fn f l : TV E.T).to E.toEnc ρ = (TA.fnb f is : TA E.T).to E.toEnc ρ := by
        rw [cbs_to hc]
        simp only [TV.to, TA.to, List.map_map]
        rfl
      rw [e]
      exact ⟨rfl, rfl, rfl, rfl⟩
    · cases h
  · cases h
theorem setc_inj {k : Nat} {b : TB E.T} (hi : Inj ρ σ.h) (hb : look σ.h k = some b) (cs : List (TA E.T)) : Inj ρ (σ.setc k cs).h := inj_cons hi hb
theorem storeP_eff {t : TypeId} {kk p n by_ : Nat} {x y : Operand} (hi : Inj ρ σ.h) (hR : Low R) (hA0 : A ρ) (hop : o = ⟨none, .store t x y, o.type, o.pos, o.after, o.guard⟩)
    (hx : opT σ x = some (.a (.box kk p))) (hz : look Y.sz t = some (n, by_)) (h : (storeP E σ t kk p n y).holds (OnE E R A)) : EffOp P o (σ.to E.toEnc ρ) R := by
  unfold storeP at h
  split at h
  · rename_i cs hb hy
    split at h
    · rename_i ty hty
      split at h
      · rename_i hc
        simp only [Bool.and_eq_true] at hc
        have hn := beq_of hc.1
        subst hn
        rw [hop]
        have heff := effTo_store (P := P) (T := Y) (ty := o.type) (pos := o.pos) (af := o.after) (g := o.guard) (u0 := .v (.slice none 0 0)) (opT_to (ρ := ρ) hx) (look_box hi hb) (opT_to (ρ := ρ) hy) rfl hz rfl rfl rfl (by simpa using hc.2) (notMpB cs)
        refine heff _ ?_
        refine hR.low (h ρ (setc_inj hi hb _) hA0) (fun F X tm hs => ?_) rfl
        refine hs.le2 rfl (fun t u' hu => ⟨u', hu, .refl _⟩) (fun q cs' hq => ?_) (fun p hp => ?_)
        · have e : ((σ.setc kk (spl cs p [.own ty []])).to E.toEnc ρ).h = (ρ kk, (spl cs p [.own ty []]).map (TA.to E.toEnc ρ)) :: hTo E.toEnc ρ σ.h := rfl
          rw [e, look_cons] at hq
          have e2 : ((σ.to E.toEnc ρ).setc (ρ kk) (splice (cs.map (TA.to E.toEnc ρ)) p (AV.rd (.v (.slice none 0 0))).cells)).h = (ρ kk, splice (cs.map (TA.to E.toEnc ρ)) p [.v (.slice none 0 0)]) :: hTo E.toEnc ρ σ.h := rfl
          rw [e2, look_cons]
          split at hq
          · rename_i e3
            rw [if_pos e3]
            cases hq
            refine ⟨_, rfl, ?_⟩
            rw [map_spl]
            unfold splice
            exact ((LeL.refl _).append (.cons (.nil _ _) .nil)).append (LeL.refl _)
          · rename_i e3
            rw [if_neg e3]
            exact ⟨cs', hq, LeL.refl _⟩
        · rw [setc_to] at hp; exact hp
      · cases h
    · cases h
  · rename_i cs u hnn hb hy
    split at h
    · rename_i vs hvs
      split at h
      · rename_i hc
        simp only [Bool.and_eq_true] at hc
        obtain ⟨c1, c2, c3, c4⟩ := cs1_to (ρ := ρ) hvs
        rw [hop]
        have heff := effTo_store (P := P) (T := Y) (ty := o.type) (pos := o.pos) (af := o.after) (g := o.guard) (opT_to (ρ := ρ) hx) (look_box hi hb) (opT_to (ρ := ρ) hy) c1 hz (by rw [c2, List.length_map]; exact hc.1) c3 c4 (by simpa using hc.2) (notMpB cs)
        refine heff _ ?_
        have hle := nilC_to (E := E) (ρ := ρ) ((look E.ct t).getD []) vs
        refine hR.low (h ρ (setc_inj hi hb _) hA0) (fun F X tm hs => ?_) rfl
        refine hs.le2 rfl (fun t u' hu => ⟨u', hu, .refl _⟩) (fun q cs' hq => ?_) (fun pp hp => ?_)
        · have e : ((σ.setc kk (spl cs p (nilC ((look E.ct t).getD []) vs))).to E.toEnc ρ).h = (ρ kk, (spl cs p (nilC ((look E.ct t).getD []) vs)).map (TA.to E.toEnc ρ)) :: hTo E.toEnc ρ σ.h := rfl
          rw [e, look_cons] at hq
          have e2 : ((σ.to E.toEnc ρ).setc (ρ kk) (splice (cs.map (TA.to E.toEnc ρ)) p (u.to E.toEnc ρ).rd.cells)).h = (ρ kk, splice (cs.map (TA.to E.toEnc ρ)) p (u.to E.toEnc ρ).rd.cells) :: hTo E.toEnc ρ σ.h := rfl
          rw [e2, look_cons]
          split at hq
          · rename_i e3
            rw [if_pos e3]
            cases hq
            refine ⟨_, rfl, ?_⟩
            rw [map_spl, c2]
            unfold splice
            rw [hle.length]
            exact ((LeL.refl _).append hle).append (LeL.refl _)
          · rename_i e3
            rw [if_neg e3]
            exact ⟨cs', hq, LeL.refl _⟩
        · rw [setc_to] at hp; exact hp
      · cases h
    · cases h
  · cases h
theorem evOp0_eff (hi : Inj ρ σ.h) (hG : GOk P Y E G) (hR : Low R) (hA0 : A ρ) (hA1 : creO G.mu o = true → ∀ d b, Nat.ble d 99999 = true → A (upd ρ d b)) (h : (evOp0 Y E G o σ).holds (OnE E R A)) : EffOp P o (σ.to E.toEnc ρ) R := by
  obtain ⟨dst, op, ty, pos, af, g⟩ := o
  unfold evOp0 at h
  simp only at h
  split at h
  · rename_i d
    split at h
    · rename_i hd
      split at h
      · rename_i s
        split at h
        · exact pureT_eff (Y := Y) hi hG hA0 rfl hd h
        · rename_i u hn hu
          refine eff_move_sl hd (u := u.to E.toEnc ρ) (by simp only [TS.to, look_tTo, hu]; rfl) ?_
          have := h ρ (by rw [mvT_h]; exact hi) hA0
          rw [← mvT_to hu (fun v e => hn v e)] at this
          exact this
        · cases h
      · rename_i s
        split at h
        · exact pureT_eff (Y := Y) hi hG hA0 rfl hd h
        · rename_i u hn hu
          refine eff_assign_sl hd (u := u.to E.toEnc ρ) (by rw [← freeT_to]; simp only [TS.to, look_tTo, hu]; rfl) ?_
          have := h ρ (by rw [mvT_h, freeT_h]; exact hi) hA0
          rw [← mvT_to hu (fun v e => hn v e), freeT_to] at this
          exact this
        · cases h
      · rename_i c x y
        split at h
        · rename_i hc
          split at h
          · rename_i u hu
            refine eff_op rfl hd (opv_pickt (b := true) (opT_to hc) rfl (opT_to hu)) ?_
            have := h ρ hi hA0
            rw [put_to, TV.rd_to] at this
            exact this
          · cases h
        · rename_i hc
          split at h
          · rename_i u hu
            refine eff_op rfl hd (opv_pickf (b := false) (opT_to hc) rfl (opT_to hu)) ?_
            have := h ρ hi hA0
            rw [put_to, TV.rd_to] at this
            exact this
          · cases h
        · rename_i b hc
          split at h
          · rename_i u v hu hv
            cases hb : b with
            | true =>
              refine eff_op rfl hd (opv_pickt (b := b) (opT_to hc) hb (opT_to hu)) ?_
              have := h.1 hb ρ hi hA0
              rw [put_to, TV.rd_to] at this
              exact this
            | false =>
              refine eff_op rfl hd (opv_pickf (b := b) (opT_to hc) hb (opT_to hv)) ?_
              have := h.2 hb ρ hi hA0
              rw [put_to, TV.rd_to] at this
              exact this
          · cases h
        · cases h
      · rename_i el
        split at h
        · rename_i zv hz hn'
          simp only [Bool.and_eq_true] at hn'
          obtain ⟨hn, hnb⟩ := hn'
          refine eff_alloc (T := Y) hz hd fun b hb => ?_
          have := h (upd ρ d b) (boxT_inj hi hn hb) (hA1 rfl d b hnb)
          refine hR.low this (fun F X tm hs => ?_) rfl
          rw [put_to]
          have e : ((σ.boxT d (zeroC ((look E.ct el).getD []) zv.cells.toList)).to E.toEnc (upd ρ d b)) = (σ.to E.toEnc ρ).box b ((zeroC ((look E.ct el).getD []) zv.cells.toList).map (TA.to E.toEnc (upd ρ d b))) := by
            have h1 := TS.upd_to (ρ := ρ) (k := b) hn
            unfold TS.to at h1
            injection h1 with _ h2 h3 h4
            have hdd : upd ρ d b d = b := by unfold upd; rw [if_pos rfl]
            unfold TS.to TS.boxT AS.box
            simp only [hTo, List.map_cons, hdd]
            simp only [hTo] at h3
            rw [h2, h3, h4]; rfl
          have e2 : (TV.a (TA.box d 0) : TV E.T).to E.toEnc (upd ρ d b) = .v (.pointer (some ⟨b, 0, none⟩)) := by
            show AV.v (.pointer (some ⟨upd ρ d b d, 0, none⟩)) = _
            unfold upd; rw [if_pos rfl]
          rw [e, e2]
          refine hs.le2 rfl (fun t u' hu => ⟨u', hu, .refl _⟩) (fun q cs' hq => ?_) (fun p hp => hp)
          simp only [AS.put, AS.box, look_cons] at hq ⊢
          split at hq
          · rename_i e3
            rw [if_pos e3]
            cases hq
            exact ⟨_, rfl, zeroC_to _ _⟩
          · rename_i e3
            rw [if_neg e3]
            exact ⟨cs', hq, LeL.refl _⟩
        · cases h
      · rename_i el x
        split at h
        · rename_i u hx hn'
          simp only [Bool.and_eq_true] at hn'
          obtain ⟨hn, hnb⟩ := hn'
          split at h
          · rename_i vs hvs
            obtain ⟨c1, c2, c3, c4⟩ := cs1_to (ρ := ρ) hvs
            refine eff_boxB (opT_to (ρ := ρ) hx) c1 c4 hd fun b hb => ?_
            have := h (upd ρ d b) (boxT_inj hi hn hb) (hA1 rfl d b hnb)
            rw [put_to] at this
            have hnv : vs.all (TA.noId d) = true ∨ True := .inr trivial
            have e2 : (TV.a (TA.box d 0) : TV E.T).to E.toEnc (upd ρ d b) = .v (.pointer (some ⟨b, 0, none⟩)) := by
              show AV.v (.pointer (some ⟨upd ρ d b d, 0, none⟩)) = _
              unfold upd; rw [if_pos rfl]
            have hvu : vs.map (TA.to E.toEnc (upd ρ d b)) = vs.map (TA.to E.toEnc ρ) := by
              refine mapTA_upd ?_
              have hu : u.noId d = true := by
                cases x with
                | tmp t =>
                  simp only [opT] at hx
                  unfold TS.noId at hn
                  simp only [Bool.and_eq_true] at hn
                  exact List.all_eq_true.1 hn.1.1 _ (look_mem hx)
                | const v => cases hx; exact constT_noId d v
                | func f => cases hx; rfl
                | global g => cases hx; rfl
              unfold TV.cs1 at hvs
              split at hvs
              · rename_i x0
                split at hvs
                · cases hvs
                  simp only [List.all_cons, List.all_nil, Bool.and_true]
                  cases x0 <;> first | exact hu | rfl
                · cases hvs
              · split at hvs
                · cases hvs; exact hu
                · cases hvs
              · rename_i f l
                split at hvs
                · rename_i is hc
                  cases hvs
                  have hu' : l.all (TA.noId d) = true := hu
                  rw [cbs_to hc] at hu'
                  simp only [List.all_map] at hu'
                  simp only [List.all_cons, List.all_nil, Bool.and_true]
                  exact hu'
                · cases hvs
              · cases hvs
            have e : ((σ.boxT d vs).to E.toEnc (upd ρ d b)) = (σ.to E.toEnc ρ).box b (vs.map (TA.to E.toEnc ρ)) := by
              have h1 := TS.upd_to (ρ := ρ) (k := b) hn
              unfold TS.to at h1
              injection h1 with _ h2 h3 h4
              have hdd : upd ρ d b d = b := by unfold upd; rw [if_pos rfl]
              unfold TS.to TS.boxT AS.box
              simp only [hTo, List.map_cons, hdd]
              simp only [hTo] at h3
              rw [h2, h3, h4, ← hvu]; rfl
            rw [e, e2, ← c2] at this
            exact this
          · cases h
        · cases h
      · rename_i t x
        split at h
        · rename_i kk p dsc hx h0
          split at h
          · rename_i h1
            split at h
            · rename_i cs hb
              split at h
              · rename_i c hc
                have := h ρ hi hA0
                rw [alias_to, put_to] at this
                refine eff_load_own (T := Y) hd (opT_to (ρ := ρ) hx) (look_box hi hb) (u := c.to E.toEnc ρ) (by simp [hc]) h0 h1 (TA.to_notMp _ _ _) ?_
                have e : (TV.a c.rd : TV E.T).to E.toEnc ρ = (c.to E.toEnc ρ).rd := TA.rd_to _ _ _
                rw [e] at this
                exact this
              · cases h
            · cases h
          · exact pureT_eff (Y := Y) hi hG hA0 rfl hd h
        · exact pureT_eff (Y := Y) hi hG hA0 rfl hd h
      · rename_i t
        split at h
        · rename_i kt et h0
          split at h
          · rename_i ty' hk het hn'
            simp only [Bool.and_eq_true] at hn'
            obtain ⟨hn, hnb⟩ := hn'
            refine eff_makemap_s (T := Y) rfl h0 hk hd fun b hb => ?_
            have := h (upd ρ d b) ((boxT_inj (cs := []) hi hn hb).sub fun p hp => by
              rcases List.mem_cons.1 hp with rfl | hp
              · exact ⟨_, List.mem_cons_self, rfl⟩
              · exact ⟨p, List.mem_cons_of_mem _ hp, rfl⟩) (hA1 rfl d b hnb)
            rw [put_to] at this
            have e : ((σ.boxM d ty' []).to E.toEnc (upd ρ d b)) = (σ.to E.toEnc ρ).box b [smap []] := by
              have h1 := TS.upd_to (ρ := ρ) (k := b) hn
              unfold TS.to at h1
              injection h1 with _ h2 h3 h4
              have hdd : upd ρ d b d = b := by unfold upd; rw [if_pos rfl]
              unfold TS.to TS.boxM AS.box
              simp only [hTo, List.map_cons, hdd]
              simp only [hTo] at h3
              rw [h2, h3, h4]; rfl
            have e2 : (TV.a (TA.mpr d) : TV E.T).to E.toEnc (upd ρ d b) = .v (.map (some b)) := by
              show AV.v (.map (some (upd ρ d b d))) = _
              unfold upd; rw [if_pos rfl]
            rw [e, e2] at this
            exact this
          · cases h
        · cases h
      · rename_i xs ats
        split at h
        · rename_i x y t u hxs hats
          have hxs' : xs = #[x, y] := by cases xs; simp at hxs; subst hxs; rfl
          have hats' : ats = #[t, u] := by cases ats; simp at hats; subst hats; rfl
          subst hxs' hats'
          split at h
          · rename_i e du ht hu
            split at h
            · rename_i sz by_ hz
              split at h
              · rename_i hc
                simp only [Bool.and_eq_true] at hc
                exact appT_eff (Y := Y) hi hA0 rfl hd ht hu hc.1 hz hc.2 h
              · cases h
            · cases h
          · cases h
        · cases h
      · exact pureT_eff (Y := Y) hi hG hA0 rfl hd h
    · cases h
  · split at h
    · rename_i t x y
      split at h
      · rename_i kk p n by_ hx hz
        split at h
        · rename_i s
          split at h
          · rename_i r hr
            split at h
            · rename_i ty' L hown
              split at h
              · rename_i cs hb
                split at h
                · rename_i hc
                  simp only [Bool.and_eq_true] at hc
                  have hn := beq_of hc.1
                  subst hn
                  have hi' := lay_inj (σ := σ) hi r
                  have hlk : look ((σ.to E.toEnc ρ).lay (r.to ρ)).h (ρ kk) = some (cs.map (TA.to E.toEnc ρ)) := by
                    rw [← lay_to σ hi hown]; exact look_hTo E.toEnc hi' hb
                  have heff := effTo_store_own (P := P) (T := Y) (ty := ty) (pos := pos) (af := af) (g := g) (opT_to (ρ := ρ) hx) (rootT_to hr) (ownAt_to σ hi hown) hlk hz (by simpa using hc.2) (notMpB cs)
                  refine heff _ ?_
                  have := h ρ (setc_inj hi' hb _) hA0
                  rw [setc_to, map_spl, lay_to σ hi hown] at this
                  exact this
                · cases h
              · cases h
            · exact storeP_eff (Y := Y) hi hR hA0 rfl hx hz h
          · exact storeP_eff (Y := Y) hi hR hA0 rfl hx hz h
        · exact storeP_eff (Y := Y) hi hR hA0 rfl hx hz h
      · cases h
    · rename_i t x y z
      split at h
      · rename_i kt et kk key h0 hx hy
        split at h
        · rename_i ty' l hk hb
          split at h
          · rename_i v hv
            obtain ⟨u, hu1, hu2⟩ := mval_to (ρ := ρ) hv
            have hb' : look (σ.to E.toEnc ρ).h (ρ kk) = some [smap (l.map fun p => (p.1, one E.toEnc ty' p.2))] := look_hTo E.toEnc hi hb
            refine eff_mapset_s (T := Y) (opT_to (ρ := ρ) hx) hb' (asS_to hy) hu1 h0 hk ?_
            rw [hu2, lset_map]
            have := h ρ (inj_cons hi hb) hA0
            rw [setm_to] at this
            exact this
          · cases h
        · cases h
      · cases h
    · cases h
/-! ### Boxes of elements that are written in place -/
theorem zeroA_to {t : Ty} {v : Value} {z : Den E.T t} (h : zeroA t v = some z) : AV.v v = one E.toEnc t z := by
  cases t with
  | byte =>
    cases v with
    | int k n =>
      cases k with
      | u8 =>
        simp only [zeroA] at h
        split at h
        · rename_i hn
          cases h
          show _ = AV.v (.int .u8 ((UInt8.ofNat n.toNat).toNat : Int))
          rw [hn]
        · cases h
      | _ => cases h
    | _ => cases h
  | int k =>
    have h' : zeroM (.int k) v = some z := h
    cases v with
    | int k' n => exact (zeroM_to (E := E.toEnc) h').1
    | _ => cases h'
  | bool =>
    have h' : zeroM .bool v = some z := h
    cases v with
    | bool b => exact (zeroM_to (E := E.toEnc) h').1
    | _ => cases h'
  | str =>
    have h' : zeroM .str v = some z := h
    cases v with
    | string b => exact (zeroM_to (E := E.toEnc) h').1
    | _ => cases h'
  | _ => cases h
theorem zerosA_to {t : Ty} : ∀ {vs : List Value} {zs : List (Den E.T t)}, zerosA t vs = some zs → vs.map AV.v = zs.map (one E.toEnc t)
  | [], _, h => by cases h; rfl
  | v :: vs, zs, h => by
    simp only [zerosA] at h
    split at h
    · rename_i z zs' hz hzs
      cases h
      rw [List.map_cons, List.map_cons, zeroA_to hz, zerosA_to hzs]
    · cases h
theorem boxR_to {d b : Nat} {t : Ty} {l : List (Den E.T t)} (hl : t.lone = true) (hn : σ.noId d = true) : (σ.boxR d t l).to E.toEnc (upd ρ d b) = (σ.to E.toEnc ρ).box b (l.map (one E.toEnc t)) := by
  have h1 := TS.upd_to (ρ := ρ) (k := b) hn
  unfold TS.to at h1
  injection h1 with _ h2 h3 h4
  have hdd : upd ρ d b d = b := by unfold upd; rw [if_pos rfl]
  unfold TS.to TS.boxR AS.box
  simp only [hTo, List.map_cons, hdd]
  simp only [hTo] at h3
  rw [h2, h3, h4, flat_lone hl]
theorem boxR_inj {d k : Nat} {t : Ty} {l : List (Den E.T t)} (hi : Inj ρ σ.h) (hn : σ.noId d = true) (hk : FreshK k (σ.to E.toEnc ρ).h) : Inj (upd ρ d k) (σ.boxR d t l).h :=
  (boxT_inj (cs := []) hi hn hk).sub fun p hp => by
    rcases List.mem_cons.1 hp with rfl | hp
    · exact ⟨_, List.mem_cons_self, rfl⟩
    · exact ⟨p, List.mem_cons_of_mem _ hp, rfl⟩
theorem box_at (d b : Nat) : (TV.a (TA.box d 0) : TV E.T).to E.toEnc (upd ρ d b) = .v (.pointer (some ⟨b, 0, none⟩)) := by
  show AV.v (.pointer (some ⟨upd ρ d b d, 0, none⟩)) = _
  unfold upd; rw [if_pos rfl]
theorem bsl_at (d b n c : Nat) : (TV.a (TA.bsl d 0 n c) : TV E.T).to E.toEnc (upd ρ d b) = .v (.slice (some ⟨b, 0, none⟩) n c) := by
  show AV.v (.slice (some ⟨upd ρ d b d, 0, none⟩) n c) = _
  unfold upd; rw [if_pos rfl]
theorem made_one (v : Value) (m : Nat) : (madeCells #[v] m).toList = List.replicate m v := by
  have : madeCells #[v] m = Array.replicate m v := by
    apply Array.ext
    · simp [madeCells]
    · intro j h1 h2
      have hm : j % 1 = 0 := Nat.mod_one j
      simp [madeCells, hm]
  rw [this]; simp
theorem makC_some {by_ : Nat} {n c : Int} {p : Nat × Nat} (h : makC by_ n c = some p) : n = (p.1 : Int) ∧ c = (p.2 : Int) ∧ p.1 ≤ p.2 ∧ by_ * p.2 ≤ 281474976710656 ∧ p.2 ≤ 9223372036854775807 := by
  unfold makC at h
  split at h
  · rename_i hc
    cases h
    obtain ⟨h1, h2, h3, h4⟩ := hc
    have e : ((by_ * c.toNat : Nat) : Int) = (by_ : Int) * c := by rw [Int.natCast_mul, Int.toNat_of_nonneg (by omega)]
    refine ⟨?_, ?_, ?_, ?_, ?_⟩ <;> simp only <;> omega
  · cases h
theorem map_set_one {t : Ty} {l : List (Den E.T t)} {o : Nat} {v : Den E.T t} (h : o < l.length) : splice (l.map (one E.toEnc t)) o [one E.toEnc t v] = (l.set o v).map (one E.toEnc t) := by
  unfold splice
  rw [← List.map_take, List.length_singleton, ← List.map_drop, List.set_eq_take_append_cons_drop, if_pos h]
  simp
theorem flat_ones {R : List (List AV)} {t : Ty} {xs : List (Den E.T t)} (hl : t.lone = true) (h : LeR R (xs.map (cells E.toEnc t))) : LeL R.flatten (xs.map (one E.toEnc t)) := by
  induction xs generalizing R with
  | nil => cases h; exact .nil
  | cons x xs ih =>
    rw [List.map_cons] at h ⊢
    cases h with
    | cons h1 h2 =>
      rw [cells_lone E.toEnc hl] at h1
      rw [List.flatten_cons]
      exact LeL.append h1 (ih h2)
theorem csz_one {t : Ty} (h : t.lone = true) : csz E.toEnc t = 1 := by cases t <;> first | rfl | cases h
theorem flat_cells {t : Ty} (h : t.lone = true) (l : List (Den E.T t)) : (l.map (cells E.toEnc t)).flatten = l.map (one E.toEnc t) := flat_lone (ρ := id) h l
theorem evOpB_eff {t : Tree (TS E.T)} (hi : Inj ρ σ.h) (hG : GOk P Y E G) (hR : Low R) (hA0 : A ρ) (hA1 : creO G.mu o = true → ∀ d b, Nat.ble d 99999 = true → A (upd ρ d b)) (ht : evOpB Y E G o σ = some t) (h : t.holds (OnE E R A)) : EffOp P o (σ.to E.toEnc ρ) R := by
  obtain ⟨dst, op, ty, pos, af, g⟩ := o
  unfold evOpB at ht
  simp only at ht
  split at ht
  · rename_i d el
    split at ht
    · rename_i an e ha
      split at ht
      · rename_i ty' zv hb hz hn'
        simp only [Bool.and_eq_true] at hn'
        obtain ⟨⟨hn, hnb⟩, hd⟩ := hn'
        split at ht
        · rename_i L hlo hzs
          cases ht
          refine eff_alloc (T := Y) hz hd fun b hb => ?_
          have := h (upd ρ d b) (boxR_inj hi hn hb) (hA1 rfl d b hnb)
          rw [put_to, boxR_to hlo hn, box_at] at this
          rw [zerosA_to hzs]
          exact this
        · cases ht
      · cases ht
    · cases ht
  · rename_i d t0 x y
    split at ht
    · rename_i e kx n ky c hmu h0 hx hy
      split at ht
      · rename_i ty' zv by_ hb hz hs hn'
        simp only [Bool.and_eq_true] at hn'
        obtain ⟨⟨hn, hnb⟩, hd⟩ := hn'
        split at ht
        · rename_i z hlo hzs
          cases ht
          obtain ⟨p, hp, h⟩ := h
          obtain ⟨e1, e2, e3, e4, e5⟩ := makC_some hp
          subst e1 e2
          refine eff_make_box (T := Y) (asI_to hx) (asI_to hy) e3 h0 hs hz e4 e5 hd fun b hb => ?_
          have := h (upd ρ d b) (boxR_inj hi hn hb) (hA1 hmu d b hnb)
          rw [put_to, boxR_to hlo hn, bsl_at] at this
          have hc := zerosA_to (E := E) hzs
          have hcz : ∃ v, zv.cells = #[v] := by
            have hlen := congrArg List.length hc
            simp at hlen
            exact ⟨zv.cells[0], by apply Array.ext; · simp [hlen]
                                   · intro j h1 h2; simp at h2; subst h2; simp⟩
          obtain ⟨v, hv⟩ := hcz
          rw [hv] at hc ⊢
          rw [Nat.mul_one, made_one, List.map_replicate]
          simp only [List.map_cons, List.map_nil, List.cons.injEq, and_true] at hc
          rw [hc]
          rw [List.map_replicate] at this
          exact this
        · cases ht
      · cases ht
    · cases ht
  · rename_i d t0 len ps
    split at ht
    · rename_i e ty' us hmu h0 het hx
      split at ht
      · rename_i xs hlo' hp hn' hc'
        simp only [Bool.and_eq_true] at hn' hlo' hc'
        obtain ⟨⟨hn, hnb⟩, hd⟩ := hn'
        obtain ⟨hlo, hs⟩ := hlo'
        obtain ⟨⟨⟨c1, c2⟩, c3⟩, c4⟩ := hc'
        obtain ⟨by_, hz⟩ := sz1_of hs
        cases ht
        obtain ⟨m1, m2⟩ := packAll_to (ρ := ρ) hp
        have pl : ∀ u ∈ us, ∃ x, u = TV.a x ∧ x.plain = true ∧ x.simple = true := fun u hu => by
          have := List.all_eq_true.1 c4 u hu
          unfold plain1 at this
          split at this
          · rename_i x; rw [Bool.and_eq_true] at this; exact ⟨x, rfl, this.1, this.2⟩
          · cases this
        refine eff_build_box (T := Y) (sz := 1) rfl h0 hz c1 c2 (opTs_to (ρ := ρ) hx) ?_ ?_ c3 hd fun b hb => ?_
        · rw [List.all_eq_true]
          intro u hu
          obtain ⟨u0, hu0, rfl⟩ := List.mem_map.1 hu
          obtain ⟨x, rfl, p1, p2⟩ := pl u0 hu0
          obtain ⟨q1, q2⟩ := simple_cells (E := E) (ρ := ρ) p2
          show ((x.to E.toEnc ρ).okc && Nat.beq (x.to E.toEnc ρ).cells.length 1) = true
          rw [q1, q2]; rfl
        · intro u hu
          obtain ⟨r, hr, hu⟩ := List.mem_flatten.1 hu
          obtain ⟨u1, hu1, rfl⟩ := List.mem_map.1 hr
          obtain ⟨u0, hu0, rfl⟩ := List.mem_map.1 hu1
          obtain ⟨x, rfl, p1, p2⟩ := pl u0 hu0
          obtain ⟨q1, q2⟩ := simple_cells (E := E) (ρ := ρ) p2
          have hu' : u ∈ (x.to E.toEnc ρ).cells := hu
          rw [q1, List.mem_singleton] at hu'
          subst hu'
          exact TA.plain_to _ _ p1
        · have := h (upd ρ d b) (boxR_inj hi hn hb) (hA1 hmu d b hnb)
          rw [put_to, boxR_to hlo hn, bsl_at] at this
          refine hR.low this (fun F X tm hs => ?_) rfl
          refine hs.le2 rfl (fun t u' hu => ⟨u', hu, .refl _⟩) (fun q cs' hq => ?_) (fun p hp => hp)
          simp only [AS.put, AS.box, look_cons] at hq ⊢
          split at hq
          · rename_i e3
            rw [if_pos e3]
            cases hq
            exact ⟨_, rfl, flat_ones hlo m1⟩
          · rename_i e3
            rw [if_neg e3]
            exact ⟨cs', hq, LeL.refl _⟩
      · cases ht
    · cases ht
  · rename_i d t0 x
    split at ht
    · rename_i kk p hx
      split at ht
      · rename_i hd
        cases ht
        exact pureT_eff (Y := Y) hi hG hA0 rfl hd h
      · cases ht
    · cases ht
  · rename_i d x y t0 u
    split at ht
    · rename_i kk n c hx
      split at ht
      · rename_i e du ty' L h0 hu hb
        split at ht
        · rename_i m hc hm
          simp only [Bool.and_eq_true] at hc
          obtain ⟨⟨⟨hlo, hs⟩, hnz⟩, hd⟩ := hc
          obtain ⟨by_, hz⟩ := sz1_of hs
          cases ht
          obtain ⟨l', hl', h⟩ := h
          unfold apnA at hl'
          split at hl'
          · rename_i hr
            cases hl'
            obtain ⟨v, S, k1, k2, k3⟩ := addT_to (ρ := ρ) hm
            rw [csz_one hlo] at k2
            have hlk := look_row (ρ := ρ) hi hlo hb
            refine eff_append_box (T := Y) (m := m.map (cells E.toEnc ty')) (opT_to (ρ := ρ) hx) hlk (isMpB_ne fun u hu => by obtain ⟨z, _, rfl⟩ := List.mem_map.1 hu; exact one_notMp ty' z) h0 hu (by cases du <;> first | exact .inl rfl | exact .inr ⟨_, rfl⟩ | cases hnz) hz (addE_ok k1 k2 k3) (by simpa using hr.1) (by simpa using hr.2) hd (fun u hu => by
              rw [flat_cells hlo] at hu
              obtain ⟨z, _, rfl⟩ := List.mem_map.1 hu
              exact one_plain _ _ z) ?_
            have := h ρ (inj_cons hi hb) hA0
            rw [put_to, setr_to, flat_lone hlo] at this
            rw [flat_cells hlo, List.length_map]
            have e1 : splice (L.map (one E.toEnc ty')) n (m.map (one E.toEnc ty')) = (L.take n ++ m ++ L.drop (n + m.length)).map (one E.toEnc ty') := by
              unfold splice
              rw [List.map_append, List.map_append, List.map_take, List.map_drop, List.length_map]
            rw [e1]
            exact this
          · cases hl'
        · cases ht
      · cases ht
    · cases ht
  · rename_i t0 x y
    split at ht
    · rename_i kk p hx
      split at ht
      · rename_i ty' L hb
        split at ht
        · rename_i a hc hy
          split at ht
          · rename_i v hv
            cases ht
            simp only [Bool.and_eq_true] at hc
            obtain ⟨hlo, hs⟩ := hc
            obtain ⟨by_, hz⟩ := sz1_of hs
            obtain ⟨u, hu, hcs⟩ := Option.bind_eq_some_iff.1 hy
            obtain ⟨c1, c2, c3, c4⟩ := cs1_to (ρ := ρ) hcs
            obtain ⟨l', hl', h⟩ := h
            unfold setA at hl'
            split at hl'
            · rename_i hlt
              cases hl'
              have hlk := look_row (ρ := ρ) hi hlo hb
              have heff := effTo_store (P := P) (T := Y) (ty := ty) (pos := pos) (af := af) (g := g) (opT_to (ρ := ρ) hx) hlk (opT_to (ρ := ρ) hu) c1 hz (by rw [c2]; rfl) c3 c4 (by rw [List.length_map]; exact Nat.ble_eq_true_of_le hlt) (isMpB_ne fun u hu => by obtain ⟨z, _, rfl⟩ := List.mem_map.1 hu; exact one_notMp ty' z)
              refine heff _ ?_
              have := h ρ (inj_cons hi hb) hA0
              rw [setr_to, flat_lone hlo, ← map_set_one hlt] at this
              refine hR.low this (fun F X tm hs => ?_) rfl
              refine hs.le2 rfl (fun t u' hu => ⟨u', hu, .refl _⟩) (fun q cs' hq => ?_) (fun p hp => hp)
              simp only [AS.setc, look_cons] at hq ⊢
              split at hq
              · rename_i e3
                rw [if_pos e3]
                cases hq
                refine ⟨_, rfl, ?_⟩
                rw [c2]
                have hle : Le1 (a.to E.toEnc ρ) (one E.toEnc ty' v) := by
                  have h1 := asD_to E.toEnc ρ hv
                  rw [TA.rd_to] at h1
                  exact (le1_rd _).trans h1
                unfold splice
                exact LeL.append (LeL.append (LeL.refl _) (.cons hle .nil)) (LeL.refl _)
              · rename_i e3
                rw [if_neg e3]
                exact ⟨cs', hq, LeL.refl _⟩
            · cases hl'
          · cases ht
        · cases ht
      · cases ht
    · cases ht
  · cases ht
theorem evOp_eff (hi : Inj ρ σ.h) (hG : GOk P Y E G) (hR : Low R) (hA0 : A ρ) (hA1 : creO G.mu o = true → ∀ d b, Nat.ble d 99999 = true → A (upd ρ d b)) (h : (evOp Y E G o σ).holds (OnE E R A)) : EffOp P o (σ.to E.toEnc ρ) R := by
  unfold evOp at h
  split at h
  · rename_i t ht; exact evOpB_eff (Y := Y) hi hG hR hA0 hA1 ht h
  · exact evOp0_eff (Y := Y) hi hG hR hA0 hA1 h
end
theorem evOp_ok (hi : Inj ρ σ.h) (hG : GOk P Y E G) (ho : l[k]? = some o) (hw : wantedA l (σ.to E.toEnc ρ) o = some true) (h : (evOp Y E G o σ).holds (On P E Q ρ (.o l (k + 1) rest :: ks))) : ARun P Q (.o l k (o :: rest) :: ks) (σ.to E.toEnc ρ) :=
  ar_eff ho hw (evOp_eff (Y := Y) (R := fun τ => ARun P Q (.o l (k + 1) rest :: ks) τ) hi hG (low_arun rfl) (A := Agr ρ) (Agr.refl ρ) (fun _ d b hn => Agr.upd hn) h)
end
end Go.Proofs.Ytgmlkhfjhogdbaa
