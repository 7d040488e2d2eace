/- The layer of abstract values: the laws of the operations that turn nothing. -/
import Derived.Test.YtophpbihcfdkcaaG4
import Derived.WalkLawsBesides
namespace Go.Proofs.Ytophpbihcfdkcaa
open Go.RowKit P
set_option linter.unusedSimpArgs false
set_option linter.unusedVariables false

/-- What is known of a program's types: what each is; how many cells and bytes it has. -/
structure Tys (P : Program) where
  ty : List (Nat × TypeDesc)
  sz : List (Nat × (Nat × Nat))
  zr : List (Nat × Value)
  tyOk : ∀ t d, look ty t = some d → P.underlying t = some d
  szOk : ∀ t s b, look sz t = some (s, b) → ∃ i, P.info? t = some i ∧ i.size = s ∧ i.bytes = b ∧ ∃ z, i.zero = some z ∧ z.cells.size = s

  zrOk : ∀ t z, look zr t = some z → ∃ i, P.info? t = some i ∧ i.zero = some z

def cst : Value → AV
  | .agg xs => .ag (xs.toList.map .v)
  | .tuple xs => .tu (xs.toList.map .v)
  | x => .v x
theorem cst_rel (X : GW) (x : Value) : Rel X (cst x) x := by
  cases x with
  | agg xs => exact .ag _ xs (by simp) (fun i u y hu hy => by
      simp only [List.getElem?_map, Option.map_eq_some_iff] at hu
      obtain ⟨z, hz, rfl⟩ := hu
      have : some z = some y := hz.symm.trans (by simpa using hy)
      cases this; exact .v _)
  | tuple xs => exact .tu _ xs (by simp) (fun i u y hu hy => by
      simp only [List.getElem?_map, Option.map_eq_some_iff] at hu
      obtain ⟨z, hz, rfl⟩ := hu
      have : some z = some y := hz.symm.trans (by simpa using hy)
      cases this; exact .v _)
  | _ => exact .v _
def opV (σ : AS) : Operand → Option AV
  | .tmp t => look σ.t t
  | .const v => some (cst v)
  | .func f => some (.v (.func (.func f) #[] #[]))
  | .global g => some (.v (.pointer (some ⟨g, 0, none⟩)))
section
variable {P : Program} {Q : Exit → AS → Prop} {ks : List It} {σ : AS} {F : Nat → Prop} {X : GW} {a : Act} {o : Op}
theorem opV_rel {x : Operand} {u : AV} (hs : SimR F X σ o a.tmps) (hm : x ∈ o.operands.toList) (h : opV σ x = some u) : Rel X u (a.eval x) := by
  cases x with
  | tmp t => exact hs.slot t u hm h
  | const v => cases h; exact cst_rel X v
  | func f => cases h; exact .v _
  | global g => cases h; exact .v _
theorem rel_v {x y : Value} (h : Rel X (.v x) y) : y = x := by cases h; rfl
theorem opV_val {x : Operand} {v : Value} (hs : SimR F X σ o a.tmps) (hm : x ∈ o.operands.toList) (h : opV σ x = some (.v v)) : a.eval x = v := rel_v (opV_rel hs hm h)

theorem opv_same {o : Oper} {u : AV} (hp : u.plain) (h : ∀ F X (a : Act), SimR F X σ o.op a.tmps → ∃ x, (execOp a.eval o).run P X.w = .ok (.value x) X.w ∧ Rel X u x) : OpV P o σ u := by
  intro F X a hs
  obtain ⟨x, h1, h2⟩ := h F X a hs
  exact runs_value h1 ⟨X, rfl, New.refl X, hs.gb, h2, FreshOk.plain hp⟩

/-- The first slot that holds the same as slot d. -/
def firstAl (d : Nat) : List (Nat × Root) → Option Nat
  | [] => none
  | (x, .s t) :: r => match Nat.beq t d, Nat.beq x d with | true, false => some x | _, _ => firstAl d r
  | (_, .c _ _) :: r => firstAl d r
theorem firstAl_mem {d : Nat} : ∀ {e : List (Nat × Root)} {x : Nat}, firstAl d e = some x → (x, .s d) ∈ e
  | [], _, h => by cases h
  | (x0, .s t) :: r, x, h => by
    simp only [firstAl] at h
    split at h
    · rename_i h1 h2; cases h; rw [Nat.eq_of_beq_eq_true h1]; exact List.mem_cons_self
    · exact List.mem_cons_of_mem _ (firstAl_mem h)
  | (_, .c _ _) :: r, x, h => List.mem_cons_of_mem _ (firstAl_mem (by simpa only [firstAl] using h))
/-- Slot d will be written: what it owns goes to a slot that holds the same. -/
def AS.free (σ : AS) (d : Nat) : AS := match firstAl d σ.e with | some x => σ.hand x (.s d) | none => σ
theorem SimE.free {tm : Array Value} (h : SimE F X σ tm) (d : Nat) : SimE F X (σ.free d) tm := by
  unfold AS.free
  cases hf : firstAl d σ.e with
  | none => exact h
  | some x => exact h.hand (h.eqm _ (firstAl_mem hf))
theorem free_n (σ : AS) (d : Nat) : (σ.free d).n = σ.n := by unfold AS.free; split <;> simp [hand_n]

theorem lt_of_ble {m n : Nat} (h : Nat.ble (m + 1) n = true) : m < n := Nat.le_of_ble_eq_true h

theorem eff_of_opv {o : Oper} {d : Nat} {u : AV} (hdst : o.dst = some d) (hd : Nat.ble (d + 1) σ.n = true) (h : OpV P o σ u) {R : AS → Prop} (hR : R ((σ.free d).put d u)) : EffOp P o σ R := by
  intro F X a hs
  refine (h F X a (hs.r o.op)).mono fun x w' ⟨X', h1, h2, h3, h4, h5⟩ => ?_
  refine ⟨X', (σ.free d).put d u, h1, hR, ?_, h2.ext hs.gb hs.fb⟩
  rw [hdst]
  exact (hs.free d).put_new (by rw [free_n]; exact lt_of_ble hd) h2 h3 h4 h5
theorem ar_op {l : List Oper} {k : Nat} {o : Oper} {rest : List Oper} {d : Nat} {u : AV} (ho : l[k]? = some o) (hw : wantedA l σ o = some true) (hdst : o.dst = some d) (hd : Nat.ble (d + 1) σ.n = true) (h : OpV P o σ u)
    (hn : ARun P Q (.o l (k + 1) rest :: ks) ((σ.free d).put d u)) : ARun P Q (.o l k (o :: rest) :: ks) σ := ar_eff ho hw (eff_of_opv hdst hd h hn)
/-- An operation that is passed over. -/
theorem ar_unwanted {l : List Oper} {k : Nat} {o : Oper} {rest : List Oper} {d : Nat} (ho : l[k]? = some o) (hw : wantedA l σ o = some false) (hdst : o.dst = some d) (hd : Nat.ble (d + 1) σ.n = true)
    (hn : ARun P Q (.o l (k + 1) rest :: ks) ((σ.free d).put d (.v undef))) : ARun P Q (.o l k (o :: rest) :: ks) σ := by
  intro F X a hs hdf
  have hk : k < l.length := (List.getElem?_eq_some_iff.1 ho).1
  rw [range'_cons hk]
  have ho' : (l.toArray)[k]? = some o := by simpa using ho
  simp only [wpOps, ho']
  rw [if_neg (by rw [wanted_of hs hw]; simp)]
  refine hn F X (a.put o.dst undef) ?_ (by rw [put_defers]; exact hdf)
  rw [hdst]
  exact (hs.free d).put_new (by rw [free_n]; exact lt_of_ble hd) (New.refl X) hs.gb (.v _) (FreshOk.plain rfl)

/-! ### Plain operations -/
def bsOf (s : ByteArray) : List UInt8 := s.data.toList
theorem bsOf_mkB (l : List UInt8) : bsOf (mkB l) = l := rfl
theorem mkB_bsOf (s : ByteArray) : mkB (bsOf s) = s := rfl

def cmpV (op : BinOp) (a b : Int) : Option Value :=
  match op with
  | .eql => some (.bool (a == b))
  | .neq => some (.bool (a != b))
  | .lss => some (.bool (decide (a < b)))
  | .leq => some (.bool (decide (a ≤ b)))
  | .gtr => some (.bool (decide (a > b)))
  | .geq => some (.bool (decide (a ≥ b)))
  | _ => none
def arV (op : BinOp) (k : IntKind) (a b : Int) : Option Value :=
  match op with
  | .add => some (.int k (k.wrap (a + b)))
  | .sub => some (.int k (k.wrap (a - b)))
  | .mul => some (.int k (k.wrap (a * b)))
  | .and => some (.int k (bits .and k a b))
  | .or => some (.int k (bits .or k a b))
  | .xor => some (.int k (bits .xor k a b))
  | op => cmpV op a b
def strV (op : BinOp) (a b : List UInt8) : Option Value :=
  match op with
  | .eql => some (.bool (decide (a = b)))
  | .neq => some (.bool (!decide (a = b)))
  | .lss => some (.bool (Op.bytesLess a b))
  | .leq => some (.bool (Op.bytesLess a b || decide (a = b)))
  | .gtr => some (.bool (!(Op.bytesLess a b || decide (a = b))))
  | .geq => some (.bool (!Op.bytesLess a b))
  | _ => none

theorem run_val {s : Sem Value} {x : Value} {w w' : World} (h : s.run P w = .ok x w') : (do pure (Next.value (← s)) : Sem Next).run P w = .ok (.value x) w' := by
  simp [h, go_sem]
theorem run_bin_int (op : BinOp) (t : TypeId) (xo yo : Operand) (k : IntKind) (a b : Int) (v : Value) (w : World) (h : arV op k a b = some v) :
    (do eqGuard op t xo yo (.int k a) (.int k b); binOp op t (.int k a) (.int k b) : Sem Value).run P w = .ok v w := by
  cases op <;> simp [arV, cmpV] at h <;> subst h <;> simp [eqGuard, binOp, Op.intArith, Op.intCmp, Op.intBits, bits, go_sem]
theorem opv_bin {d : Option Tmp} {op : BinOp} {t yt ty : TypeId} {x y : Operand} {pos : String} {af : Array Edge} {g : Option (Nat × Bool)} {k : IntKind} {a b : Int} {v : Value}
    (hx : opV σ x = some (.v (.int k a))) (hy : opV σ y = some (.v (.int k b))) (hr : arV op k a b = some v) : OpV P ⟨d, .binOp op t x y yt, ty, pos, af, g⟩ σ (.v v) := by
  refine opv_same rfl fun F X ac hs => ⟨v, ?_, .v _⟩
  have h1 := opV_val hs (by simp [Op.operands]) hx
  have h2 := opV_val hs (by simp [Op.operands]) hy
  have h3 := run_bin_int (P := P) op t x y k a b v X.w hr
  simp only [execOp, h1, h2]
  exact run_val h3

end
end Go.Proofs.Ytophpbihcfdkcaa
