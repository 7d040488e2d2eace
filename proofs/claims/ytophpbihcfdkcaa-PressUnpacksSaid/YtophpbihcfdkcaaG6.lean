/- The layer of abstract values: more laws of operations that turn nothing. -/
import Derived.Test.YtophpbihcfdkcaaG5
namespace Go.Proofs.Ytophpbihcfdkcaa
open Go.RowKit P
set_option linter.unusedSimpArgs false
set_option linter.unusedVariables false
section
variable {P : Program} {σ : AS} {d : Option Tmp} {t yt ty : TypeId} {x y z : Operand} {pos : String} {af : Array Edge} {g : Option (Nat × Bool)}

theorem toList_bs (s : ByteArray) : s.toList = bsOf s := by rw [ByteArray.toList_eq]; rfl
theorem size_bsOf (s : ByteArray) : s.size = (bsOf s).length := (size_bs s).symm
theorem str_eq_mkB (s : ByteArray) : s = mkB (bsOf s) := rfl
theorem mkB_ext' (s : ByteArray) (i j : Nat) : s.extract i j = mkB (((bsOf s).take j).drop i) := by
  apply ByteArray.ext
  rw [ByteArray.data_extract]
  apply Array.ext'
  simp only [mkB, bsOf, Array.toList_extract, List.extract_eq_take_drop, List.drop_take]

theorem opv_shl {op : BinOp} {k yk : IntKind} {a b : Int} (hx : opV σ x = some (.v (.int k a))) (hy : opV σ y = some (.v (.int yk b))) (hop : op = .shl) (hb : 0 ≤ b) :
    OpV P ⟨d, .binOp op t x y yt, ty, pos, af, g⟩ σ (.v (.int k (k.wrap (a * 2 ^ (min b.toNat k.bits))))) := by
  subst hop
  refine opv_same rfl fun F X ac hs => ⟨_, ?_, .v _⟩
  have h1 := opV_val hs (by simp [Op.operands]) hx
  have h2 := opV_val hs (by simp [Op.operands]) hy
  simp only [execOp, h1, h2]
  refine run_val ?_
  simp [eqGuard, binOp, Op.shift, Int.not_lt.2 hb]
theorem opv_shr {op : BinOp} {k yk : IntKind} {a b : Int} (hx : opV σ x = some (.v (.int k a))) (hy : opV σ y = some (.v (.int yk b))) (hop : op = .shr) (hb : 0 ≤ b) :
    OpV P ⟨d, .binOp op t x y yt, ty, pos, af, g⟩ σ (.v (.int k (a.fdiv (2 ^ (min b.toNat k.bits))))) := by
  subst hop
  refine opv_same rfl fun F X ac hs => ⟨_, ?_, .v _⟩
  have h1 := opV_val hs (by simp [Op.operands]) hx
  have h2 := opV_val hs (by simp [Op.operands]) hy
  simp only [execOp, h1, h2]
  refine run_val ?_
  simp [eqGuard, binOp, Op.shift, Int.not_lt.2 hb]
theorem opv_quo {op : BinOp} {k : IntKind} {a b : Int} (hx : opV σ x = some (.v (.int k a))) (hy : opV σ y = some (.v (.int k b))) (hop : op = .quo) (hb : b ≠ 0) :
    OpV P ⟨d, .binOp op t x y yt, ty, pos, af, g⟩ σ (.v (.int k (k.wrap (a.tdiv b)))) := by
  subst hop
  refine opv_same rfl fun F X ac hs => ⟨_, ?_, .v _⟩
  have h1 := opV_val hs (by simp [Op.operands]) hx
  have h2 := opV_val hs (by simp [Op.operands]) hy
  simp only [execOp, h1, h2]
  refine run_val ?_
  simp [eqGuard, binOp, Op.intDiv, hb]
theorem opv_rem {op : BinOp} {k : IntKind} {a b : Int} (hx : opV σ x = some (.v (.int k a))) (hy : opV σ y = some (.v (.int k b))) (hop : op = .rem) (hb : b ≠ 0) :
    OpV P ⟨d, .binOp op t x y yt, ty, pos, af, g⟩ σ (.v (.int k (a.tmod b))) := by
  subst hop
  refine opv_same rfl fun F X ac hs => ⟨_, ?_, .v _⟩
  have h1 := opV_val hs (by simp [Op.operands]) hx
  have h2 := opV_val hs (by simp [Op.operands]) hy
  simp only [execOp, h1, h2]
  refine run_val ?_
  simp [eqGuard, binOp, Op.intDiv, hb]
theorem opv_str {op : BinOp} {a b : ByteArray} {v : Value} (hx : opV σ x = some (.v (.string a))) (hy : opV σ y = some (.v (.string b))) (hr : strV op (bsOf a) (bsOf b) = some v) :
    OpV P ⟨d, .binOp op t x y yt, ty, pos, af, g⟩ σ (.v v) := by
  refine opv_same rfl fun F X ac hs => ⟨_, ?_, .v _⟩
  have h1 := opV_val hs (by simp [Op.operands]) hx
  have h2 := opV_val hs (by simp [Op.operands]) hy
  simp only [execOp, h1, h2]
  refine run_val ?_
  have hd : ∀ u v : List UInt8, (u == v) = decide (u = v) := fun u v => by
    by_cases e : u = v
    · subst e; simp
    · simp [e]
  cases op <;> simp [strV] at hr <;> subst hr <;> simp [eqGuard, binOp, Op.stringOp, toList_bs, hd]
theorem opv_cat {a b : ByteArray} (hx : opV σ x = some (.v (.string a))) (hy : opV σ y = some (.v (.string b))) (hl : (bsOf a).length + (bsOf b).length ≤ 9223372036854775807) :
    OpV P ⟨d, .binOp .add t x y yt, ty, pos, af, g⟩ σ (.v (.string (mkB (bsOf a ++ bsOf b)))) := by
  refine opv_same rfl fun F X ac hs => ⟨_, ?_, .v _⟩
  have h1 := opV_val hs (by simp [Op.operands]) hx
  have h2 := opV_val hs (by simp [Op.operands]) hy
  simp only [execOp, h1, h2]
  refine run_val ?_
  rw [mkB_append]
  simp [eqGuard, binOp, Op.stringOp, mkB_bsOf]
  rw [size_bsOf, size_bsOf]; omega

theorem opv_not {op : UnOp} {b : Bool} (hx : opV σ x = some (.v (.bool b))) (hop : op = .not) : OpV P ⟨d, .unOp op t x, ty, pos, af, g⟩ σ (.v (.bool (!b))) := by
  subst hop
  refine opv_same rfl fun F X ac hs => ⟨_, ?_, .v _⟩
  have h1 := opV_val hs (by simp [Op.operands]) hx
  simp only [execOp, h1]
  exact run_val rfl
theorem opv_neg {op : UnOp} {k : IntKind} {n : Int} (hx : opV σ x = some (.v (.int k n))) (hop : op = .neg) : OpV P ⟨d, .unOp op t x, ty, pos, af, g⟩ σ (.v (.int k (k.wrap (0 - n)))) := by
  subst hop
  refine opv_same rfl fun F X ac hs => ⟨_, ?_, .v _⟩
  have h1 := opV_val hs (by simp [Op.operands]) hx
  simp only [execOp, h1]
  exact run_val rfl
theorem opv_pickt {c : Operand} {b : Bool} {u : AV} (hc : opV σ c = some (.v (.bool b))) (hb : b = true) (hx : opV σ x = some u) : OpV P ⟨d, .pick c x y, ty, pos, af, g⟩ σ u.rd := by
  subst hb
  refine opv_same (plain_rd u) fun F X ac hs => ⟨ac.eval x, ?_, (opV_rel hs (by simp [Op.operands]) hx).rd⟩
  have h1 := opV_val hs (by simp [Op.operands]) hc
  simp only [execOp, h1]
  rfl
theorem opv_pickf {c : Operand} {b : Bool} {u : AV} (hc : opV σ c = some (.v (.bool b))) (hb : b = false) (hy : opV σ y = some u) : OpV P ⟨d, .pick c x y, ty, pos, af, g⟩ σ u.rd := by
  subst hb
  refine opv_same (plain_rd u) fun F X ac hs => ⟨ac.eval y, ?_, (opV_rel hs (by simp [Op.operands]) hy).rd⟩
  have h1 := opV_val hs (by simp [Op.operands]) hc
  simp only [execOp, h1]
  rfl
theorem opv_extract {i : Nat} {us : List AV} {u : AV} (hx : opV σ x = some (.tu us)) (hu : us[i]? = some u) : OpV P ⟨d, .extract x i, ty, pos, af, g⟩ σ u.rd := by
  refine opv_same (plain_rd u) fun F X ac hs => ?_
  have h1 := opV_rel hs (by simp [Op.operands]) hx
  simp only [execOp]
  generalize ac.eval x = v at h1
  cases h1 with
  | tu _ xs hl hr =>
    have hlt := (List.getElem?_eq_some_iff.1 hu).1
    have hx : xs[i]? = some xs[i] := Array.getElem?_eq_getElem (by omega)
    exact ⟨xs[i], run_val (by simp [Instr.extract, hx]), (hr i u _ hu hx).rd⟩
theorem opv_nil {a : Addr} (hx : opV σ x = some (.v (.pointer (some a)))) : OpV P ⟨d, .nilCheck x, ty, pos, af, g⟩ σ (.v (.pointer (some a))) := by
  refine opv_same rfl fun F X ac hs => ⟨_, ?_, .v _⟩
  have h1 := opV_val hs (by simp [Op.operands]) hx
  simp only [execOp, h1]
  rfl
theorem rel_el {X : GW} {cs : List AV} {v : Value} (h : Rel X (.el cs) v) : ∃ b off, v = .pointer (some ⟨b, off, none⟩) := by
  cases h with | el _ b off n c => exact ⟨b, off, rfl⟩
theorem opv_nil_el {cs : List AV} (hx : opV σ x = some (.el cs)) : OpV P ⟨d, .nilCheck x, ty, pos, af, g⟩ σ (.el cs) := by
  refine opv_same rfl fun F X ac hs => ?_
  have h1 := opV_rel hs (by simp [Op.operands]) hx
  obtain ⟨b, off, he⟩ := rel_el h1
  simp only [execOp, he] at h1 ⊢
  exact ⟨_, rfl, h1⟩
theorem opv_mkif {T : Tys P} {u : AV} {dsc : TypeDesc} (hx : opV σ x = some u) (ht : look T.ty t = some dsc) (hi : (match dsc with | .interface _ => false | _ => true) = true) : OpV P ⟨d, .makeInterface t x, ty, pos, af, g⟩ σ (.ifc t u) := by
  refine opv_same rfl fun F X ac hs => ⟨.iface t (ac.eval x), ?_, .ifc t u _ (opV_rel hs (by simp [Op.operands]) hx)⟩
  have hu := T.tyOk t dsc ht
  simp only [execOp]
  refine run_val ?_
  cases dsc <;> simp [Instr.makeInterface, run_underlying hu] at hi ⊢

/-! ### Conversions, lengths, strings -/
theorem opv_conv_int {T : Tys P} {t2 : TypeId} {k k0 : IntKind} {n : Int} {d0 : TypeDesc} (hx : opV σ x = some (.v (.int k0 n))) (h0 : look T.ty t = some d0) (ht : look T.ty t2 = some (.int k)) :
    OpV P ⟨d, .convert t t2 x, ty, pos, af, g⟩ σ (.v (.int k (k.wrap n))) := by
  refine opv_same rfl fun F X ac hs => ⟨_, ?_, .v _⟩
  have h1 := opV_val hs (by simp [Op.operands]) hx
  have hu := T.tyOk _ _ h0
  have hu2 := T.tyOk _ _ ht
  simp only [execOp, h1]
  refine run_val ?_
  simp [convert, run_underlying hu, run_underlying hu2, Conv.intToInt]
theorem opv_conv_str {T : Tys P} {t2 : TypeId} {s : ByteArray} (hx : opV σ x = some (.v (.string s))) (h0 : look T.ty t = some .string) (ht : look T.ty t2 = some .string) :
    OpV P ⟨d, .convert t t2 x, ty, pos, af, g⟩ σ (.v (.string s)) := by
  refine opv_same rfl fun F X ac hs => ⟨_, ?_, .v _⟩
  have h1 := opV_val hs (by simp [Op.operands]) hx
  have hu := T.tyOk _ _ h0
  have hu2 := T.tyOk _ _ ht
  simp only [execOp, h1]
  refine run_val ?_
  simp [convert, run_underlying hu, run_underlying hu2]
theorem opv_len_str {T : Tys P} {ats : Array TypeId} {s : ByteArray} (hx : opV σ x = some (.v (.string s))) (ha : ats[0]? = some t) (h0 : look T.ty t = some .string) :
    OpV P ⟨d, .call { callee := .builtin .len, args := #[x], argTypes := ats }, ty, pos, af, g⟩ σ (.v (.int .i64 (bsOf s).length)) := by
  refine opv_same rfl fun F X ac hs => ⟨_, ?_, .v _⟩
  have h1 := opV_val hs (by simp [Op.operands, Call.operands]) hx
  have hu := T.tyOk _ _ h0
  simp [execOp, resolve, invoke, builtin, Builtin.len_, h1, ha, run_underlying hu, goInt, size_bsOf]
theorem opv_len_nil {T : Tys P} {ats : Array TypeId} {e : TypeId} {a : Option Addr} {n c : Nat} (hx : opV σ x = some (.v (.slice a n c))) (ha : ats[0]? = some t) (h0 : look T.ty t = some (.slice e)) :
    OpV P ⟨d, .call { callee := .builtin .len, args := #[x], argTypes := ats }, ty, pos, af, g⟩ σ (.v (.int .i64 n)) := by
  refine opv_same rfl fun F X ac hs => ⟨_, ?_, .v _⟩
  have h1 := opV_val hs (by simp [Op.operands, Call.operands]) hx
  have hu := T.tyOk _ _ h0
  simp [execOp, resolve, invoke, builtin, Builtin.len_, h1, ha, run_underlying hu, goInt]
theorem rel_sl_form {X : GW} {o : Bool} {sz : Nat} {l : List (List AV)} {v : Value} (h : Rel X (.sl o sz l) v) : ∃ a c, v = .slice a l.length c := by
  cases h with
  | nil => exact ⟨none, 0, rfl⟩
  | sl _ _ _ b off cap n c => exact ⟨_, _, rfl⟩
theorem opv_len_sl {T : Tys P} {ats : Array TypeId} {e : TypeId} {o : Bool} {sz : Nat} {l : List (List AV)} (hx : opV σ x = some (.sl o sz l)) (ha : ats[0]? = some t) (h0 : look T.ty t = some (.slice e)) :
    OpV P ⟨d, .call { callee := .builtin .len, args := #[x], argTypes := ats }, ty, pos, af, g⟩ σ (.v (.int .i64 l.length)) := by
  refine opv_same rfl fun F X ac hs => ⟨_, ?_, .v _⟩
  obtain ⟨a, c, h1⟩ := rel_sl_form (opV_rel hs (by simp [Op.operands, Call.operands]) hx)
  have hu := T.tyOk _ _ h0
  simp [execOp, resolve, invoke, builtin, Builtin.len_, h1, ha, run_underlying hu, goInt]
theorem opv_min {ats : Array TypeId} {k k' : IntKind} {a b : Int} (hx : opV σ x = some (.v (.int k a))) (hy : opV σ y = some (.v (.int k' b))) :
    OpV P ⟨d, .call { callee := .builtin .min, args := #[x, y], argTypes := ats }, ty, pos, af, g⟩ σ (.v (.int k (if b < a then b else a))) := by
  refine opv_same rfl fun F X ac hs => ⟨_, ?_, .v _⟩
  have h1 := opV_val hs (by simp [Op.operands, Call.operands]) hx
  have h2 := opV_val hs (by simp [Op.operands, Call.operands]) hy
  simp [execOp, resolve, invoke, builtin, Builtin.min_, Builtin.min2, h1, h2]
theorem opv_index_str {T : Tys P} {k : IntKind} {s : ByteArray} {i : Int} (hx : opV σ x = some (.v (.string s))) (hy : opV σ y = some (.v (.int k i))) (h0 : look T.ty t = some .string) (h1 : 0 ≤ i) (h2 : i < (bsOf s).length) :
    OpV P ⟨d, .index t x y, ty, pos, af, g⟩ σ (.v (.int .u8 (((bsOf s).getD i.toNat 0).toNat))) := by
  refine opv_same rfl fun F X ac hs => ⟨_, ?_, .v _⟩
  have e1 := opV_val hs (by simp [Op.operands]) hx
  have e2 := opV_val hs (by simp [Op.operands]) hy
  have hu := T.tyOk _ _ h0
  simp only [execOp, e1, e2]
  refine run_val ?_
  have hlt : i.toNat < (bsOf s).length := by omega
  have hs : s[i.toNat]? = some ((bsOf s).getD i.toNat 0) := by
    rw [List.getD_eq_getElem?_getD, List.getElem?_eq_getElem hlt]
    have : i.toNat < s.size := by rw [size_bsOf]; exact hlt
    rw [getElem?_pos s i.toNat this]
    rfl
  simp [Instr.index, asIntOf, run_underlying hu, h1, hs]

end
end Go.Proofs.Ytophpbihcfdkcaa
