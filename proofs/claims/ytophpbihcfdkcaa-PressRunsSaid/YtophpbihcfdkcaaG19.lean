/- The layer of abstract values: masks, joins, products; answers told anew. -/
import Derived.Test.YtophpbihcfdkcaaG18
import Derived.Laws.BitsLemmas
namespace Go.Proofs.Ytophpbihcfdkcaa
open Go.RowKit P
set_option linter.unusedSimpArgs false
set_option linter.unusedVariables false
section
variable {P : Program} {T : Tys P} {σ : AS} {d : Option Tmp} {t yt ty : TypeId} {x y z : Operand} {pos : String} {af : Array Edge} {g : Option (Nat × Bool)}
theorem opv_eq {o : Oper} {u u' : AV} (h : OpV P o σ u) (e : u = u') : OpV P o σ u' := e ▸ h
theorem opv_mul64 {op : BinOp} {a b : Int} (hx : opV σ x = some (.v (.int .i64 a))) (hy : opV σ y = some (.v (.int .i64 b))) (hop : op = .mul) (h : -9223372036854775808 ≤ a * b ∧ a * b ≤ 9223372036854775807) : OpV P ⟨d, .binOp op t x y yt, ty, pos, af, g⟩ σ (.v (.int .i64 (a * b))) := by
  subst hop
  have hw : IntKind.i64.wrap (a * b) = a * b := by rw [IntKind.wrap_i64]; omega
  exact opv_bin hx hy (by simp only [arV]; rw [hw])
theorem and_mod (k : IntKind) (hk : k = .i64 ∨ k = .u64) (i : Nat) (hi : i ≤ 40) (a : Int) (h0 : 0 ≤ a) (h1 : a < 2 ^ 40) : bits .and k a (2 ^ i - 1) = a % 2 ^ i := by
  rcases hk with rfl | rfl
  · exact bits_mask .i64 40 (by decide) (fun n h0 h1 => by rw [IntKind.wrap_i64]; omega) i hi a h0 h1
  · exact bits_mask .u64 40 (by decide) (fun n h0 h1 => by rw [IntKind.wrap_u64]; omega) i hi a h0 h1
theorem opv_and_mod {op : BinOp} {k : IntKind} {a b : Int} (i : Nat) (c : Int) (hx : opV σ x = some (.v (.int k a))) (hy : opV σ y = some (.v (.int k b))) (hop : op = .and) (hk : k = .i64 ∨ k = .u64) (hb : b = 2 ^ i - 1) (hc : 2 ^ i = c) (hi : i ≤ 40) (h : 0 ≤ a ∧ a < 1099511627776) : OpV P ⟨d, .binOp op t x y yt, ty, pos, af, g⟩ σ (.v (.int k (a % c))) := by
  subst hop hb hc
  exact opv_bin hx hy (by simp only [arV]; rw [and_mod k hk i hi a h.1 (by omega)])
theorem or_add (i : Nat) (x y : Int) (hx0 : 0 ≤ x) (hx : x % 2 ^ i = 0) (hx1 : x < 1099511627776) (hy0 : 0 ≤ y) (hy : y < 2 ^ i) (hy1 : y < 1099511627776) : bits .or .i64 x y = x + y :=
  bits_join .i64 40 (by decide) (fun n h0 h1 => by rw [IntKind.wrap_i64]; omega) i x y hx0 hx (by omega) hy0 hy (by omega)
theorem opv_or_add {op : BinOp} {a b : Int} (i : Nat) (c : Int) (hx : opV σ x = some (.v (.int .i64 a))) (hy : opV σ y = some (.v (.int .i64 b))) (hop : op = .or) (hc : 2 ^ i = c) (h : 0 ≤ a ∧ a % c = 0 ∧ a < 1099511627776 ∧ 0 ≤ b ∧ b < c ∧ b < 1099511627776) : OpV P ⟨d, .binOp op t x y yt, ty, pos, af, g⟩ σ (.v (.int .i64 (a + b))) := by
  subst hop hc
  exact opv_bin hx hy (by simp only [arV]; rw [or_add i a b h.1 h.2.1 h.2.2.1 h.2.2.2.1 h.2.2.2.2.1 h.2.2.2.2.2])
/-- A test, decided. -/
def cmpP : BinOp → Int → Int → Prop
  | .eql, a, b => a = b
  | .neq, a, b => a ≠ b
  | .lss, a, b => a < b
  | .leq, a, b => a ≤ b
  | .gtr, a, b => b < a
  | .geq, a, b => b ≤ a
  | _, _, _ => False
def isCmp : BinOp → Bool
  | .eql | .neq | .lss | .leq | .gtr | .geq => true
  | _ => false
theorem opv_cmp_t {op : BinOp} {k : IntKind} {a b : Int} (hx : opV σ x = some (.v (.int k a))) (hy : opV σ y = some (.v (.int k b))) (ho : isCmp op = true) (h : cmpP op a b) : OpV P ⟨d, .binOp op t x y yt, ty, pos, af, g⟩ σ (.v (.bool true)) := by
  refine opv_bin hx hy ?_
  cases op <;> simp [isCmp] at ho <;> simp only [cmpP] at h <;> simp [arV, cmpV, h]
theorem opv_cmp_f {op : BinOp} {k : IntKind} {a b : Int} (hx : opV σ x = some (.v (.int k a))) (hy : opV σ y = some (.v (.int k b))) (ho : isCmp op = true) (h : ¬ cmpP op a b) : OpV P ⟨d, .binOp op t x y yt, ty, pos, af, g⟩ σ (.v (.bool false)) := by
  refine opv_bin hx hy ?_
  cases op <;> simp [isCmp] at ho <;> simp only [cmpP] at h <;> simp [arV, cmpV, h] <;> omega
theorem opv_seq_t {op : BinOp} {a b : List UInt8} (hx : opV σ x = some (.v (.string (mkB a)))) (hy : opV σ y = some (.v (.string (mkB b)))) (hop : op = .eql) (h : a = b) : OpV P ⟨d, .binOp op t x y yt, ty, pos, af, g⟩ σ (.v (.bool true)) := by
  subst hop; exact opv_str hx hy (by simp [strV, bsOf_mkB, h])
theorem opv_seq_f {op : BinOp} {a b : List UInt8} (hx : opV σ x = some (.v (.string (mkB a)))) (hy : opV σ y = some (.v (.string (mkB b)))) (hop : op = .eql) (h : a ≠ b) : OpV P ⟨d, .binOp op t x y yt, ty, pos, af, g⟩ σ (.v (.bool false)) := by
  subst hop; exact opv_str hx hy (by simp [strV, bsOf_mkB, h])
theorem opv_sne_t {op : BinOp} {a b : List UInt8} (hx : opV σ x = some (.v (.string (mkB a)))) (hy : opV σ y = some (.v (.string (mkB b)))) (hop : op = .neq) (h : a ≠ b) : OpV P ⟨d, .binOp op t x y yt, ty, pos, af, g⟩ σ (.v (.bool true)) := by
  subst hop; exact opv_str hx hy (by simp [strV, bsOf_mkB, h])
theorem opv_sne_f {op : BinOp} {a b : List UInt8} (hx : opV σ x = some (.v (.string (mkB a)))) (hy : opV σ y = some (.v (.string (mkB b)))) (hop : op = .neq) (h : a = b) : OpV P ⟨d, .binOp op t x y yt, ty, pos, af, g⟩ σ (.v (.bool false)) := by
  subst hop; exact opv_str hx hy (by simp [strV, bsOf_mkB, h])
theorem opv_not_t {op : UnOp} (hx : opV σ x = some (.v (.bool false))) (hop : op = .not) : OpV P ⟨d, .unOp op t x, ty, pos, af, g⟩ σ (.v (.bool true)) := opv_not hx hop
theorem opv_not_f {op : UnOp} (hx : opV σ x = some (.v (.bool true))) (hop : op = .not) : OpV P ⟨d, .unOp op t x, ty, pos, af, g⟩ σ (.v (.bool false)) := opv_not hx hop
/-- b[i], of bytes. -/
theorem opv_indexaddr_byte {k : IntKind} {o : Bool} {L : List UInt8} {i : Int} {e : TypeId} {by_ : Nat} (hx : opV σ x = some (.sl o 1 (byteA L))) (hy : opV σ y = some (.v (.int k i))) (h0 : look T.ty t = some (.slice e)) (hsz : look T.sz e = some (1, by_)) (h1 : 0 ≤ i) (h2 : i < L.length) :
    OpV P ⟨d, .indexAddr t x y, ty, pos, af, g⟩ σ (.el [.v (.int .u8 (L.getD i.toNat 0).toNat)]) := by
  refine opv_eq (opv_indexaddr (T := T) hx hy h0 hsz h1 (by rw [byteA_length]; exact h2)) ?_
  congr 1
  have : i.toNat < L.length := by omega
  simp [byteA, List.getD_eq_getElem?_getD, this]
/-- A byte, as a number. -/
theorem opv_conv_byte {t2 : TypeId} {k k0 : IntKind} {b : UInt8} {d0 : TypeDesc} (hx : opV σ x = some (.v (.int k0 b.toNat))) (h0 : look T.ty t = some d0) (ht : look T.ty t2 = some (.int k)) (hk : k = .i64 ∨ k = .u64 ∨ k = .u8) : OpV P ⟨d, .convert t t2 x, ty, pos, af, g⟩ σ (.v (.int k b.toNat)) := by
  have hb := b.toNat_lt
  have hw : k.wrap b.toNat = b.toNat := by
    rcases hk with rfl | rfl | rfl
    · rw [IntKind.wrap_i64]; omega
    · rw [IntKind.wrap_u64]; omega
    · rw [IntKind.wrap_u8]; omega
  have := opv_conv_int (P := P) (T := T) (d := d) (ty := ty) (pos := pos) (af := af) (g := g) hx h0 ht
  rwa [hw] at this
/-- What is handed back, all boxes given up. -/
theorem ar_retK0 {Q : Exit → AS → Prop} {ks : List It} (K : List Nat) (h : Stk P Q ks .ret { (σ.keep K) with h := [], e := [] }) : ARun P Q (.c .ret :: ks) σ := fun F X a hs hd =>
  wp_ret ⟨hd, X, _, rfl, h, (hs.keep K).sub rfl (fun _ _ h => h) (fun k cs h => by simp [look_nil] at h) (fun p hp => by cases hp), Ext.refl F X⟩
theorem own_c {k o : Nat} {cs : List AV} {q : Nat × List (List AV)} (hb : look σ.h k = some cs) (hu : own1 cs[o]? = some q) : σ.own (.c k o) = some q := by simp only [AS.own, hb]; exact hu
/-- Gates: which operation stands next. -/
theorem opk (o : Oper) {u : AV} (h : OpV P o σ u) : OpV P o σ u := h
theorem arO {Q : Exit → AS → Prop} {ks : List It} {l : List Oper} {k : Nat} (o : Oper) {rest : List Oper} (h : ARun P Q (.o l k (o :: rest) :: ks) σ) : ARun P Q (.o l k (o :: rest) :: ks) σ := h
theorem arC {Q : Exit → AS → Prop} {ks : List It} (c : Code) (h : ARun P Q (.c c :: ks) σ) : ARun P Q (.c c :: ks) σ := h
theorem ret_congr {out : AOut} {u u' : AV} {H H' : List (Nat × List AV)} (h : out = .ret u) (e : u = u') : out = .ret u' := e ▸ h
end
end Go.Proofs.Ytophpbihcfdkcaa
