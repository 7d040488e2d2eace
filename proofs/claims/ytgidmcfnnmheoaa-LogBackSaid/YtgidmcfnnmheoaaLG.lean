-- slim: written by gen/slim.py from XLG.lean.tpl
/- The program's reading of a log, walked over abstract values. -/
import Derived.Test.YtgidmcfnnmheoaaLF
namespace Go.Proofs.Ytgidmcfnnmheoaa
open Go.RowKit P
set_option linter.unusedSimpArgs false
set_option linter.unusedVariables false
attribute [local irreducible] AS.nf OpV ARun Stk QSem QSemA ACalls EffOp AppOk SrcOk Awp Aops
set_option maxHeartbeats 16000000

section
variable {P : Program} {T : Tys P} {σ : AS} {d : Option Tmp} {t yt ty : TypeId} {x y z : Operand} {pos : String} {af : Array Edge} {g : Option (Nat × Bool)}
theorem opv_cut {lo hi : Option Operand} {k1 k2 : IntKind} {s : List UInt8} {i j : Int} (a m : Nat) (hx : opV σ x = some (.v (.string (mkB s)))) (h0 : look T.ty t = some .string) (hlo : optIs σ lo k1 i 0) (hhi : optIs σ hi k2 j (bsOf (mkB s)).length) (h1 : i = a) (h2 : j = (a + m : Nat)) (h3 : a + m ≤ s.length) :
    OpV P ⟨d, .slice t x lo hi none, ty, pos, af, g⟩ σ (.v (.string (mkB (cutB s a m)))) := by
  subst h1
  have h := opv_slice_str (P := P) (T := T) (d := d) (ty := ty) (pos := pos) (af := af) (g := g) hx h0 hlo hhi (by omega) (by omega) (by rw [h2]; show ((a + m : Nat) : Int) ≤ (s.length : Int); omega)
  have e : ((bsOf (mkB s)).take j.toNat).drop ((a : Int)).toNat = cutB s a m := by
    rw [h2]
    show (s.take (((a + m : Nat) : Int)).toNat).drop ((a : Int)).toNat = _
    rw [Int.toNat_natCast, Int.toNat_natCast]
    unfold cutB
    rw [List.drop_take]
    congr 1
    omega
  rwa [e] at h
theorem opv_cut_end {lo : Option Operand} {k1 : IntKind} {s : List UInt8} {i : Int} (a : Nat) (hx : opV σ x = some (.v (.string (mkB s)))) (h0 : look T.ty t = some .string) (hlo : optIs σ lo k1 i 0) (h1 : i = a) (h3 : a ≤ s.length) :
    OpV P ⟨d, .slice t x lo none none, ty, pos, af, g⟩ σ (.v (.string (mkB (cutB s a (s.length - a))))) :=
  opv_cut (k2 := .i64) (j := (s.length : Int)) a (s.length - a) hx h0 hlo rfl h1 (by omega) (by omega)
theorem opv_idx {k : IntKind} {s : List UInt8} {i : Int} (a v : Nat) (hx : opV σ x = some (.v (.string (mkB s)))) (hy : opV σ y = some (.v (.int k i))) (h0 : look T.ty t = some .string) (h1 : i = a) (h2 : a < s.length) (hv : (s.getD a 0).toNat = v) :
    OpV P ⟨d, .index t x y, ty, pos, af, g⟩ σ (.v (.int .u8 v)) := by
  subst h1 hv
  have h := opv_index_str (P := P) (T := T) (d := d) (ty := ty) (pos := pos) (af := af) (g := g) hx hy h0 (by omega) (by show (a : Int) < (s.length : Int); omega)
  exact h
theorem opv_or_low {op : BinOp} {a b : Int} (hx : opV σ x = some (.v (.int .i64 a))) (hy : opV σ y = some (.v (.int .i64 b))) (hop : op = .or) (h : 0 ≤ a ∧ a < 256 ∧ 0 ≤ b ∧ b % 256 = 0 ∧ b < 1099511627776) : OpV P ⟨d, .binOp op t x y yt, ty, pos, af, g⟩ σ (.v (.int .i64 (a + b))) := by
  subst hop
  refine opv_bin hx hy ?_
  simp only [arV]
  have h1 : bits .or .i64 a b = bits .or .i64 b a := by
    show IntKind.i64.wrap ((BitVec.ofInt 64 a ||| BitVec.ofInt 64 b).toNat : Int) = IntKind.i64.wrap ((BitVec.ofInt 64 b ||| BitVec.ofInt 64 a).toNat : Int)
    rw [BitVec.or_comm]
  rw [h1, or_add 8 b a h.2.2.1 h.2.2.2.1 h.2.2.2.2 h.1 h.2.1 (by omega), Int.add_comm]
theorem opv_beql {op : BinOp} {a b : Bool} (hx : opV σ x = some (.v (.bool a))) (hy : opV σ y = some (.v (.bool b))) (hop : op = .eql) (h0 : look T.ty t = some .bool) : OpV P ⟨d, .binOp op t x y yt, ty, pos, af, g⟩ σ (.v (.bool (a == b))) := by
  subst hop
  refine opv_same rfl fun F X ac hs => ⟨.bool (a == b), ?_, .v _⟩
  have h1 := opV_val hs (by simp [Op.operands]) hx
  have h2 := opV_val hs (by simp [Op.operands]) hy
  have h3 := run_eql_bool (P := P) X.w t a b (T.tyOk _ _ h0)
  simp only [execOp, h1, h2]
  refine run_val ?_
  simp [eqGuard, h3, go_sem]
end
theorem isPrefixOf_eq (l q : List UInt8) : Lib.hasPrefix l q = decide (l.take q.length = q) := by
  unfold Lib.hasPrefix
  rw [Bool.eq_iff_iff, decide_eq_true_eq, List.isPrefixOf_iff_prefix, List.prefix_iff_eq_take]
  exact eq_comm
theorem hasPrefix_a (l q : List UInt8) (r : Bool) (hr : decide (l.take q.length = q) = r) : ACalls Try.prog 32 [.v (.string (mkB l)), .v (.string (mkB q))] [] (fun out H => out = .ret (.v (.bool r)) ∧ H = []) :=
  acalls_of_calls (vs := [.string (mkB l), .string (mkB q)]) ⟨_, Try.func32, by kernel_rfl, rfl⟩ fun w => (Try.strings_HasPrefix (mkB l) (mkB q) w).mono fun e w' h => by
    obtain ⟨h1, rfl⟩ := h
    refine ⟨?_, Below.refl _ _⟩
    have h3 : Lib.hasPrefix (mkB l).data.toList (mkB q).data.toList = r := by rw [← hr]; exact isPrefixOf_eq l q
    rw [h3] at h1
    exact h1
def txRow (u : List UInt8) : List AV := [.v (.string (mkB u))]
def nmRow (n : Nat) : List AV := [.v (.int .i64 n)]
attribute [go_sem] txRow nmRow
/-- What holds of reading as it goes. -/
def RdOk (s : List UInt8) (y : RdSt) : Prop := Steps s st0 y ∧ y.at_ ≤ s.length ∧ y.opn.length ≤ y.at_ ∧ y.out.length ≤ y.at_ ∧ y.ends.length = y.out.length
theorem rdOk0 (s : List UInt8) : RdOk s st0 := ⟨.refl _, Nat.zero_le _, Nat.le_refl _, Nat.le_refl _, rfl⟩
theorem rdOk_next {s : List UInt8} {y : RdSt} {k : Nat} {t : List UInt8} (h : RdOk s y) (hp : PartAt s y k t) : RdOk s (nextSt y k t) := by
  obtain ⟨h1, h2, h3, h4, h5⟩ := h
  refine ⟨.tail h1 (rdStep_of hp), hp.le, ?_, ?_, ?_⟩
  all_goals (unfold nextSt; split <;> simp <;> omega)
theorem rdOk_end {s : List UInt8} {y : RdSt} (h : RdOk s y) (he : rdStep s y = none) : rdB s = y := rdB_is h.1 he
/-- Why reading ends, or how it goes on. -/
theorem rd_cases (s : List UInt8) (y : RdSt) (p a k n : Nat) (hp : p = padN y.at_) (ha : a = y.at_ + p) (hk : (s.getD a 0).toNat = k) (hn : n = (s.getD (a + 1) 0).toNat + 256 * (s.getD (a + 2) 0).toNat) (hle : y.at_ ≤ s.length) :
    (cutB s y.at_ p ≠ zerosB p ∧ rdStep s y = none) ∨ (cutB s y.at_ p = zerosB p ∧ a ≤ s.length ∧ s.length < a + 7 ∧ rdStep s y = none) ∨
    (cutB s y.at_ p = zerosB p ∧ a + 7 ≤ s.length ∧ ((s.length < a + 7 + n ∨ 128 < a % 128 + 7 + n) ∧ rdStep s y = none ∨
      a + 7 + n ≤ s.length ∧ a % 128 + 7 + n ≤ 128 ∧ ((k < 1 ∧ rdStep s y = none) ∨ (1 ≤ k ∧ 4 < k ∧ rdStep s y = none) ∨
        (1 ≤ k ∧ k ≤ 2 ∧ y.inn = true ∧ rdStep s y = none) ∨ (3 ≤ k ∧ k ≤ 4 ∧ y.inn = false ∧ rdStep s y = none) ∨
        (partB k (cutB s (a + 7) n) ≠ cutB s a (7 + n) ∧ rdStep s y = none ∧ (1 ≤ k ∧ k ≤ 2 ∧ y.inn = false ∨ 3 ≤ k ∧ k ≤ 4 ∧ y.inn = true)) ∨
        (partB k (cutB s (a + 7) n) = cutB s a (7 + n) ∧ PartAt s y k (cutB s (a + 7) n) ∧ (k = 1 ∧ y.inn = false ∨ k = 2 ∧ y.inn = false ∨ k = 3 ∧ y.inn = true ∨ k = 4 ∧ y.inn = true))))) := by
  subst hp ha hn
  have hU : rdStep s y = rdStep s y := rfl
  conv at hU => rhs; unfold rdStep
  dsimp only at hU
  rw [hk] at hU
  by_cases c1 : cutB s y.at_ (padN y.at_) = zerosB (padN y.at_)
  · have hl1 : y.at_ + padN y.at_ ≤ s.length := by
      have := congrArg List.length c1
      simp [cutB, zerosB] at this
      omega
    refine .inr ?_
    rw [if_neg (fun h => h c1)] at hU
    by_cases c2 : s.length < y.at_ + padN y.at_ + 7
    · rw [if_pos c2] at hU; exact .inl ⟨c1, hl1, c2, hU⟩
    refine .inr ⟨c1, by omega, ?_⟩
    rw [if_neg c2] at hU
    generalize hn : (s.getD (y.at_ + padN y.at_ + 1) 0).toNat + 256 * (s.getD (y.at_ + padN y.at_ + 2) 0).toNat = n at hU ⊢
    by_cases c3 : s.length < y.at_ + padN y.at_ + 7 + n ∨ 128 < (y.at_ + padN y.at_) % 128 + 7 + n
    · rw [if_pos c3] at hU; exact .inl ⟨c3, hU⟩
    refine .inr ⟨by omega, by omega, ?_⟩
    rw [if_neg c3] at hU
    have hinn : y.inn = true ∨ y.inn = false := by cases y.inn; exact .inr rfl; exact .inl rfl
    by_cases c4 : k < 1 ∨ 4 < k ∨ y.inn = decide (k ≤ 2)
    · rw [if_pos c4] at hU
      by_cases c5 : k < 1
      · exact .inl ⟨c5, hU⟩
      by_cases c6 : 4 < k
      · exact .inr (.inl ⟨by omega, c6, hU⟩)
      have c7 : y.inn = decide (k ≤ 2) := by rcases c4 with h | h | h; exact absurd h c5; exact absurd h c6; exact h
      by_cases c8 : k ≤ 2
      · exact .inr (.inr (.inl ⟨by omega, c8, by rw [c7]; exact decide_eq_true c8, hU⟩))
      · exact .inr (.inr (.inr (.inl ⟨by omega, by omega, by rw [c7]; exact decide_eq_false c8, hU⟩)))
    rw [if_neg c4] at hU
    have c7 : ¬ y.inn = decide (k ≤ 2) := fun h => c4 (.inr (.inr h))
    have c8 : (k ≤ 2 ∧ y.inn = false) ∨ (3 ≤ k ∧ y.inn = true) := by
      by_cases h : k ≤ 2
      · rw [decide_eq_true h] at c7; exact .inl ⟨h, by rcases hinn with h | h; exact absurd h c7; exact h⟩
      · rw [decide_eq_false h] at c7; exact .inr ⟨by omega, by rcases hinn with h | h; exact h; exact absurd h c7⟩
    by_cases c9 : partB k (cutB s (y.at_ + padN y.at_ + 7) n) = cutB s (y.at_ + padN y.at_) (7 + n)
    · refine .inr (.inr (.inr (.inr (.inr ⟨c9, ?_, ?_⟩))))
      · have hl : (cutB s (y.at_ + padN y.at_ + 7) n).length = n := by simp [cutB]; omega
        refine ⟨by omega, by omega, c7, by omega, ?_⟩
        rw [hl, c9, ← c1]
        unfold cutB
        rw [List.take_add, List.drop_drop]
      · rcases c8 with ⟨h1, h2⟩ | ⟨h1, h2⟩
        · have : k = 1 ∨ k = 2 := by omega
          rcases this with h | h
          · exact .inl ⟨h, h2⟩
          · exact .inr (.inl ⟨h, h2⟩)
        · have : k = 3 ∨ k = 4 := by omega
          rcases this with h | h
          · exact .inr (.inr (.inl ⟨h, h2⟩))
          · exact .inr (.inr (.inr ⟨h, h2⟩))
    · rw [if_pos (by exact c9)] at hU
      refine .inr (.inr (.inr (.inr (.inl ⟨c9, hU, ?_⟩))))
      rcases c8 with ⟨h1, h2⟩ | ⟨h1, h2⟩
      · exact .inl ⟨by omega, h1, h2⟩
      · exact .inr ⟨h1, by omega, h2⟩
  · rw [if_pos (by exact c1)] at hU
    exact .inl ⟨c1, hU⟩
end Go.Proofs.Ytgidmcfnnmheoaa
