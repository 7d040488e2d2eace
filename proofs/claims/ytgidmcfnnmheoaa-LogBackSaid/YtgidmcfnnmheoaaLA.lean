-- slim: written by gen/slim.py from XLA.lean.tpl
/- The sum of a text: the program's Check and the reference's CheckOf, walked over abstract values. -/
import Derived.Test.YtgidmcfnnmheoaaGC
import Derived.Test.YtgidmcfnnmheoaaTT
import Derived.Test.YtgidmcfnnmheoaaRU
import Derived.Test.YtgidmcfnnmheoaaLP
namespace Go.Proofs.Ytgidmcfnnmheoaa
open Go.RowKit P
set_option linter.unusedSimpArgs false
set_option linter.unusedVariables false
attribute [local irreducible] AS.nf OpV ARun Stk QSem QSemA ACalls EffOp AppOk SrcOk Awp Aops
set_option maxHeartbeats 4000000

theorem bv32 {a : Nat} (h : a < 4294967296) : (BitVec.ofInt 32 (a : Int)).toNat = a := by
  rw [BitVec.ofInt_natCast, BitVec.toNat_ofNat]
  exact Nat.mod_eq_of_lt h
theorem wrap32 {a : Nat} (h : a < 4294967296) : IntKind.u32.wrap (a : Int) = a := by rw [IntKind.wrap_u32]; omega
theorem xor32 {a b : Nat} (ha : a < 4294967296) (hb : b < 4294967296) : bits .xor .u32 (a : Int) (b : Int) = ((a ^^^ b : Nat) : Int) := by
  have h : (BitVec.ofInt 32 (a : Int) ^^^ BitVec.ofInt 32 (b : Int)).toNat = a ^^^ b := by rw [BitVec.toNat_xor, bv32 ha, bv32 hb]
  show IntKind.u32.wrap ((BitVec.ofInt 32 (a : Int) ^^^ BitVec.ofInt 32 (b : Int)).toNat : Int) = _
  rw [h, wrap32 (xor_lt32 ha hb)]
theorem and32 {a : Nat} (ha : a < 4294967296) : bits .and .u32 (a : Int) 1 = ((a % 2 : Nat) : Int) := by
  have h : (BitVec.ofInt 32 (a : Int) &&& BitVec.ofInt 32 (1 : Int)).toNat = a % 2 := by
    rw [BitVec.toNat_and, bv32 ha]
    exact Nat.and_one_is_mod a
  show IntKind.u32.wrap ((BitVec.ofInt 32 (a : Int) &&& BitVec.ofInt 32 (1 : Int)).toNat : Int) = _
  rw [h, wrap32 (by omega)]
section
variable {P : Program} {T : Tys P} {σ : AS} {d : Option Tmp} {t yt ty : TypeId} {x y z : Operand} {pos : String} {af : Array Edge} {g : Option (Nat × Bool)}
theorem opv_xor32 {op : BinOp} {a b : Nat} (hx : opV σ x = some (.v (.int .u32 a))) (hy : opV σ y = some (.v (.int .u32 b))) (hop : op = .xor) (ha : a < 4294967296) (hb : b < 4294967296) : OpV P ⟨d, .binOp op t x y yt, ty, pos, af, g⟩ σ (.v (.int .u32 (a ^^^ b : Nat))) := by
  subst hop
  exact opv_bin hx hy (by simp only [arV]; rw [xor32 ha hb])
theorem opv_and32 {op : BinOp} {a : Nat} (hx : opV σ x = some (.v (.int .u32 a))) (hy : opV σ y = some (.v (.int .u32 1))) (hop : op = .and) (ha : a < 4294967296) : OpV P ⟨d, .binOp op t x y yt, ty, pos, af, g⟩ σ (.v (.int .u32 (a % 2 : Nat))) := by
  subst hop
  exact opv_bin hx hy (by simp only [arV]; rw [and32 ha])
theorem opv_shr32 {op : BinOp} {a n : Nat} (c : Nat) (hx : opV σ x = some (.v (.int .u32 a))) (hy : opV σ y = some (.v (.int .u64 n))) (hop : op = .shr) (hc : 2 ^ n = c) (hn : n ≤ 32) : OpV P ⟨d, .binOp op t x y yt, ty, pos, af, g⟩ σ (.v (.int .u32 (a / c : Nat))) := by
  have h := opv_shr_div (P := P) (dd := d) (t := t) (yt := yt) (ty := ty) (pos := pos) (af := af) (g := g) ((c : Nat) : Int) hx hy hop (by omega) (by
    rw [Int.toNat_natCast, show IntKind.u32.bits = 32 from rfl, Nat.min_eq_left hn, ← hc]
    norm_cast) (by rw [← hc]; exact_mod_cast Nat.pos_of_ne_zero (by simp))
  rwa [show ((a / c : Nat) : Int) = (a : Int) / (c : Int) from by norm_cast]
theorem opv_mul32p {op : BinOp} {b : Nat} (hx : opV σ x = some (.v (.int .u32 2197175160))) (hy : opV σ y = some (.v (.int .u32 b))) (hop : op = .mul) (h : b ≤ 1) : OpV P ⟨d, .binOp op t x y yt, ty, pos, af, g⟩ σ (.v (.int .u32 (2197175160 * b : Nat))) := by
  subst hop
  exact opv_bin hx hy (by simp only [arV]; rw [← wrap32 (a := 2197175160 * b) (by omega)]; rfl)
theorem opv_not32 {op : UnOp} {a : Nat} (hx : opV σ x = some (.v (.int .u32 a))) (hop : op = .xor) (ha : a < 4294967296) : OpV P ⟨d, .unOp op t x, ty, pos, af, g⟩ σ (.v (.int .u32 (a ^^^ 4294967295 : Nat))) := by
  subst hop
  refine opv_same rfl fun F X ac hs => ⟨.int .u32 (a ^^^ 4294967295 : Nat), ?_, .v _⟩
  have h1 := opV_val hs (by simp [Op.operands]) hx
  simp only [execOp, h1]
  refine run_val ?_
  have h := xor32 (a := 4294967295) (b := a) (by omega) ha
  have h2 : (4294967295 ^^^ a : Nat) = a ^^^ 4294967295 := Nat.xor_comm _ _
  rw [h2, show ((4294967295 : Nat) : Int) = 4294967295 from rfl] at h
  have h3 : (Op.unary .xor (.int .u32 (a : Int))).run P X.w = .ok (.int .u32 (bits .xor .u32 4294967295 a)) X.w := rfl
  rw [h] at h3
  exact h3
theorem opv_conv32b {t2 : TypeId} {k0 : IntKind} {b : UInt8} {d0 : TypeDesc} (hx : opV σ x = some (.v (.int k0 b.toNat))) (h0 : look T.ty t = some d0) (ht : look T.ty t2 = some (.int .u32)) : OpV P ⟨d, .convert t t2 x, ty, pos, af, g⟩ σ (.v (.int .u32 b.toNat)) := by
  have hb := b.toNat_lt
  have := opv_conv_int (P := P) (T := T) (d := d) (ty := ty) (pos := pos) (af := af) (g := g) hx h0 ht
  rwa [wrap32 (by omega)] at this
end
/-- A step of the sum, by a product. -/
theorem crcStep_mul (c : Nat) : crcStep c = (c / 2) ^^^ (2197175160 * (c % 2)) := by
  unfold crcStep
  rcases Nat.mod_two_eq_zero_or_one c with h | h
  · rw [if_neg (by omega), h]; simp
  · rw [if_pos h, h]
set_option maxRecDepth 100000 in
theorem check_a (s : List UInt8) (hs : s.length ≤ 140737488355328) : ACalls Try.prog 9 [.v (.string (mkB s))] [] (fun out H => out = .ret (.v (.int .u32 (crcB s : Nat))) ∧ H = []) := by
  refine acalls_enter _ 31 [.tmp 2] Try.func9 (by kernel_rfl) rfl rfl rfl rfl ?_
  dsimp only [slotsOf]
  repeat (first
    | ((first | apply ar_un | apply stk_un); (next => (first | (simp only [go_sem, Nat.reduceBEq, Nat.reduceEqDiff, reduceIte, reduceCtorEq, String.reduceEq, Nat.reduceAdd, Int.reduceToNat]; exact rfl) | exact rfl)))
    | (first
     | refine ar_unwantedN rfl rfl rfl rfl ?_
     | refine ar_unwantedU rfl rfl rfl rfl ?_
     | (apply ar_opN rfl rfl rfl rfl; (next => (first
      | exact opv_pickt_cb rfl rfl
      | exact opv_pickf_cb rfl rfl
      | exact opv_pickt rfl rfl rfl
      | exact opv_pickf rfl rfl rfl
      | exact opv_len_str (T := TT) rfl rfl rfl
      | exact opv_len_sl (T := TT) rfl rfl rfl
      | fail)))
     | fail)
    | (refine arC .ret ?_; refine ar_retM0 [2] ?_)
    | (apply ar_op' rfl rfl rfl rfl; (next => (first
     | exact opv_xor32 rfl rfl rfl (by omega) (by omega)
     | exact opv_and32 rfl rfl rfl (by omega)
     | exact opv_shr32 2 rfl rfl rfl rfl (by decide)
     | exact opv_mul32p rfl rfl rfl (by omega)
     | exact opv_not32 rfl rfl (by omega)
     | exact opv_conv32b (T := TT) rfl rfl rfl
     | fail)))
    | (apply ar_op' rfl rfl rfl rfl; (next => (first
     | (refine evalE_ok (T := TT) rfl ?_; (first | exact trivial | omega | (simp [NFL] <;> omega)))
     | (apply opk ⟨_, .move _, _, _, _, _⟩; first | exact opv_const (cst_plain _) (.inl rfl) | fail)
     | (apply opk ⟨_, .binOp .add _ _ _ _, _, _, _, _⟩; first | exact opv_bin rfl rfl rfl | fail)
     | (apply opk ⟨_, .binOp .mul _ _ _ _, _, _, _, _⟩; first | exact opv_bin rfl rfl rfl | fail)
     | (apply opk ⟨_, .binOp .and _ _ _ _, _, _, _, _⟩; first
      | (refine opv_and_mod 2 4 rfl rfl rfl ?_ ?_ ?_ ?_ ?_; (next => (first | exact .inl rfl | exact .inr rfl)); (next => (decide)); (next => (decide)); (next => (decide)); (next => (first | omega | (simp [NFL] <;> omega))))
      | (refine opv_and_mod 3 8 rfl rfl rfl ?_ ?_ ?_ ?_ ?_; (next => (first | exact .inl rfl | exact .inr rfl)); (next => (decide)); (next => (decide)); (next => (decide)); (next => (first | omega | (simp [NFL] <;> omega))))
      | (refine opv_and_mod 7 128 rfl rfl rfl ?_ ?_ ?_ ?_ ?_; (next => (first | exact .inl rfl | exact .inr rfl)); (next => (decide)); (next => (decide)); (next => (decide)); (next => (first | omega | (simp [NFL] <;> omega))))
      | exact opv_bin rfl rfl rfl
      | fail)
     | (apply opk ⟨_, .binOp .xor _ _ _ _, _, _, _, _⟩; first | exact opv_bin rfl rfl rfl | fail)
     | (apply opk ⟨_, .binOp .shr _ _ _ _, _, _, _, _⟩; first | (refine opv_shr rfl rfl rfl ?_; (next => (first | omega | (simp [NFL] <;> omega)))) | fail)
     | (apply opk ⟨_, .binOp .lss _ _ _ _, _, _, _, _⟩; first
      | (refine opv_cmp_t rfl rfl rfl ?_; (next => (first | exact rfl | (simp only [cmpP]; omega) | (simp only [cmpP]; simp [NFL] <;> omega))))
      | (refine opv_cmp_f rfl rfl rfl ?_; (next => (first | exact rfl | (simp only [cmpP]; omega) | (simp only [cmpP]; simp [NFL] <;> omega))))
      | exact opv_bin rfl rfl rfl
      | exact opv_str rfl rfl rfl
      | fail)
     | (apply opk ⟨_, .unOp _ _ _, _, _, _, _⟩; first | exact opv_not_t rfl rfl | exact opv_not_f rfl rfl | exact opv_neg rfl rfl | fail)
     | (apply opk ⟨_, .convert _ _ _, _, _, _, _⟩; first
      | (refine opv_conv_byte (T := TT) rfl rfl rfl ?_; (next => (first | exact .inl rfl | exact .inr (.inl rfl) | exact .inr (.inr rfl))))
      | (refine opv_conv64 (T := TT) rfl rfl rfl ?_; (next => (first | omega | (simp [NFL] <;> omega))))
      | (refine opv_convu64 (T := TT) rfl rfl rfl ?_; (next => (first | omega | (simp [NFL] <;> omega))))
      | exact opv_conv8 (T := TT) rfl rfl rfl
      | exact opv_conv_int (T := TT) rfl rfl rfl
      | exact opv_conv_str (T := TT) rfl rfl rfl
      | exact opv_bytes_str (T := TT) rfl rfl rfl rfl
      | exact opv_str_bytes (T := TT) rfl rfl rfl rfl
      | fail)
     | (apply opk ⟨_, .call { callee := .builtin .len, args := _, argTypes := _ }, _, _, _, _⟩; first
      | exact opv_len_str (T := TT) rfl rfl rfl
      | exact opv_len_sl (T := TT) rfl rfl rfl
      | exact opv_len_nil (T := TT) rfl rfl rfl
      | fail)
     | (apply opk ⟨_, .indexAddr _ _ _, _, _, _, _⟩; first
      | (refine opv_indexaddr_byte (T := TT) rfl rfl rfl rfl ?_ ?_; (next => (first | omega | (simp [NFL] <;> omega))); (next => (first | omega | (simp [NFL] <;> omega))))
      | (refine opv_indexaddr (T := TT) rfl rfl rfl rfl ?_ ?_; (next => (first | omega | (simp [NFL] <;> omega))); (next => (first | omega | (simp [NFL] <;> omega))))
      | fail)
     | (apply opk ⟨_, .load _ _, _, _, _, _⟩; first | exact opv_load_el (T := TT) rfl rfl rfl | exact opv_load_els (T := TT) rfl rfl rfl rfl | fail)
     | fail)))
    | (refine arO _ ?_; first
     | (refine arO ⟨_, .move _, _, _, _, _⟩ ?_; first | refine ar_move_sl rfl rfl rfl rfl ?_ | fail)
     | (refine arO ⟨_, .assign _, _, _, _, _⟩ ?_; first
      | refine ar_assign_sl rfl rfl rfl rfl ?_
      | refine ar_op rfl rfl rfl rfl (opv_const (cst_plain _) (.inr rfl)) ?_
      | fail)
     | (refine arO ⟨_, .load _ _, _, _, _, _⟩ ?_; first
      | refine ar_load_own (T := TT) rfl rfl rfl rfl look_hd rfl rfl rfl rfl ?_
      | (refine ar_load_own (T := TT) rfl rfl rfl rfl (look_tl ?_ look_hd) rfl rfl rfl rfl ?_; (next => (first | assumption | (intro e; exact absurd e.symm (by assumption)))))
      | (refine ar_load_own (T := TT) rfl rfl rfl rfl (look_tl ?_ (look_tl ?_ look_hd)) rfl rfl rfl rfl ?_; (next => (first | assumption | (intro e; exact absurd e.symm (by assumption)))); (next => (first | assumption | (intro e; exact absurd e.symm (by assumption)))))
      | fail)
     | fail)
    | refine ar_seq ?_
    | (refine arE ?_; refine ar_endM [0, 2, 3, 5, 6, 8, 9, 10, 11, 18, 19] rfl ?_)
    | refine ar_region ?_
    | refine ar_block ?_
    | refine ar_skip ?_
    | refine ar_blk ?_
    | refine ar_dedup rfl ?_
    | (refine arC (.cond _ _ _) ?_; first
     | (refine ar_cond_true rfl ?_ ?_; (next => (first | rfl | (simp only [decide_eq_true_eq, beq_iff_eq, bne_iff_ne, ge_iff_le, gt_iff_lt, ne_eq, Bool.not_eq_true', decide_eq_false_iff_not]; omega))))
     | (refine ar_cond_false rfl ?_ ?_; (next => (first
      | rfl
      | (simp only [decide_eq_false_iff_not, beq_eq_false_iff_ne, bne_eq_false_iff_eq, ge_iff_le, gt_iff_lt, ne_eq, Bool.not_eq_false', decide_eq_true_eq]; omega))))
     | fail)
    | refine ar_exit ?_
    | refine stk_b_hit ?_
    | refine stk_b_miss rfl ?_
    | refine stk_c_exit ?_
    | refine stk_l_exit ?_
    | (refine arC .ret ?_; refine ar_retM [2] ?_)
    | refine stk_c_ret ?_
    | refine stk_b_ret ?_
    | refine stk_l_ret ?_
    | refine stk_nil ?_
    | fail)
  refine ar_loop (fun i : Nat => ⟨31, [(3, .v (.int .u32 (crcR 4294967295 (s.take i) : Nat))), (8, .sl true 1 (byteA s)), (9, .v (.int .i64 s.length)), (10, .v (.int .i64 i))], [], []⟩) (fun i => i ≤ s.length) (fun i => s.length - i) 0 ⟨rfl, ?_, ?_, rfl⟩ (Nat.zero_le _) ?_
  · (repeat' (first
    | exact trivial
    | exact LeL.refl _
    | exact .refl _
    | refine ⟨⟨_, rfl, ?_⟩, ?_⟩
    | refine ⟨⟨_, look_hd, ?_⟩, ?_⟩
    | refine ⟨⟨_, look_tl (by first | assumption | (intro e; exact absurd e.symm (by assumption))) look_hd, ?_⟩, ?_⟩
    | refine ⟨⟨_, look_tl (by first | assumption | (intro e; exact absurd e.symm (by assumption))) (look_tl (by first | assumption | (intro e; exact absurd e.symm (by assumption))) look_hd), ?_⟩, ?_⟩
    | refine ⟨⟨_, look_tl (by first | assumption | (intro e; exact absurd e.symm (by assumption))) (look_tl (by first | assumption | (intro e; exact absurd e.symm (by assumption))) (look_tl (by first | assumption | (intro e; exact absurd e.symm (by assumption))) look_hd)), ?_⟩, ?_⟩
    | refine ⟨⟨_, look_tl (by first | assumption | (intro e; exact absurd e.symm (by assumption))) (look_tl (by first | assumption | (intro e; exact absurd e.symm (by assumption))) (look_tl (by first | assumption | (intro e; exact absurd e.symm (by assumption))) (look_tl (by first | assumption | (intro e; exact absurd e.symm (by assumption))) look_hd))), ?_⟩, ?_⟩
    | exact .nil _ _
    | exact .rd _ _ _
    | refine LeL.cons ?_ ?_
    | exact LeL.nil
    | refine Le1.of_eq ?_))
    all_goals rfl
  · (repeat' (first
    | exact trivial
    | exact LeL.refl _
    | exact .refl _
    | refine ⟨⟨_, rfl, ?_⟩, ?_⟩
    | refine ⟨⟨_, look_hd, ?_⟩, ?_⟩
    | refine ⟨⟨_, look_tl (by first | assumption | (intro e; exact absurd e.symm (by assumption))) look_hd, ?_⟩, ?_⟩
    | refine ⟨⟨_, look_tl (by first | assumption | (intro e; exact absurd e.symm (by assumption))) (look_tl (by first | assumption | (intro e; exact absurd e.symm (by assumption))) look_hd), ?_⟩, ?_⟩
    | refine ⟨⟨_, look_tl (by first | assumption | (intro e; exact absurd e.symm (by assumption))) (look_tl (by first | assumption | (intro e; exact absurd e.symm (by assumption))) (look_tl (by first | assumption | (intro e; exact absurd e.symm (by assumption))) look_hd)), ?_⟩, ?_⟩
    | refine ⟨⟨_, look_tl (by first | assumption | (intro e; exact absurd e.symm (by assumption))) (look_tl (by first | assumption | (intro e; exact absurd e.symm (by assumption))) (look_tl (by first | assumption | (intro e; exact absurd e.symm (by assumption))) (look_tl (by first | assumption | (intro e; exact absurd e.symm (by assumption))) look_hd))), ?_⟩, ?_⟩
    | exact .nil _ _
    | exact .rd _ _ _
    | refine LeL.cons ?_ ?_
    | exact LeL.nil
    | refine Le1.of_eq ?_))
  intro i hi
  have hcr : crcR 4294967295 (s.take i) < 4294967296 := crcR_lt (by omega) _
  by_cases hend : i = s.length
  · have hall : crcB s = crcR 4294967295 (s.take i) ^^^ 4294967295 := by rw [hend, List.take_length]; rfl
    repeat (first
      | ((first | apply ar_un | apply stk_un); (next => (first | (simp only [go_sem, Nat.reduceBEq, Nat.reduceEqDiff, reduceIte, reduceCtorEq, String.reduceEq, Nat.reduceAdd, Int.reduceToNat]; exact rfl) | exact rfl)))
      | (first
       | refine ar_unwantedN rfl rfl rfl rfl ?_
       | refine ar_unwantedU rfl rfl rfl rfl ?_
       | (apply ar_opN rfl rfl rfl rfl; (next => (first
        | exact opv_pickt_cb rfl rfl
        | exact opv_pickf_cb rfl rfl
        | exact opv_pickt rfl rfl rfl
        | exact opv_pickf rfl rfl rfl
        | exact opv_len_str (T := TT) rfl rfl rfl
        | exact opv_len_sl (T := TT) rfl rfl rfl
        | fail)))
       | fail)
      | (refine arC .ret ?_; refine ar_retM0 [2] ?_)
      | (apply ar_op' rfl rfl rfl rfl; (next => (first
       | exact opv_xor32 rfl rfl rfl (by omega) (by omega)
       | exact opv_and32 rfl rfl rfl (by omega)
       | exact opv_shr32 2 rfl rfl rfl rfl (by decide)
       | exact opv_mul32p rfl rfl rfl (by omega)
       | exact opv_not32 rfl rfl (by omega)
       | exact opv_conv32b (T := TT) rfl rfl rfl
       | fail)))
      | (apply ar_op' rfl rfl rfl rfl; (next => (first
       | (refine evalE_ok (T := TT) rfl ?_; (first | exact trivial | omega | (simp [NFL] <;> omega)))
       | (apply opk ⟨_, .move _, _, _, _, _⟩; first | exact opv_const (cst_plain _) (.inl rfl) | fail)
       | (apply opk ⟨_, .binOp .add _ _ _ _, _, _, _, _⟩; first | exact opv_bin rfl rfl rfl | fail)
       | (apply opk ⟨_, .binOp .mul _ _ _ _, _, _, _, _⟩; first | exact opv_bin rfl rfl rfl | fail)
       | (apply opk ⟨_, .binOp .and _ _ _ _, _, _, _, _⟩; first
        | (refine opv_and_mod 2 4 rfl rfl rfl ?_ ?_ ?_ ?_ ?_; (next => (first | exact .inl rfl | exact .inr rfl)); (next => (decide)); (next => (decide)); (next => (decide)); (next => (first | omega | (simp [NFL] <;> omega))))
        | (refine opv_and_mod 3 8 rfl rfl rfl ?_ ?_ ?_ ?_ ?_; (next => (first | exact .inl rfl | exact .inr rfl)); (next => (decide)); (next => (decide)); (next => (decide)); (next => (first | omega | (simp [NFL] <;> omega))))
        | (refine opv_and_mod 7 128 rfl rfl rfl ?_ ?_ ?_ ?_ ?_; (next => (first | exact .inl rfl | exact .inr rfl)); (next => (decide)); (next => (decide)); (next => (decide)); (next => (first | omega | (simp [NFL] <;> omega))))
        | exact opv_bin rfl rfl rfl
        | fail)
       | (apply opk ⟨_, .binOp .xor _ _ _ _, _, _, _, _⟩; first | exact opv_bin rfl rfl rfl | fail)
       | (apply opk ⟨_, .binOp .shr _ _ _ _, _, _, _, _⟩; first | (refine opv_shr rfl rfl rfl ?_; (next => (first | omega | (simp [NFL] <;> omega)))) | fail)
       | (apply opk ⟨_, .binOp .lss _ _ _ _, _, _, _, _⟩; first
        | (refine opv_cmp_t rfl rfl rfl ?_; (next => (first | exact rfl | (simp only [cmpP]; omega) | (simp only [cmpP]; simp [NFL] <;> omega))))
        | (refine opv_cmp_f rfl rfl rfl ?_; (next => (first | exact rfl | (simp only [cmpP]; omega) | (simp only [cmpP]; simp [NFL] <;> omega))))
        | exact opv_bin rfl rfl rfl
        | exact opv_str rfl rfl rfl
        | fail)
       | (apply opk ⟨_, .unOp _ _ _, _, _, _, _⟩; first | exact opv_not_t rfl rfl | exact opv_not_f rfl rfl | exact opv_neg rfl rfl | fail)
       | (apply opk ⟨_, .convert _ _ _, _, _, _, _⟩; first
        | (refine opv_conv_byte (T := TT) rfl rfl rfl ?_; (next => (first | exact .inl rfl | exact .inr (.inl rfl) | exact .inr (.inr rfl))))
        | (refine opv_conv64 (T := TT) rfl rfl rfl ?_; (next => (first | omega | (simp [NFL] <;> omega))))
        | (refine opv_convu64 (T := TT) rfl rfl rfl ?_; (next => (first | omega | (simp [NFL] <;> omega))))
        | exact opv_conv8 (T := TT) rfl rfl rfl
        | exact opv_conv_int (T := TT) rfl rfl rfl
        | exact opv_conv_str (T := TT) rfl rfl rfl
        | exact opv_bytes_str (T := TT) rfl rfl rfl rfl
        | exact opv_str_bytes (T := TT) rfl rfl rfl rfl
        | fail)
       | (apply opk ⟨_, .call { callee := .builtin .len, args := _, argTypes := _ }, _, _, _, _⟩; first
        | exact opv_len_str (T := TT) rfl rfl rfl
        | exact opv_len_sl (T := TT) rfl rfl rfl
        | exact opv_len_nil (T := TT) rfl rfl rfl
        | fail)
       | (apply opk ⟨_, .indexAddr _ _ _, _, _, _, _⟩; first
        | (refine opv_indexaddr_byte (T := TT) rfl rfl rfl rfl ?_ ?_; (next => (first | omega | (simp [NFL] <;> omega))); (next => (first | omega | (simp [NFL] <;> omega))))
        | (refine opv_indexaddr (T := TT) rfl rfl rfl rfl ?_ ?_; (next => (first | omega | (simp [NFL] <;> omega))); (next => (first | omega | (simp [NFL] <;> omega))))
        | fail)
       | (apply opk ⟨_, .load _ _, _, _, _, _⟩; first | exact opv_load_el (T := TT) rfl rfl rfl | exact opv_load_els (T := TT) rfl rfl rfl rfl | fail)
       | fail)))
      | (refine arO _ ?_; first
       | (refine arO ⟨_, .move _, _, _, _, _⟩ ?_; first | refine ar_move_sl rfl rfl rfl rfl ?_ | fail)
       | (refine arO ⟨_, .assign _, _, _, _, _⟩ ?_; first
        | refine ar_assign_sl rfl rfl rfl rfl ?_
        | refine ar_op rfl rfl rfl rfl (opv_const (cst_plain _) (.inr rfl)) ?_
        | fail)
       | (refine arO ⟨_, .load _ _, _, _, _, _⟩ ?_; first
        | refine ar_load_own (T := TT) rfl rfl rfl rfl look_hd rfl rfl rfl rfl ?_
        | (refine ar_load_own (T := TT) rfl rfl rfl rfl (look_tl ?_ look_hd) rfl rfl rfl rfl ?_; (next => (first | assumption | (intro e; exact absurd e.symm (by assumption)))))
        | (refine ar_load_own (T := TT) rfl rfl rfl rfl (look_tl ?_ (look_tl ?_ look_hd)) rfl rfl rfl rfl ?_; (next => (first | assumption | (intro e; exact absurd e.symm (by assumption)))); (next => (first | assumption | (intro e; exact absurd e.symm (by assumption)))))
        | fail)
       | fail)
      | refine ar_seq ?_
      | (refine arE ?_; refine ar_endM [0, 2, 3, 5, 6, 8, 9, 10, 11, 18, 19] rfl ?_)
      | refine ar_region ?_
      | refine ar_block ?_
      | refine ar_skip ?_
      | refine ar_blk ?_
      | refine ar_dedup rfl ?_
      | (refine arC (.cond _ _ _) ?_; first
       | (refine ar_cond_true rfl ?_ ?_; (next => (first | rfl | (simp only [decide_eq_true_eq, beq_iff_eq, bne_iff_ne, ge_iff_le, gt_iff_lt, ne_eq, Bool.not_eq_true', decide_eq_false_iff_not]; omega))))
       | (refine ar_cond_false rfl ?_ ?_; (next => (first
        | rfl
        | (simp only [decide_eq_false_iff_not, beq_eq_false_iff_ne, bne_eq_false_iff_eq, ge_iff_le, gt_iff_lt, ne_eq, Bool.not_eq_false', decide_eq_true_eq]; omega))))
       | fail)
      | refine ar_exit ?_
      | refine stk_b_hit ?_
      | refine stk_b_miss rfl ?_
      | refine stk_c_exit ?_
      | refine stk_l_exit ?_
      | (refine arC .ret ?_; refine ar_retM [2] ?_)
      | refine stk_c_ret ?_
      | refine stk_b_ret ?_
      | refine stk_l_ret ?_
      | refine stk_nil ?_
      | fail)
    first | exact qret_mk rfl (⟨by rw [hall], rfl⟩) | (trace_state; exact qret_mk rfl (⟨by rw [hall], rfl⟩))
  · have hb : (s.getD i 0).toNat < 256 := UInt8.toNat_lt _
    have hsucc := crcR_take 4294967295 s i (by omega)
    generalize crcR 4294967295 (s.take i) = c0 at hcr hsucc
    repeat (first
      | ((first | apply ar_un | apply stk_un); (next => (first | (simp only [go_sem, Nat.reduceBEq, Nat.reduceEqDiff, reduceIte, reduceCtorEq, String.reduceEq, Nat.reduceAdd, Int.reduceToNat]; exact rfl) | exact rfl)))
      | (first
       | refine ar_unwantedN rfl rfl rfl rfl ?_
       | refine ar_unwantedU rfl rfl rfl rfl ?_
       | (apply ar_opN rfl rfl rfl rfl; (next => (first
        | exact opv_pickt_cb rfl rfl
        | exact opv_pickf_cb rfl rfl
        | exact opv_pickt rfl rfl rfl
        | exact opv_pickf rfl rfl rfl
        | exact opv_len_str (T := TT) rfl rfl rfl
        | exact opv_len_sl (T := TT) rfl rfl rfl
        | fail)))
       | fail)
      | (refine arC .ret ?_; refine ar_retM0 [2] ?_)
      | (apply ar_op' rfl rfl rfl rfl; (next => (first
       | exact opv_xor32 rfl rfl rfl (by omega) (by omega)
       | exact opv_and32 rfl rfl rfl (by omega)
       | exact opv_shr32 2 rfl rfl rfl rfl (by decide)
       | exact opv_mul32p rfl rfl rfl (by omega)
       | exact opv_not32 rfl rfl (by omega)
       | exact opv_conv32b (T := TT) rfl rfl rfl
       | fail)))
      | (apply ar_op' rfl rfl rfl rfl; (next => (first
       | (refine evalE_ok (T := TT) rfl ?_; (first | exact trivial | omega | (simp [NFL] <;> omega)))
       | (apply opk ⟨_, .move _, _, _, _, _⟩; first | exact opv_const (cst_plain _) (.inl rfl) | fail)
       | (apply opk ⟨_, .binOp .add _ _ _ _, _, _, _, _⟩; first | exact opv_bin rfl rfl rfl | fail)
       | (apply opk ⟨_, .binOp .mul _ _ _ _, _, _, _, _⟩; first | exact opv_bin rfl rfl rfl | fail)
       | (apply opk ⟨_, .binOp .and _ _ _ _, _, _, _, _⟩; first
        | (refine opv_and_mod 2 4 rfl rfl rfl ?_ ?_ ?_ ?_ ?_; (next => (first | exact .inl rfl | exact .inr rfl)); (next => (decide)); (next => (decide)); (next => (decide)); (next => (first | omega | (simp [NFL] <;> omega))))
        | (refine opv_and_mod 3 8 rfl rfl rfl ?_ ?_ ?_ ?_ ?_; (next => (first | exact .inl rfl | exact .inr rfl)); (next => (decide)); (next => (decide)); (next => (decide)); (next => (first | omega | (simp [NFL] <;> omega))))
        | (refine opv_and_mod 7 128 rfl rfl rfl ?_ ?_ ?_ ?_ ?_; (next => (first | exact .inl rfl | exact .inr rfl)); (next => (decide)); (next => (decide)); (next => (decide)); (next => (first | omega | (simp [NFL] <;> omega))))
        | exact opv_bin rfl rfl rfl
        | fail)
       | (apply opk ⟨_, .binOp .xor _ _ _ _, _, _, _, _⟩; first | exact opv_bin rfl rfl rfl | fail)
       | (apply opk ⟨_, .binOp .shr _ _ _ _, _, _, _, _⟩; first | (refine opv_shr rfl rfl rfl ?_; (next => (first | omega | (simp [NFL] <;> omega)))) | fail)
       | (apply opk ⟨_, .binOp .lss _ _ _ _, _, _, _, _⟩; first
        | (refine opv_cmp_t rfl rfl rfl ?_; (next => (first | exact rfl | (simp only [cmpP]; omega) | (simp only [cmpP]; simp [NFL] <;> omega))))
        | (refine opv_cmp_f rfl rfl rfl ?_; (next => (first | exact rfl | (simp only [cmpP]; omega) | (simp only [cmpP]; simp [NFL] <;> omega))))
        | exact opv_bin rfl rfl rfl
        | exact opv_str rfl rfl rfl
        | fail)
       | (apply opk ⟨_, .unOp _ _ _, _, _, _, _⟩; first | exact opv_not_t rfl rfl | exact opv_not_f rfl rfl | exact opv_neg rfl rfl | fail)
       | (apply opk ⟨_, .convert _ _ _, _, _, _, _⟩; first
        | (refine opv_conv_byte (T := TT) rfl rfl rfl ?_; (next => (first | exact .inl rfl | exact .inr (.inl rfl) | exact .inr (.inr rfl))))
        | (refine opv_conv64 (T := TT) rfl rfl rfl ?_; (next => (first | omega | (simp [NFL] <;> omega))))
        | (refine opv_convu64 (T := TT) rfl rfl rfl ?_; (next => (first | omega | (simp [NFL] <;> omega))))
        | exact opv_conv8 (T := TT) rfl rfl rfl
        | exact opv_conv_int (T := TT) rfl rfl rfl
        | exact opv_conv_str (T := TT) rfl rfl rfl
        | exact opv_bytes_str (T := TT) rfl rfl rfl rfl
        | exact opv_str_bytes (T := TT) rfl rfl rfl rfl
        | fail)
       | (apply opk ⟨_, .call { callee := .builtin .len, args := _, argTypes := _ }, _, _, _, _⟩; first
        | exact opv_len_str (T := TT) rfl rfl rfl
        | exact opv_len_sl (T := TT) rfl rfl rfl
        | exact opv_len_nil (T := TT) rfl rfl rfl
        | fail)
       | (apply opk ⟨_, .indexAddr _ _ _, _, _, _, _⟩; first
        | (refine opv_indexaddr_byte (T := TT) rfl rfl rfl rfl ?_ ?_; (next => (first | omega | (simp [NFL] <;> omega))); (next => (first | omega | (simp [NFL] <;> omega))))
        | (refine opv_indexaddr (T := TT) rfl rfl rfl rfl ?_ ?_; (next => (first | omega | (simp [NFL] <;> omega))); (next => (first | omega | (simp [NFL] <;> omega))))
        | fail)
       | (apply opk ⟨_, .load _ _, _, _, _, _⟩; first | exact opv_load_el (T := TT) rfl rfl rfl | exact opv_load_els (T := TT) rfl rfl rfl rfl | fail)
       | fail)))
      | (refine arO _ ?_; first
       | (refine arO ⟨_, .move _, _, _, _, _⟩ ?_; first | refine ar_move_sl rfl rfl rfl rfl ?_ | fail)
       | (refine arO ⟨_, .assign _, _, _, _, _⟩ ?_; first
        | refine ar_assign_sl rfl rfl rfl rfl ?_
        | refine ar_op rfl rfl rfl rfl (opv_const (cst_plain _) (.inr rfl)) ?_
        | fail)
       | (refine arO ⟨_, .load _ _, _, _, _, _⟩ ?_; first
        | refine ar_load_own (T := TT) rfl rfl rfl rfl look_hd rfl rfl rfl rfl ?_
        | (refine ar_load_own (T := TT) rfl rfl rfl rfl (look_tl ?_ look_hd) rfl rfl rfl rfl ?_; (next => (first | assumption | (intro e; exact absurd e.symm (by assumption)))))
        | (refine ar_load_own (T := TT) rfl rfl rfl rfl (look_tl ?_ (look_tl ?_ look_hd)) rfl rfl rfl rfl ?_; (next => (first | assumption | (intro e; exact absurd e.symm (by assumption)))); (next => (first | assumption | (intro e; exact absurd e.symm (by assumption)))))
        | fail)
       | fail)
      | refine ar_seq ?_
      | (refine arE ?_; refine ar_endM [0, 2, 3, 5, 6, 8, 9, 10, 11, 18, 19] rfl ?_)
      | refine ar_region ?_
      | refine ar_block ?_
      | refine ar_skip ?_
      | refine ar_blk ?_
      | refine ar_dedup rfl ?_
      | (refine arC (.cond _ _ _) ?_; first
       | (refine ar_cond_true rfl ?_ ?_; (next => (first | rfl | (simp only [decide_eq_true_eq, beq_iff_eq, bne_iff_ne, ge_iff_le, gt_iff_lt, ne_eq, Bool.not_eq_true', decide_eq_false_iff_not]; omega))))
       | (refine ar_cond_false rfl ?_ ?_; (next => (first
        | rfl
        | (simp only [decide_eq_false_iff_not, beq_eq_false_iff_ne, bne_eq_false_iff_eq, ge_iff_le, gt_iff_lt, ne_eq, Bool.not_eq_false', decide_eq_true_eq]; omega))))
       | fail)
      | refine ar_exit ?_
      | refine stk_b_hit ?_
      | refine stk_b_miss rfl ?_
      | refine stk_c_exit ?_
      | refine stk_l_exit ?_
      | (refine arC .ret ?_; refine ar_retM [2] ?_)
      | refine stk_c_ret ?_
      | refine stk_b_ret ?_
      | refine stk_l_ret ?_
      | refine stk_nil ?_
      | fail)
    refine ar_loop (fun k : Nat => ⟨31, [(3, .v (.int .u32 (crcN k (c0 ^^^ (s.getD i 0).toNat) : Nat))), (8, .sl true 1 (byteA s)), (9, .v (.int .i64 s.length)), (10, .v (.int .i64 i)), (18, .v (.int .i64 k))], [], []⟩) (fun k => k ≤ 8) (fun k => 8 - k) 0 ⟨rfl, ?_, ?_, rfl⟩ (Nat.zero_le _) ?_
    · (repeat' (first
      | exact trivial
      | exact LeL.refl _
      | exact .refl _
      | refine ⟨⟨_, rfl, ?_⟩, ?_⟩
      | refine ⟨⟨_, look_hd, ?_⟩, ?_⟩
      | refine ⟨⟨_, look_tl (by first | assumption | (intro e; exact absurd e.symm (by assumption))) look_hd, ?_⟩, ?_⟩
      | refine ⟨⟨_, look_tl (by first | assumption | (intro e; exact absurd e.symm (by assumption))) (look_tl (by first | assumption | (intro e; exact absurd e.symm (by assumption))) look_hd), ?_⟩, ?_⟩
      | refine ⟨⟨_, look_tl (by first | assumption | (intro e; exact absurd e.symm (by assumption))) (look_tl (by first | assumption | (intro e; exact absurd e.symm (by assumption))) (look_tl (by first | assumption | (intro e; exact absurd e.symm (by assumption))) look_hd)), ?_⟩, ?_⟩
      | refine ⟨⟨_, look_tl (by first | assumption | (intro e; exact absurd e.symm (by assumption))) (look_tl (by first | assumption | (intro e; exact absurd e.symm (by assumption))) (look_tl (by first | assumption | (intro e; exact absurd e.symm (by assumption))) (look_tl (by first | assumption | (intro e; exact absurd e.symm (by assumption))) look_hd))), ?_⟩, ?_⟩
      | exact .nil _ _
      | exact .rd _ _ _
      | refine LeL.cons ?_ ?_
      | exact LeL.nil
      | refine Le1.of_eq ?_))
      all_goals rfl
    · (repeat' (first
      | exact trivial
      | exact LeL.refl _
      | exact .refl _
      | refine ⟨⟨_, rfl, ?_⟩, ?_⟩
      | refine ⟨⟨_, look_hd, ?_⟩, ?_⟩
      | refine ⟨⟨_, look_tl (by first | assumption | (intro e; exact absurd e.symm (by assumption))) look_hd, ?_⟩, ?_⟩
      | refine ⟨⟨_, look_tl (by first | assumption | (intro e; exact absurd e.symm (by assumption))) (look_tl (by first | assumption | (intro e; exact absurd e.symm (by assumption))) look_hd), ?_⟩, ?_⟩
      | refine ⟨⟨_, look_tl (by first | assumption | (intro e; exact absurd e.symm (by assumption))) (look_tl (by first | assumption | (intro e; exact absurd e.symm (by assumption))) (look_tl (by first | assumption | (intro e; exact absurd e.symm (by assumption))) look_hd)), ?_⟩, ?_⟩
      | refine ⟨⟨_, look_tl (by first | assumption | (intro e; exact absurd e.symm (by assumption))) (look_tl (by first | assumption | (intro e; exact absurd e.symm (by assumption))) (look_tl (by first | assumption | (intro e; exact absurd e.symm (by assumption))) (look_tl (by first | assumption | (intro e; exact absurd e.symm (by assumption))) look_hd))), ?_⟩, ?_⟩
      | exact .nil _ _
      | exact .rd _ _ _
      | refine LeL.cons ?_ ?_
      | exact LeL.nil
      | refine Le1.of_eq ?_))
    intro k hk
    have hx : c0 ^^^ (s.getD i 0).toNat < 4294967296 := xor_lt32 hcr (by omega)
    have hck : crcN k (c0 ^^^ (s.getD i 0).toNat) < 4294967296 := crcN_lt hx
    have hcs := crcN_succ k (c0 ^^^ (s.getD i 0).toNat)
    have hc8 : crcOne c0 (s.getD i 0) = crcN 8 (c0 ^^^ (s.getD i 0).toNat) := rfl
    by_cases hke : k = 8
    · repeat (first
      | ((first | apply ar_un | apply stk_un); (next => (first | (simp only [go_sem, Nat.reduceBEq, Nat.reduceEqDiff, reduceIte, reduceCtorEq, String.reduceEq, Nat.reduceAdd, Int.reduceToNat]; exact rfl) | exact rfl)))
      | (first
       | refine ar_unwantedN rfl rfl rfl rfl ?_
       | refine ar_unwantedU rfl rfl rfl rfl ?_
       | (apply ar_opN rfl rfl rfl rfl; (next => (first
        | exact opv_pickt_cb rfl rfl
        | exact opv_pickf_cb rfl rfl
        | exact opv_pickt rfl rfl rfl
        | exact opv_pickf rfl rfl rfl
        | exact opv_len_str (T := TT) rfl rfl rfl
        | exact opv_len_sl (T := TT) rfl rfl rfl
        | fail)))
       | fail)
      | (refine arC .ret ?_; refine ar_retM0 [2] ?_)
      | (apply ar_op' rfl rfl rfl rfl; (next => (first
       | exact opv_xor32 rfl rfl rfl (by omega) (by omega)
       | exact opv_and32 rfl rfl rfl (by omega)
       | exact opv_shr32 2 rfl rfl rfl rfl (by decide)
       | exact opv_mul32p rfl rfl rfl (by omega)
       | exact opv_not32 rfl rfl (by omega)
       | exact opv_conv32b (T := TT) rfl rfl rfl
       | fail)))
      | (apply ar_op' rfl rfl rfl rfl; (next => (first
       | (refine evalE_ok (T := TT) rfl ?_; (first | exact trivial | omega | (simp [NFL] <;> omega)))
       | (apply opk ⟨_, .move _, _, _, _, _⟩; first | exact opv_const (cst_plain _) (.inl rfl) | fail)
       | (apply opk ⟨_, .binOp .add _ _ _ _, _, _, _, _⟩; first | exact opv_bin rfl rfl rfl | fail)
       | (apply opk ⟨_, .binOp .mul _ _ _ _, _, _, _, _⟩; first | exact opv_bin rfl rfl rfl | fail)
       | (apply opk ⟨_, .binOp .and _ _ _ _, _, _, _, _⟩; first
        | (refine opv_and_mod 2 4 rfl rfl rfl ?_ ?_ ?_ ?_ ?_; (next => (first | exact .inl rfl | exact .inr rfl)); (next => (decide)); (next => (decide)); (next => (decide)); (next => (first | omega | (simp [NFL] <;> omega))))
        | (refine opv_and_mod 3 8 rfl rfl rfl ?_ ?_ ?_ ?_ ?_; (next => (first | exact .inl rfl | exact .inr rfl)); (next => (decide)); (next => (decide)); (next => (decide)); (next => (first | omega | (simp [NFL] <;> omega))))
        | (refine opv_and_mod 7 128 rfl rfl rfl ?_ ?_ ?_ ?_ ?_; (next => (first | exact .inl rfl | exact .inr rfl)); (next => (decide)); (next => (decide)); (next => (decide)); (next => (first | omega | (simp [NFL] <;> omega))))
        | exact opv_bin rfl rfl rfl
        | fail)
       | (apply opk ⟨_, .binOp .xor _ _ _ _, _, _, _, _⟩; first | exact opv_bin rfl rfl rfl | fail)
       | (apply opk ⟨_, .binOp .shr _ _ _ _, _, _, _, _⟩; first | (refine opv_shr rfl rfl rfl ?_; (next => (first | omega | (simp [NFL] <;> omega)))) | fail)
       | (apply opk ⟨_, .binOp .lss _ _ _ _, _, _, _, _⟩; first
        | (refine opv_cmp_t rfl rfl rfl ?_; (next => (first | exact rfl | (simp only [cmpP]; omega) | (simp only [cmpP]; simp [NFL] <;> omega))))
        | (refine opv_cmp_f rfl rfl rfl ?_; (next => (first | exact rfl | (simp only [cmpP]; omega) | (simp only [cmpP]; simp [NFL] <;> omega))))
        | exact opv_bin rfl rfl rfl
        | exact opv_str rfl rfl rfl
        | fail)
       | (apply opk ⟨_, .unOp _ _ _, _, _, _, _⟩; first | exact opv_not_t rfl rfl | exact opv_not_f rfl rfl | exact opv_neg rfl rfl | fail)
       | (apply opk ⟨_, .convert _ _ _, _, _, _, _⟩; first
        | (refine opv_conv_byte (T := TT) rfl rfl rfl ?_; (next => (first | exact .inl rfl | exact .inr (.inl rfl) | exact .inr (.inr rfl))))
        | (refine opv_conv64 (T := TT) rfl rfl rfl ?_; (next => (first | omega | (simp [NFL] <;> omega))))
        | (refine opv_convu64 (T := TT) rfl rfl rfl ?_; (next => (first | omega | (simp [NFL] <;> omega))))
        | exact opv_conv8 (T := TT) rfl rfl rfl
        | exact opv_conv_int (T := TT) rfl rfl rfl
        | exact opv_conv_str (T := TT) rfl rfl rfl
        | exact opv_bytes_str (T := TT) rfl rfl rfl rfl
        | exact opv_str_bytes (T := TT) rfl rfl rfl rfl
        | fail)
       | (apply opk ⟨_, .call { callee := .builtin .len, args := _, argTypes := _ }, _, _, _, _⟩; first
        | exact opv_len_str (T := TT) rfl rfl rfl
        | exact opv_len_sl (T := TT) rfl rfl rfl
        | exact opv_len_nil (T := TT) rfl rfl rfl
        | fail)
       | (apply opk ⟨_, .indexAddr _ _ _, _, _, _, _⟩; first
        | (refine opv_indexaddr_byte (T := TT) rfl rfl rfl rfl ?_ ?_; (next => (first | omega | (simp [NFL] <;> omega))); (next => (first | omega | (simp [NFL] <;> omega))))
        | (refine opv_indexaddr (T := TT) rfl rfl rfl rfl ?_ ?_; (next => (first | omega | (simp [NFL] <;> omega))); (next => (first | omega | (simp [NFL] <;> omega))))
        | fail)
       | (apply opk ⟨_, .load _ _, _, _, _, _⟩; first | exact opv_load_el (T := TT) rfl rfl rfl | exact opv_load_els (T := TT) rfl rfl rfl rfl | fail)
       | fail)))
      | (refine arO _ ?_; first
       | (refine arO ⟨_, .move _, _, _, _, _⟩ ?_; first | refine ar_move_sl rfl rfl rfl rfl ?_ | fail)
       | (refine arO ⟨_, .assign _, _, _, _, _⟩ ?_; first
        | refine ar_assign_sl rfl rfl rfl rfl ?_
        | refine ar_op rfl rfl rfl rfl (opv_const (cst_plain _) (.inr rfl)) ?_
        | fail)
       | (refine arO ⟨_, .load _ _, _, _, _, _⟩ ?_; first
        | refine ar_load_own (T := TT) rfl rfl rfl rfl look_hd rfl rfl rfl rfl ?_
        | (refine ar_load_own (T := TT) rfl rfl rfl rfl (look_tl ?_ look_hd) rfl rfl rfl rfl ?_; (next => (first | assumption | (intro e; exact absurd e.symm (by assumption)))))
        | (refine ar_load_own (T := TT) rfl rfl rfl rfl (look_tl ?_ (look_tl ?_ look_hd)) rfl rfl rfl rfl ?_; (next => (first | assumption | (intro e; exact absurd e.symm (by assumption)))); (next => (first | assumption | (intro e; exact absurd e.symm (by assumption)))))
        | fail)
       | fail)
      | refine ar_seq ?_
      | (refine arE ?_; refine ar_endM [0, 2, 3, 5, 6, 8, 9, 10, 11, 18, 19] rfl ?_)
      | refine ar_region ?_
      | refine ar_block ?_
      | refine ar_skip ?_
      | refine ar_blk ?_
      | refine ar_dedup rfl ?_
      | (refine arC (.cond _ _ _) ?_; first
       | (refine ar_cond_true rfl ?_ ?_; (next => (first | rfl | (simp only [decide_eq_true_eq, beq_iff_eq, bne_iff_ne, ge_iff_le, gt_iff_lt, ne_eq, Bool.not_eq_true', decide_eq_false_iff_not]; omega))))
       | (refine ar_cond_false rfl ?_ ?_; (next => (first
        | rfl
        | (simp only [decide_eq_false_iff_not, beq_eq_false_iff_ne, bne_eq_false_iff_eq, ge_iff_le, gt_iff_lt, ne_eq, Bool.not_eq_false', decide_eq_true_eq]; omega))))
       | fail)
      | refine ar_exit ?_
      | refine stk_b_hit ?_
      | refine stk_b_miss rfl ?_
      | refine stk_c_exit ?_
      | refine stk_l_exit ?_
      | (refine arC .ret ?_; refine ar_retM [2] ?_)
      | refine stk_c_ret ?_
      | refine stk_b_ret ?_
      | refine stk_l_ret ?_
      | refine stk_nil ?_
      | fail)
      refine ar_back ⟨i + 1, ⟨rfl, ?_, ?_, rfl⟩, by omega, by omega⟩
      · (repeat' (first
        | exact trivial
        | exact LeL.refl _
        | exact .refl _
        | refine ⟨⟨_, rfl, ?_⟩, ?_⟩
        | refine ⟨⟨_, look_hd, ?_⟩, ?_⟩
        | refine ⟨⟨_, look_tl (by first | assumption | (intro e; exact absurd e.symm (by assumption))) look_hd, ?_⟩, ?_⟩
        | refine ⟨⟨_, look_tl (by first | assumption | (intro e; exact absurd e.symm (by assumption))) (look_tl (by first | assumption | (intro e; exact absurd e.symm (by assumption))) look_hd), ?_⟩, ?_⟩
        | refine ⟨⟨_, look_tl (by first | assumption | (intro e; exact absurd e.symm (by assumption))) (look_tl (by first | assumption | (intro e; exact absurd e.symm (by assumption))) (look_tl (by first | assumption | (intro e; exact absurd e.symm (by assumption))) look_hd)), ?_⟩, ?_⟩
        | refine ⟨⟨_, look_tl (by first | assumption | (intro e; exact absurd e.symm (by assumption))) (look_tl (by first | assumption | (intro e; exact absurd e.symm (by assumption))) (look_tl (by first | assumption | (intro e; exact absurd e.symm (by assumption))) (look_tl (by first | assumption | (intro e; exact absurd e.symm (by assumption))) look_hd))), ?_⟩, ?_⟩
        | exact .nil _ _
        | exact .rd _ _ _
        | refine LeL.cons ?_ ?_
        | exact LeL.nil
        | refine Le1.of_eq ?_))
        all_goals (rw [hsucc, hc8, hke])
      · (repeat' (first
        | exact trivial
        | exact LeL.refl _
        | exact .refl _
        | refine ⟨⟨_, rfl, ?_⟩, ?_⟩
        | refine ⟨⟨_, look_hd, ?_⟩, ?_⟩
        | refine ⟨⟨_, look_tl (by first | assumption | (intro e; exact absurd e.symm (by assumption))) look_hd, ?_⟩, ?_⟩
        | refine ⟨⟨_, look_tl (by first | assumption | (intro e; exact absurd e.symm (by assumption))) (look_tl (by first | assumption | (intro e; exact absurd e.symm (by assumption))) look_hd), ?_⟩, ?_⟩
        | refine ⟨⟨_, look_tl (by first | assumption | (intro e; exact absurd e.symm (by assumption))) (look_tl (by first | assumption | (intro e; exact absurd e.symm (by assumption))) (look_tl (by first | assumption | (intro e; exact absurd e.symm (by assumption))) look_hd)), ?_⟩, ?_⟩
        | refine ⟨⟨_, look_tl (by first | assumption | (intro e; exact absurd e.symm (by assumption))) (look_tl (by first | assumption | (intro e; exact absurd e.symm (by assumption))) (look_tl (by first | assumption | (intro e; exact absurd e.symm (by assumption))) (look_tl (by first | assumption | (intro e; exact absurd e.symm (by assumption))) look_hd))), ?_⟩, ?_⟩
        | exact .nil _ _
        | exact .rd _ _ _
        | refine LeL.cons ?_ ?_
        | exact LeL.nil
        | refine Le1.of_eq ?_))
    · rw [crcStep_mul] at hcs
      generalize crcN k (c0 ^^^ (s.getD i 0).toNat) = c1 at hck hcs
      repeat (first
        | ((first | apply ar_un | apply stk_un); (next => (first | (simp only [go_sem, Nat.reduceBEq, Nat.reduceEqDiff, reduceIte, reduceCtorEq, String.reduceEq, Nat.reduceAdd, Int.reduceToNat]; exact rfl) | exact rfl)))
        | (first
         | refine ar_unwantedN rfl rfl rfl rfl ?_
         | refine ar_unwantedU rfl rfl rfl rfl ?_
         | (apply ar_opN rfl rfl rfl rfl; (next => (first
          | exact opv_pickt_cb rfl rfl
          | exact opv_pickf_cb rfl rfl
          | exact opv_pickt rfl rfl rfl
          | exact opv_pickf rfl rfl rfl
          | exact opv_len_str (T := TT) rfl rfl rfl
          | exact opv_len_sl (T := TT) rfl rfl rfl
          | fail)))
         | fail)
        | (refine arC .ret ?_; refine ar_retM0 [2] ?_)
        | (apply ar_op' rfl rfl rfl rfl; (next => (first
         | exact opv_xor32 rfl rfl rfl (by omega) (by omega)
         | exact opv_and32 rfl rfl rfl (by omega)
         | exact opv_shr32 2 rfl rfl rfl rfl (by decide)
         | exact opv_mul32p rfl rfl rfl (by omega)
         | exact opv_not32 rfl rfl (by omega)
         | exact opv_conv32b (T := TT) rfl rfl rfl
         | fail)))
        | (apply ar_op' rfl rfl rfl rfl; (next => (first
         | (refine evalE_ok (T := TT) rfl ?_; (first | exact trivial | omega | (simp [NFL] <;> omega)))
         | (apply opk ⟨_, .move _, _, _, _, _⟩; first | exact opv_const (cst_plain _) (.inl rfl) | fail)
         | (apply opk ⟨_, .binOp .add _ _ _ _, _, _, _, _⟩; first | exact opv_bin rfl rfl rfl | fail)
         | (apply opk ⟨_, .binOp .mul _ _ _ _, _, _, _, _⟩; first | exact opv_bin rfl rfl rfl | fail)
         | (apply opk ⟨_, .binOp .and _ _ _ _, _, _, _, _⟩; first
          | (refine opv_and_mod 2 4 rfl rfl rfl ?_ ?_ ?_ ?_ ?_; (next => (first | exact .inl rfl | exact .inr rfl)); (next => (decide)); (next => (decide)); (next => (decide)); (next => (first | omega | (simp [NFL] <;> omega))))
          | (refine opv_and_mod 3 8 rfl rfl rfl ?_ ?_ ?_ ?_ ?_; (next => (first | exact .inl rfl | exact .inr rfl)); (next => (decide)); (next => (decide)); (next => (decide)); (next => (first | omega | (simp [NFL] <;> omega))))
          | (refine opv_and_mod 7 128 rfl rfl rfl ?_ ?_ ?_ ?_ ?_; (next => (first | exact .inl rfl | exact .inr rfl)); (next => (decide)); (next => (decide)); (next => (decide)); (next => (first | omega | (simp [NFL] <;> omega))))
          | exact opv_bin rfl rfl rfl
          | fail)
         | (apply opk ⟨_, .binOp .xor _ _ _ _, _, _, _, _⟩; first | exact opv_bin rfl rfl rfl | fail)
         | (apply opk ⟨_, .binOp .shr _ _ _ _, _, _, _, _⟩; first | (refine opv_shr rfl rfl rfl ?_; (next => (first | omega | (simp [NFL] <;> omega)))) | fail)
         | (apply opk ⟨_, .binOp .lss _ _ _ _, _, _, _, _⟩; first
          | (refine opv_cmp_t rfl rfl rfl ?_; (next => (first | exact rfl | (simp only [cmpP]; omega) | (simp only [cmpP]; simp [NFL] <;> omega))))
          | (refine opv_cmp_f rfl rfl rfl ?_; (next => (first | exact rfl | (simp only [cmpP]; omega) | (simp only [cmpP]; simp [NFL] <;> omega))))
          | exact opv_bin rfl rfl rfl
          | exact opv_str rfl rfl rfl
          | fail)
         | (apply opk ⟨_, .unOp _ _ _, _, _, _, _⟩; first | exact opv_not_t rfl rfl | exact opv_not_f rfl rfl | exact opv_neg rfl rfl | fail)
         | (apply opk ⟨_, .convert _ _ _, _, _, _, _⟩; first
          | (refine opv_conv_byte (T := TT) rfl rfl rfl ?_; (next => (first | exact .inl rfl | exact .inr (.inl rfl) | exact .inr (.inr rfl))))
          | (refine opv_conv64 (T := TT) rfl rfl rfl ?_; (next => (first | omega | (simp [NFL] <;> omega))))
          | (refine opv_convu64 (T := TT) rfl rfl rfl ?_; (next => (first | omega | (simp [NFL] <;> omega))))
          | exact opv_conv8 (T := TT) rfl rfl rfl
          | exact opv_conv_int (T := TT) rfl rfl rfl
          | exact opv_conv_str (T := TT) rfl rfl rfl
          | exact opv_bytes_str (T := TT) rfl rfl rfl rfl
          | exact opv_str_bytes (T := TT) rfl rfl rfl rfl
          | fail)
         | (apply opk ⟨_, .call { callee := .builtin .len, args := _, argTypes := _ }, _, _, _, _⟩; first
          | exact opv_len_str (T := TT) rfl rfl rfl
          | exact opv_len_sl (T := TT) rfl rfl rfl
          | exact opv_len_nil (T := TT) rfl rfl rfl
          | fail)
         | (apply opk ⟨_, .indexAddr _ _ _, _, _, _, _⟩; first
          | (refine opv_indexaddr_byte (T := TT) rfl rfl rfl rfl ?_ ?_; (next => (first | omega | (simp [NFL] <;> omega))); (next => (first | omega | (simp [NFL] <;> omega))))
          | (refine opv_indexaddr (T := TT) rfl rfl rfl rfl ?_ ?_; (next => (first | omega | (simp [NFL] <;> omega))); (next => (first | omega | (simp [NFL] <;> omega))))
          | fail)
         | (apply opk ⟨_, .load _ _, _, _, _, _⟩; first | exact opv_load_el (T := TT) rfl rfl rfl | exact opv_load_els (T := TT) rfl rfl rfl rfl | fail)
         | fail)))
        | (refine arO _ ?_; first
         | (refine arO ⟨_, .move _, _, _, _, _⟩ ?_; first | refine ar_move_sl rfl rfl rfl rfl ?_ | fail)
         | (refine arO ⟨_, .assign _, _, _, _, _⟩ ?_; first
          | refine ar_assign_sl rfl rfl rfl rfl ?_
          | refine ar_op rfl rfl rfl rfl (opv_const (cst_plain _) (.inr rfl)) ?_
          | fail)
         | (refine arO ⟨_, .load _ _, _, _, _, _⟩ ?_; first
          | refine ar_load_own (T := TT) rfl rfl rfl rfl look_hd rfl rfl rfl rfl ?_
          | (refine ar_load_own (T := TT) rfl rfl rfl rfl (look_tl ?_ look_hd) rfl rfl rfl rfl ?_; (next => (first | assumption | (intro e; exact absurd e.symm (by assumption)))))
          | (refine ar_load_own (T := TT) rfl rfl rfl rfl (look_tl ?_ (look_tl ?_ look_hd)) rfl rfl rfl rfl ?_; (next => (first | assumption | (intro e; exact absurd e.symm (by assumption)))); (next => (first | assumption | (intro e; exact absurd e.symm (by assumption)))))
          | fail)
         | fail)
        | refine ar_seq ?_
        | (refine arE ?_; refine ar_endM [0, 2, 3, 5, 6, 8, 9, 10, 11, 18, 19] rfl ?_)
        | refine ar_region ?_
        | refine ar_block ?_
        | refine ar_skip ?_
        | refine ar_blk ?_
        | refine ar_dedup rfl ?_
        | (refine arC (.cond _ _ _) ?_; first
         | (refine ar_cond_true rfl ?_ ?_; (next => (first | rfl | (simp only [decide_eq_true_eq, beq_iff_eq, bne_iff_ne, ge_iff_le, gt_iff_lt, ne_eq, Bool.not_eq_true', decide_eq_false_iff_not]; omega))))
         | (refine ar_cond_false rfl ?_ ?_; (next => (first
          | rfl
          | (simp only [decide_eq_false_iff_not, beq_eq_false_iff_ne, bne_eq_false_iff_eq, ge_iff_le, gt_iff_lt, ne_eq, Bool.not_eq_false', decide_eq_true_eq]; omega))))
         | fail)
        | refine ar_exit ?_
        | refine stk_b_hit ?_
        | refine stk_b_miss rfl ?_
        | refine stk_c_exit ?_
        | refine stk_l_exit ?_
        | (refine arC .ret ?_; refine ar_retM [2] ?_)
        | refine stk_c_ret ?_
        | refine stk_b_ret ?_
        | refine stk_l_ret ?_
        | refine stk_nil ?_
        | fail)
      refine ar_back ⟨k + 1, ⟨rfl, ?_, ?_, rfl⟩, by omega, by omega⟩
      · (repeat' (first
        | exact trivial
        | exact LeL.refl _
        | exact .refl _
        | refine ⟨⟨_, rfl, ?_⟩, ?_⟩
        | refine ⟨⟨_, look_hd, ?_⟩, ?_⟩
        | refine ⟨⟨_, look_tl (by first | assumption | (intro e; exact absurd e.symm (by assumption))) look_hd, ?_⟩, ?_⟩
        | refine ⟨⟨_, look_tl (by first | assumption | (intro e; exact absurd e.symm (by assumption))) (look_tl (by first | assumption | (intro e; exact absurd e.symm (by assumption))) look_hd), ?_⟩, ?_⟩
        | refine ⟨⟨_, look_tl (by first | assumption | (intro e; exact absurd e.symm (by assumption))) (look_tl (by first | assumption | (intro e; exact absurd e.symm (by assumption))) (look_tl (by first | assumption | (intro e; exact absurd e.symm (by assumption))) look_hd)), ?_⟩, ?_⟩
        | refine ⟨⟨_, look_tl (by first | assumption | (intro e; exact absurd e.symm (by assumption))) (look_tl (by first | assumption | (intro e; exact absurd e.symm (by assumption))) (look_tl (by first | assumption | (intro e; exact absurd e.symm (by assumption))) (look_tl (by first | assumption | (intro e; exact absurd e.symm (by assumption))) look_hd))), ?_⟩, ?_⟩
        | exact .nil _ _
        | exact .rd _ _ _
        | refine LeL.cons ?_ ?_
        | exact LeL.nil
        | refine Le1.of_eq ?_))
        all_goals (rw [hcs])
      · (repeat' (first
        | exact trivial
        | exact LeL.refl _
        | exact .refl _
        | refine ⟨⟨_, rfl, ?_⟩, ?_⟩
        | refine ⟨⟨_, look_hd, ?_⟩, ?_⟩
        | refine ⟨⟨_, look_tl (by first | assumption | (intro e; exact absurd e.symm (by assumption))) look_hd, ?_⟩, ?_⟩
        | refine ⟨⟨_, look_tl (by first | assumption | (intro e; exact absurd e.symm (by assumption))) (look_tl (by first | assumption | (intro e; exact absurd e.symm (by assumption))) look_hd), ?_⟩, ?_⟩
        | refine ⟨⟨_, look_tl (by first | assumption | (intro e; exact absurd e.symm (by assumption))) (look_tl (by first | assumption | (intro e; exact absurd e.symm (by assumption))) (look_tl (by first | assumption | (intro e; exact absurd e.symm (by assumption))) look_hd)), ?_⟩, ?_⟩
        | refine ⟨⟨_, look_tl (by first | assumption | (intro e; exact absurd e.symm (by assumption))) (look_tl (by first | assumption | (intro e; exact absurd e.symm (by assumption))) (look_tl (by first | assumption | (intro e; exact absurd e.symm (by assumption))) (look_tl (by first | assumption | (intro e; exact absurd e.symm (by assumption))) look_hd))), ?_⟩, ?_⟩
        | exact .nil _ _
        | exact .rd _ _ _
        | refine LeL.cons ?_ ?_
        | exact LeL.nil
        | refine Le1.of_eq ?_))
end Go.Proofs.Ytgidmcfnnmheoaa
