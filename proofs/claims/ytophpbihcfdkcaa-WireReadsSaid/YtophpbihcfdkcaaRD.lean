/- What wire reads a label and a sample from, walked over abstract values. -/
import Derived.Test.YtophpbihcfdkcaaRC
import Derived.Lib.EndianBits
namespace Go.Proofs.Ytophpbihcfdkcaa
open Go.RowKit P
set_option linter.unusedSimpArgs false
set_option linter.unusedVariables false
attribute [local irreducible] AS.nf OpV ARun Stk QSem QSemA ACalls EffOp AppOk SrcOk Awp Aops PanK CallEnd SubS QretC
set_option maxHeartbeats 8000000

section
variable {P : Program} {σ : AS} {t yt ty : TypeId} {x y : Operand} {pos : String} {af : Array Edge} {g : Option (Nat × Bool)} {dd : Option Tmp}
theorem opv_shl_byte {n : Int} (b i : Nat) (hx : opV σ x = some (.v (.int .u64 b))) (hy : opV σ y = some (.v (.int .i64 n))) (hn : n = ((8 * i : Nat) : Int)) (hi : i < 8) (hb : b < 256) : OpV P ⟨dd, .binOp .shl t x y yt, ty, pos, af, g⟩ σ (.v (.int .u64 ((256 ^ i * b : Nat) : Int))) := by
  subst hn
  have h := opv_shl (P := P) (d := dd) (t := t) (yt := yt) (ty := ty) (pos := pos) (af := af) (g := g) hx hy rfl (by omega)
  have hm : min (((8 * i : Nat) : Int)).toNat IntKind.u64.bits = 8 * i := by
    show min (8 * i) 64 = 8 * i
    omega
  rw [hm] at h
  have hp : (2 : Nat) ^ (8 * i) = 256 ^ i := by rw [Nat.pow_mul]
  have hle : 256 ^ i ≤ 256 ^ 7 := Nat.pow_le_pow_right (by decide) (by omega)
  have hlt : 256 ^ i * b < 18446744073709551616 := by
    have : 256 ^ i * b ≤ 256 ^ 7 * 255 := Nat.mul_le_mul hle (by omega)
    omega
  have he : ((b : Nat) : Int) * 2 ^ (8 * i) = ((256 ^ i * b : Nat) : Int) := by
    rw [Nat.mul_comm, ← hp]; simp [Nat.mul_comm]
  rw [he] at h
  have hw : IntKind.u64.wrap ((256 ^ i * b : Nat) : Int) = ((256 ^ i * b : Nat) : Int) := wraps_u64 _ (by omega) (by omega)
  rwa [hw] at h
theorem opv_or_byte (a b i : Nat) (hx : opV σ x = some (.v (.int .u64 a))) (hy : opV σ y = some (.v (.int .u64 ((256 ^ i * b : Nat) : Int)))) (hi : i < 8) (hb : b < 256) (ha : a < 256 ^ i) : OpV P ⟨dd, .binOp .or t x y yt, ty, pos, af, g⟩ σ (.v (.int .u64 ((a + 256 ^ i * b : Nat) : Int))) := by
  have hp : (2 : Nat) ^ (8 * i) = 256 ^ i := by rw [Nat.pow_mul]
  have hle : 256 ^ i ≤ 256 ^ 7 := Nat.pow_le_pow_right (by decide) (by omega)
  have hlt : 256 ^ i * b < 18446744073709551616 := by
    have : 256 ^ i * b ≤ 256 ^ 7 * 255 := Nat.mul_le_mul hle (by omega)
    omega
  have hpi : ((2 : Int) ^ (8 * i)) = ((256 ^ i : Nat) : Int) := by rw [← hp]; simp
  refine opv_bin hx hy ?_
  simp only [arV]
  rw [bits_join_low .u64 64 (by decide) wraps_u64 (8 * i) (a : Int) ((256 ^ i * b : Nat) : Int) (by omega) (by rw [hpi]; omega) (by omega) (by omega) (by rw [hpi, ← Int.natCast_emod, Nat.mul_mod_right]; rfl) (by omega)]
  simp
end

theorem runF_labels (s : List UInt8) : ∃ r, runF labelStep s ([], []) = r ∧ labelB s = r := ⟨_, rfl, rfl⟩
/-- Where a label is gathered. -/
def stL (kt : Nat) (x : Lbl) : List (Nat × List AV) := [(kt, [.v (.string (mkB x.1)), .v (.string (mkB x.2))])]

set_option maxRecDepth 100000 in
theorem label1_a (kt : Nat) (x : Lbl) (v : Fld) :
    ACalls Try.prog 63 [fldV v, .v (.pointer (some ⟨kt, 0, none⟩))] (stL kt x) (fun out H' => out = .ret (.tu []) ∧ H' = stL kt (if v.num = 1 ∧ v.kind = 2 then (v.bs, x.2) else if v.num = 2 ∧ v.kind = 2 then (x.1, v.bs) else x)) := by
  unfold fldV fldA stL
  refine acalls_enterC TT 15 [] Try.func63 (by kernel_rfl) rfl rfl rfl rfl ?_
  dsimp only [slotsOf]
  have hsp : (v.num = 1 ∧ v.kind = 2) ∨ (¬ (v.num = 1 ∧ v.kind = 2) ∧ v.num = 2 ∧ v.kind = 2) ∨ (¬ (v.num = 1 ∧ v.kind = 2) ∧ ¬ (v.num = 2 ∧ v.kind = 2)) := by omega
  rcases hsp with h1 | ⟨h1, h2⟩ | ⟨h1, h2⟩
  all_goals (first | rw [if_pos h1] | (rw [if_neg h1]; first | rw [if_pos h2] | rw [if_neg h2]))
  all_goals (repeat (first
    | ((first | apply ar_un); (next => (first | (simp only [go_sem, Nat.reduceBEq, Nat.reduceEqDiff, reduceIte, reduceCtorEq, String.reduceEq, Nat.reduceAdd, Int.reduceToNat]; exact rfl))))
    | (apply ar_op' rfl rfl rfl rfl; (next => (first
     | (refine evalE_ok (T := TT) rfl ?_; (first | exact trivial))
     | (apply opk ⟨_, .fieldAddr _ _ _, _, _, _, _⟩; first | exact opv_field_box (T := TT) rfl rfl rfl rfl rfl | fail)
     | fail)))
    | (refine arO _ ?_; first
     | (refine arO ⟨_, .load _ _, _, _, _, _⟩ ?_; first | refine ar_load_own (T := TT) rfl rfl rfl rfl look_hd rfl rfl rfl rfl ?_ | fail)
     | (refine arO ⟨_, .store _ _ _, _, _, _, _⟩ ?_; first
      | (apply ar_effM rfl rfl; (next => (first
       | (apply effTo_store (T := TT) rfl; (next => (first | ((repeat (first | exact look_hd | (apply look_tl; (next => (first | assumption | fail))) | fail)); done) | fail)); (next => rfl); (next => rfl); (next => rfl); (next => rfl); (next => rfl); (next => rfl); (next => rfl); (next => rfl))
       | fail)))
      | fail)
     | (refine arO ⟨_, .box _ _, _, _, _, _⟩ ?_; first
      | (refine ar_eff rfl rfl (eff_boxB rfl rfl rfl rfl ?_); intro kb hkb; (repeat (have hkn := (freshK_ne hkb).1; replace hkb := (freshK_ne hkb).2)); (try have hkl := freshK_look hkb); clear hkb; refine ar_nf ?_)
      | fail)
     | (refine arO ⟨_, .load _ _, _, _, _, _⟩ ?_; first | (refine ar_op' rfl rfl rfl rfl (opv_load_boxr (T := TT) rfl look_hd rfl rfl rfl rfl) ?_) | fail)
     | (refine arO ⟨_, .call { callee := .value _, args := _, argTypes := _ }, _, _, _, _⟩ ?_; first
      | (apply ar_callM0 rfl (is_a v.num v.kind v.n 1 2 v.bs) rfl rfl; (next => (repeat (first | exact PArgs.nil | (apply PArgs.cons; (next => (first | exact PArg.rd rfl (Le1.refl _) rfl)))))); (next => rfl); (next => rfl); rintro _ _ ⟨rfl, rfl⟩; refine ⟨_, rfl, ?_⟩)
      | (apply ar_callM0 rfl (is_a v.num v.kind v.n 2 2 v.bs) rfl rfl; (next => (repeat (first | exact PArgs.nil | (apply PArgs.cons; (next => (first | exact PArg.rd rfl (Le1.refl _) rfl)))))); (next => rfl); (next => rfl); rintro _ _ ⟨rfl, rfl⟩; refine ⟨_, rfl, ?_⟩)
      | fail)
     | fail)
    | refine ar_seq ?_
    | (refine arE ?_; refine ar_endM [0, 1, 2, 3, 9] rfl ?_)
    | refine ar_region ?_
    | refine ar_block ?_
    | refine ar_skip ?_
    | refine ar_blk ?_
    | (refine arC (.cond _ _ _) ?_; first
     | (refine ar_cond_true rfl ?_ ?_; (next => (first | (simp only [decide_eq_true_eq, beq_iff_eq, bne_iff_ne, ge_iff_le, gt_iff_lt, ne_eq, Bool.not_eq_true', decide_eq_false_iff_not]; omega))))
     | (refine ar_cond_false rfl ?_ ?_; (next => (first
      | (simp only [decide_eq_false_iff_not, beq_eq_false_iff_ne, bne_eq_false_iff_eq, ge_iff_le, gt_iff_lt, ne_eq, Bool.not_eq_false', decide_eq_true_eq]; omega))))
     | fail)
    | fail))
  · exact ar_nil (qretC_mkN _ rfl (look_lone look_hd) ⟨rfl, rfl⟩)
  · exact ar_nil (qretC_mkN _ rfl (look_lone look_hd) ⟨rfl, rfl⟩)
  · exact ar_nil (qretC_mkN _ rfl (look_lone (look_tl hkn look_hd)) ⟨rfl, rfl⟩)

theorem label_do (kt : Nat) : DoOk (stL kt) labelStep (fun _ _ => True) 63 [.v (.pointer (some ⟨kt, 0, none⟩))] where
  cap := rfl
  keys := fun a b k h => by
    simp only [stL, look_cons, look_nil] at h ⊢
    by_cases e : k = kt
    · rw [if_pos e] at h; cases h
    · rw [if_neg e]
  mono := fun _ _ _ _ _ => trivial
  good := fun a v m a' _ _ _ h => by
    simp only [labelStep, Option.some.injEq] at h
    subst h
    exact ⟨trivial, label1_a kt a v⟩
  bad := fun a v m _ _ _ h => by simp [labelStep] at h

def retOr {α : Type} (r : Option α) (av : α → AV) (out : AOut) (H : List (Nat × List AV)) : Prop := match r with
  | some x => out = .ret (av x) ∧ H = []
  | none => out = .pan wrongV ∧ H = []
def lblV (x : Lbl) : AV := .ag [.v (.string (mkB x.1)), .v (.string (mkB x.2))]

set_option maxRecDepth 100000 in
theorem label_a (s : List UInt8) (hs : s.length ≤ 140737488355328) : ACalls Try.prog 60 [.v (.string (mkB s))] [] (retOr (labelB s) lblV) := by
  have hf := fun kt => fields_a (label_do kt) s hs ([], []) trivial
  obtain ⟨r, hr⟩ : ∃ r, runF labelStep s ([], []) = r := ⟨_, rfl⟩
  unfold labelB
  rw [hr] at hf ⊢
  refine acalls_enterC TT 8 [.cell 2 48] Try.func60 (by kernel_rfl) rfl rfl rfl rfl ?_
  dsimp only [slotsOf]
  repeat (first
    | ((first | apply ar_un); (next => (first | (simp only [go_sem, Nat.reduceBEq, Nat.reduceEqDiff, reduceIte, reduceCtorEq, String.reduceEq, Nat.reduceAdd, Int.reduceToNat]; exact rfl))))
    | (apply ar_op' rfl rfl rfl rfl; (next => (first | (refine evalE_ok (T := TT) rfl ?_; (first | exact trivial)) | fail)))
    | (refine arO _ ?_; first
     | (refine arO ⟨_, .alloc _, _, _, _, _⟩ ?_; first
      | (refine ar_eff rfl rfl (eff_alloc (T := TT) rfl rfl ?_); intro kb hkb; (repeat (have hkn := (freshK_ne hkb).1; replace hkb := (freshK_ne hkb).2)); (try have hkl := freshK_look hkb); clear hkb; refine ar_nf ?_)
      | fail)
     | fail)
    | refine ar_seq ?_
    | (refine arE ?_; refine ar_endM [0, 2, 3] rfl ?_)
    | refine ar_region ?_
    | fail)
  rename_i kr hkr
  rcases r with _ | x
  · refine ar_callXP (Hp := stL kb ([], [])) (Hr := []) rfl (hf kb) rfl rfl (PArgs.cons (PArg.rd rfl (Le1.refl _) rfl) (PArgs.cons (PArg.rd rfl (Le1.refl _) rfl) PArgs.nil)) rfl rfl (look_lone look_hd) (fun k cs hk => by simp [look_nil] at hk) rfl ?_
    rintro _ _ ⟨rfl, b', rfl⟩
    refine callEnd_pan ?_
    (repeat (first | refine panK_c ?_ | refine panK_b ?_ | refine panK_l ?_ | refine panK_o ?_))
    exact panK_endC0 ⟨rfl, rfl⟩
  · refine ar_callXP (Hp := stL kb ([], [])) (Hr := [(kr, [.v (.string ByteArray.empty), .v (.string ByteArray.empty)])]) rfl (hf kb) rfl rfl (PArgs.cons (PArg.rd rfl (Le1.refl _) rfl) (PArgs.cons (PArg.rd rfl (Le1.refl _) rfl) PArgs.nil)) rfl rfl (look_lone look_hd) (look_one (look_tl hkn look_hd) (look_sole hkn)) rfl ?_
    rintro _ _ ⟨rfl, rfl⟩
    refine callEnd_ret ?_
    unfold stL
    repeat (first
      | ((first | apply ar_un | apply stk_un); (next => (first | (simp only [go_sem, Nat.reduceBEq, Nat.reduceEqDiff, reduceIte, reduceCtorEq, String.reduceEq, Nat.reduceAdd, Int.reduceToNat]; exact rfl))))
      | (refine arO _ ?_; first
       | (refine arO ⟨_, .store _ _ _, _, _, _, _⟩ ?_; first
        | (apply ar_effM rfl rfl; (next => (first
         | (apply effTo_store (T := TT) rfl; (next => (first | ((repeat (first | exact look_hd | (apply look_tl; (next => (first | assumption | fail))) | fail)); done) | fail)); (next => rfl); (next => rfl); (next => rfl); (next => rfl); (next => rfl); (next => rfl); (next => rfl); (next => rfl))
         | fail)))
        | fail)
       | (refine arO ⟨_, .load _ _, _, _, _, _⟩ ?_; first | (refine ar_op' rfl rfl rfl rfl (opv_load_boxr (T := TT) rfl look_hd rfl rfl rfl rfl) ?_) | fail)
       | fail)
      | refine ar_seq ?_
      | (refine arE ?_; refine ar_endM [0, 2, 3] rfl ?_)
      | refine ar_region ?_
      | (refine arC .ret ?_; refine ar_retM [2] ?_)
      | refine stk_nil ?_
      | fail)
    exact qretC_mk0 (resCA_struct (T := TT) rfl look_hd rfl rfl rfl rfl) ⟨rfl, rfl⟩

/-- Where a sample is gathered. -/
def stM (kt : Nat) (x : Smp) : List (Nat × List AV) := [(kt, [.v (.int .i64 x.1), .v (.int .u64 x.2)])]
theorem leN_take_succ (l : List UInt8) (i : Nat) (h : i < l.length) : leN (l.take (i + 1)) = leN (l.take i) + 256 ^ i * (l.getD i 0).toNat := by
  have : l.take (i + 1) = l.take i ++ [l.getD i 0] := by
    rw [List.take_succ_eq_append_getElem h]; simp [h]
  rw [this, leN_append, List.length_take]
  rw [show min i l.length = i by omega]
  simp [leN]

set_option maxRecDepth 100000 in
theorem sample1_a (kt : Nat) (x : Smp) (v : Fld) (hv : FldOk v) :
    ACalls Try.prog 64 [fldV v, .v (.pointer (some ⟨kt, 0, none⟩))] (stM kt x) (fun out H' => out = .ret (.tu []) ∧ H' = stM kt (if v.num = 1 ∧ v.kind = 1 then (x.1, leN v.bs) else if v.num = 2 ∧ v.kind = 0 then (sg v.n, x.2) else x)) := by
  obtain ⟨hv1, hv2, hv3, hv4⟩ := hv
  unfold fldV fldA stM
  refine acalls_enterC TT 31 [] Try.func64 (by kernel_rfl) rfl rfl rfl rfl ?_
  dsimp only [slotsOf]
  have hsp : (v.num = 1 ∧ v.kind = 1) ∨ (¬ (v.num = 1 ∧ v.kind = 1) ∧ (v.num = 2 ∧ v.kind = 0) ∧ v.n < 9223372036854775808) ∨ (¬ (v.num = 1 ∧ v.kind = 1) ∧ (v.num = 2 ∧ v.kind = 0) ∧ ¬ v.n < 9223372036854775808) ∨ (¬ (v.num = 1 ∧ v.kind = 1) ∧ ¬ (v.num = 2 ∧ v.kind = 0)) := by omega
  rcases hsp with h1 | ⟨h1, h2, h3⟩ | ⟨h1, h2, h3⟩ | ⟨h1, h2⟩
  all_goals (first | rw [if_pos h1] | (rw [if_neg h1]; first | rw [if_pos h2] | rw [if_neg h2]))
  all_goals (repeat (first
    | ((first | apply ar_un); (next => (first | (simp only [go_sem, Nat.reduceBEq, Nat.reduceEqDiff, reduceIte, reduceCtorEq, String.reduceEq, Nat.reduceAdd, Int.reduceToNat]; exact rfl))))
    | (apply ar_op' rfl rfl rfl rfl; (next => (first
     | (refine evalE_ok (T := TT) rfl ?_; (first | exact trivial))
     | (apply opk ⟨_, .convert _ _ _, _, _, _, _⟩; first
      | (refine opv_conv64 (T := TT) rfl rfl rfl ?_; (next => (first | omega)))
      | exact opv_conv_int (T := TT) rfl rfl rfl
      | fail)
     | (apply opk ⟨_, .fieldAddr _ _ _, _, _, _, _⟩; first | exact opv_field_box (T := TT) rfl rfl rfl rfl rfl | fail)
     | fail)))
    | (refine arO _ ?_; first
     | (refine arO ⟨_, .load _ _, _, _, _, _⟩ ?_; first | refine ar_load_own (T := TT) rfl rfl rfl rfl look_hd rfl rfl rfl rfl ?_ | fail)
     | (refine arO ⟨_, .store _ _ _, _, _, _, _⟩ ?_; first
      | (apply ar_effM rfl rfl; (next => (first
       | (apply effTo_store (T := TT) rfl; (next => (first | ((repeat (first | exact look_hd | (apply look_tl; (next => (first | assumption | fail))) | fail)); done) | fail)); (next => rfl); (next => rfl); (next => rfl); (next => rfl); (next => rfl); (next => rfl); (next => rfl); (next => rfl))
       | fail)))
      | fail)
     | (refine arO ⟨_, .box _ _, _, _, _, _⟩ ?_; first
      | (refine ar_eff rfl rfl (eff_boxB rfl rfl rfl rfl ?_); intro kb hkb; (repeat (have hkn := (freshK_ne hkb).1; replace hkb := (freshK_ne hkb).2)); (try have hkl := freshK_look hkb); clear hkb; refine ar_nf ?_)
      | fail)
     | (refine arO ⟨_, .load _ _, _, _, _, _⟩ ?_; first | (refine ar_op' rfl rfl rfl rfl (opv_load_boxr (T := TT) rfl look_hd rfl rfl rfl rfl) ?_) | fail)
     | (refine arO ⟨_, .call { callee := .value _, args := _, argTypes := _ }, _, _, _, _⟩ ?_; first
      | (apply ar_callM0 rfl (is_a v.num v.kind v.n 1 1 v.bs) rfl rfl; (next => (repeat (first | exact PArgs.nil | (apply PArgs.cons; (next => (first | exact PArg.rd rfl (Le1.refl _) rfl)))))); (next => rfl); (next => rfl); rintro _ _ ⟨rfl, rfl⟩; refine ⟨_, rfl, ?_⟩)
      | (apply ar_callM0 rfl (is_a v.num v.kind v.n 2 0 v.bs) rfl rfl; (next => (repeat (first | exact PArgs.nil | (apply PArgs.cons; (next => (first | exact PArg.rd rfl (Le1.refl _) rfl)))))); (next => rfl); (next => rfl); rintro _ _ ⟨rfl, rfl⟩; refine ⟨_, rfl, ?_⟩)
      | fail)
     | fail)
    | refine ar_seq ?_
    | (refine arE ?_; refine ar_endM [0, 1, 2, 3, 4, 8, 9, 24] rfl ?_)
    | refine ar_region ?_
    | refine ar_block ?_
    | refine ar_skip ?_
    | refine ar_blk ?_
    | (refine arC (.cond _ _ _) ?_; first
     | (refine ar_cond_true rfl ?_ ?_; (next => (first | (simp only [decide_eq_true_eq, beq_iff_eq, bne_iff_ne, ge_iff_le, gt_iff_lt, ne_eq, Bool.not_eq_true', decide_eq_false_iff_not]; omega))))
     | (refine ar_cond_false rfl ?_ ?_; (next => (first
      | (simp only [decide_eq_false_iff_not, beq_eq_false_iff_ne, bne_eq_false_iff_eq, ge_iff_le, gt_iff_lt, ne_eq, Bool.not_eq_false', decide_eq_true_eq]; omega))))
     | fail)
    | fail))
  · have hlen := hv4 h1.2
    refine ar_loop (fun y : Nat => ⟨31, [(1, .v (.pointer (some ⟨kt, 0, none⟩))), (2, .v (.pointer (some ⟨kb, 0, none⟩))), (8, .v (.int .i64 y))], [(kt, [.v (.int .i64 x.1), .v (.int .u64 (leN (v.bs.take y) : Nat))]), (kb, [.v (.int .i64 v.num), .v (.int .i64 v.kind), .v (.int .u64 v.n), .v (.string (mkB v.bs))])], []⟩) (fun y => y ≤ 8) (fun y => 8 - y) 0 ⟨rfl, ?_, ?_, rfl⟩ (by omega) ?_
    · (repeat' (first | exact trivial | exact .refl _ | refine ⟨⟨_, rfl, ?_⟩, ?_⟩))
    · (repeat' (first | exact trivial | exact LeL.refl _ | refine ⟨⟨_, look_hd, ?_⟩, ?_⟩ | refine ⟨⟨_, look_tl (by first | (intro e; exact absurd e.symm (by assumption))) look_hd, ?_⟩, ?_⟩))
    rintro y hy
    dsimp only
    by_cases hy8 : y = 8
    · subst hy8
      repeat (first
        | ((first | apply ar_un); (next => (first | (simp only [go_sem, Nat.reduceBEq, Nat.reduceEqDiff, reduceIte, reduceCtorEq, String.reduceEq, Nat.reduceAdd, Int.reduceToNat]; exact rfl))))
        | (apply ar_op' rfl rfl rfl rfl; (next => (first | (apply opk ⟨_, .binOp .lss _ _ _ _, _, _, _, _⟩; first | (refine opv_cmp_f rfl rfl rfl ?_; (next => (first | (simp only [cmpP]; omega)))) | fail) | fail)))
        | refine ar_seq ?_
        | (refine arE ?_; refine ar_endM [0, 1, 2, 3, 4, 8, 9, 24] rfl ?_)
        | refine ar_region ?_
        | refine ar_blk ?_
        | (refine arC (.cond _ _ _) ?_; first | (refine ar_cond_false rfl ?_ ?_; (next => (first | rfl))) | fail)
        | refine ar_exit ?_
        | refine stk_b_hit ?_
        | refine stk_c_exit ?_
        | refine stk_l_exit ?_
        | fail)
      refine ar_nil (qretC_mkN _ rfl (look_lone look_hd) ⟨rfl, ?_⟩)
      rw [List.take_of_length_le (by omega)]
    · have hi : y < 8 := by omega
      have hb8 := (v.bs.getD y 0).toNat_lt
      have hb : (v.bs.getD y 0).toNat < 256 := by omega
      have ha : leN (v.bs.take y) < 256 ^ y := by
        have := leN_lt (v.bs.take y)
        rw [List.length_take, show min y v.bs.length = y by omega] at this
        exact this
      repeat (first
        | ((first | apply ar_un); (next => (first | (simp only [go_sem, Nat.reduceBEq, Nat.reduceEqDiff, reduceIte, reduceCtorEq, String.reduceEq, Nat.reduceAdd, Int.reduceToNat]; exact rfl))))
        | (apply ar_op' rfl rfl rfl rfl; (next => (first
         | (refine evalE_ok (T := TT) rfl ?_; (first | exact trivial))
         | (apply opk ⟨_, .binOp .lss _ _ _ _, _, _, _, _⟩; first | (refine opv_cmp_t rfl rfl rfl ?_; (next => (first | (simp only [cmpP]; omega)))) | fail)
         | fail)))
        | refine ar_seq ?_
        | (refine arE ?_; refine ar_endM [0, 1, 2, 3, 4, 8, 9, 24] rfl ?_)
        | refine ar_region ?_
        | refine ar_block ?_
        | refine ar_skip ?_
        | (refine arC (.cond _ _ _) ?_; first | (refine ar_cond_true rfl ?_ ?_; (next => (first | rfl))) | fail)
        | fail)
      refine ar_nop (ar_drawS mixed (body := List.dropLast _) (om := List.getLast _ (by simp)) (List.dropLast_concat_getLast _).symm (by kernel_rfl) rfl ?_)
      repeat (first
        | (apply q_op rfl rfl rfl; (next => (exact opv_shl_byte ((v.bs.getD y 0).toNat) y rfl rfl rfl hi hb)))
        | (apply q_op rfl rfl rfl; (next => (exact opv_or_byte (leN (v.bs.take y)) ((v.bs.getD y 0).toNat) y rfl rfl hi hb ha)))
        | (apply q_op rfl rfl rfl; (next => (first
         | (refine evalE_ok (T := TT) rfl ?_; (first | exact trivial | omega | (simp [NFL] <;> omega)))
         | (apply opk ⟨_, .convert _ _ _, _, _, _, _⟩; first | (refine opv_conv_byte (T := TT) rfl rfl rfl ?_; (next => (first | exact .inr (.inl rfl)))) | fail)
         | (apply opk ⟨_, .fieldAddr _ _ _, _, _, _, _⟩; first | exact opv_field_box (T := TT) rfl rfl rfl rfl rfl | fail)
         | (apply opk ⟨_, .load _ _, _, _, _, _⟩; first
          | (apply opv_load_box (T := TT) rfl; (next => (first
           | exact look_hd
           | ((repeat (first | exact look_hd | (apply look_tl; (next => (first | (intro e; exact absurd e.symm (by assumption)) | fail))) | fail)); done)
           | fail)); (next => rfl); (next => rfl); (next => rfl); (next => rfl))
          | fail)
         | fail)))
        | fail)
      refine q_nil ?_
      simp only [List.getLast_cons_cons, List.getLast_singleton]
      refine eff_nf ?_
      (apply eff_un; (next => ((first | (simp only [go_sem, Nat.reduceBEq, Nat.reduceEqDiff, reduceIte, reduceCtorEq, String.reduceEq, Nat.reduceAdd, Int.reduceToNat]; exact rfl) | exact rfl))))
      (apply effM; (next => (first | (apply effTo_store (T := TT) rfl; (next => (first | exact look_hd | fail)); (next => rfl); (next => rfl); (next => rfl); (next => rfl); (next => rfl); (next => rfl); (next => rfl); (next => rfl)) | fail)))
      refine ar_endM [0, 1, 2, 3, 4, 8, 9, 24] rfl ?_
      repeat (first | ((first | apply ar_un); (next => (first | (simp only [go_sem, Nat.reduceBEq, Nat.reduceEqDiff, reduceIte, reduceCtorEq, String.reduceEq, Nat.reduceAdd, Int.reduceToNat]; exact rfl)))) | (apply ar_op' rfl rfl rfl rfl; (next => (first | (refine evalE_ok (T := TT) rfl ?_; (first | exact trivial | omega)) | fail))) | (refine arE ?_; refine ar_endM [0, 1, 2, 3, 4, 8, 9, 24] rfl ?_) | refine ar_region ?_ | refine ar_blk ?_ | fail)
      refine ar_back ⟨y + 1, ⟨rfl, ?_, ?_, rfl⟩, by omega, by omega⟩
      · (repeat' (first | exact trivial | exact .refl _ | refine ⟨⟨_, rfl, ?_⟩, ?_⟩))
      · rw [leN_take_succ v.bs y (by omega)]
        (repeat' (first | exact trivial | exact LeL.refl _ | refine ⟨⟨_, look_hd, ?_⟩, ?_⟩ | refine ⟨⟨_, look_tl (by first | (intro e; exact absurd e.symm (by assumption))) (look_tl (by first | (intro e; exact absurd e.symm (by assumption))) look_hd), ?_⟩, ?_⟩))
  · refine ar_nil (qretC_mkN _ rfl (look_lone look_hd) ⟨rfl, ?_⟩)
    simp only [sg, if_pos h3]
  · refine ar_nil (qretC_mkN _ rfl (look_lone look_hd) ⟨rfl, ?_⟩)
    have hw : IntKind.i64.wrap (v.n : Int) = sg v.n := by
      rw [sg, if_neg h3, IntKind.wrap_i64]; omega
    rw [hw]
  · exact ar_nil (qretC_mkN _ rfl (look_lone (look_tl hkn look_hd)) ⟨rfl, rfl⟩)

theorem sample_do (kt : Nat) : DoOk (stM kt) sampleStep (fun _ _ => True) 64 [.v (.pointer (some ⟨kt, 0, none⟩))] where
  cap := rfl
  keys := fun a b k h => by
    simp only [stM, look_cons, look_nil] at h ⊢
    by_cases e : k = kt
    · rw [if_pos e] at h; cases h
    · rw [if_neg e]
  mono := fun _ _ _ _ _ => trivial
  good := fun a v m a' _ _ hv h => by
    simp only [sampleStep, Option.some.injEq] at h
    subst h
    exact ⟨trivial, sample1_a kt a v hv⟩
  bad := fun a v m _ _ _ h => by simp [sampleStep] at h
def smpV (x : Smp) : AV := .ag [.v (.int .i64 x.1), .v (.int .u64 x.2)]

set_option maxRecDepth 100000 in
theorem sampleOf_a (s : List UInt8) (hs : s.length ≤ 140737488355328) : ACalls Try.prog 61 [.v (.string (mkB s))] [] (retOr (sampleB s) smpV) := by
  have hf := fun kt => fields_a (sample_do kt) s hs (0, 0) trivial
  obtain ⟨r, hr⟩ : ∃ r, runF sampleStep s (0, 0) = r := ⟨_, rfl⟩
  unfold sampleB
  rw [hr] at hf ⊢
  refine acalls_enterC TT 8 [.cell 2 56] Try.func61 (by kernel_rfl) rfl rfl rfl rfl ?_
  dsimp only [slotsOf]
  repeat (first
    | ((first | apply ar_un); (next => (first | (simp only [go_sem, Nat.reduceBEq, Nat.reduceEqDiff, reduceIte, reduceCtorEq, String.reduceEq, Nat.reduceAdd, Int.reduceToNat]; exact rfl))))
    | (apply ar_op' rfl rfl rfl rfl; (next => (first | (refine evalE_ok (T := TT) rfl ?_; (first | exact trivial)) | fail)))
    | (refine arO _ ?_; first
     | (refine arO ⟨_, .alloc _, _, _, _, _⟩ ?_; first
      | (refine ar_eff rfl rfl (eff_alloc (T := TT) rfl rfl ?_); intro kb hkb; (repeat (have hkn := (freshK_ne hkb).1; replace hkb := (freshK_ne hkb).2)); (try have hkl := freshK_look hkb); clear hkb; refine ar_nf ?_)
      | fail)
     | fail)
    | refine ar_seq ?_
    | (refine arE ?_; refine ar_endM [0, 2, 3] rfl ?_)
    | refine ar_region ?_
    | fail)
  rename_i kr hkr
  rcases r with _ | x
  · refine ar_callXP (Hp := stM kb (0, 0)) (Hr := []) rfl (hf kb) rfl rfl (PArgs.cons (PArg.rd rfl (Le1.refl _) rfl) (PArgs.cons (PArg.rd rfl (Le1.refl _) rfl) PArgs.nil)) rfl rfl (look_lone look_hd) (fun k cs hk => by simp [look_nil] at hk) rfl ?_
    rintro _ _ ⟨rfl, b', rfl⟩
    refine callEnd_pan ?_
    (repeat (first | refine panK_c ?_ | refine panK_b ?_ | refine panK_l ?_ | refine panK_o ?_))
    exact panK_endC0 ⟨rfl, rfl⟩
  · refine ar_callXP (Hp := stM kb (0, 0)) (Hr := [(kr, [.v (.int .i64 0), .v (.int .u64 0)])]) rfl (hf kb) rfl rfl (PArgs.cons (PArg.rd rfl (Le1.refl _) rfl) (PArgs.cons (PArg.rd rfl (Le1.refl _) rfl) PArgs.nil)) rfl rfl (look_lone look_hd) (look_one (look_tl hkn look_hd) (look_sole hkn)) rfl ?_
    rintro _ _ ⟨rfl, rfl⟩
    refine callEnd_ret ?_
    unfold stM
    repeat (first
      | ((first | apply ar_un | apply stk_un); (next => (first | (simp only [go_sem, Nat.reduceBEq, Nat.reduceEqDiff, reduceIte, reduceCtorEq, String.reduceEq, Nat.reduceAdd, Int.reduceToNat]; exact rfl))))
      | (refine arO _ ?_; first
       | (refine arO ⟨_, .store _ _ _, _, _, _, _⟩ ?_; first
        | (apply ar_effM rfl rfl; (next => (first
         | (apply effTo_store (T := TT) rfl; (next => (first | ((repeat (first | exact look_hd | (apply look_tl; (next => (first | assumption | fail))) | fail)); done) | fail)); (next => rfl); (next => rfl); (next => rfl); (next => rfl); (next => rfl); (next => rfl); (next => rfl); (next => rfl))
         | fail)))
        | fail)
       | (refine arO ⟨_, .load _ _, _, _, _, _⟩ ?_; first | (refine ar_op' rfl rfl rfl rfl (opv_load_boxr (T := TT) rfl look_hd rfl rfl rfl rfl) ?_) | fail)
       | fail)
      | refine ar_seq ?_
      | (refine arE ?_; refine ar_endM [0, 2, 3] rfl ?_)
      | refine ar_region ?_
      | (refine arC .ret ?_; refine ar_retM [2] ?_)
      | refine stk_nil ?_
      | fail)
    exact qretC_mk0 (resCA_struct (T := TT) rfl look_hd rfl rfl rfl rfl) ⟨rfl, rfl⟩
end Go.Proofs.Ytophpbihcfdkcaa
