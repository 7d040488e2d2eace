/- labels.Text of two labels, one of them the name: what the laws begin with. -/
import Derived.Test.YtbpgpfigndlohaaGreatTF
import Derived.Test.YtbpgpfigndlohaaGreatFE01
import Derived.Test.YtbpgpfigndlohaaGreatTN
namespace Go.Proofs.YtbpgpfigndlohaaGreat
open Go.RowKit P
set_option linter.unusedSimpArgs false
set_option linter.unusedVariables false
def nameB : List UInt8 := [95, 95, 110, 97, 109, 101, 95, 95]
def upB : List UInt8 := [117, 112]
def jobB : List UInt8 := [106, 111, 98]
def partB : List UInt8 := [106, 111, 98, 61, 34, 120, 34]
def twoL : List VLabel := [⟨nameB, upB⟩, ⟨jobB, [120]⟩]
def twoA : List (List AV) := [[.v (.string (mkB nameB)), .v (.string (mkB upB))], [.v (.string (mkB jobB)), .v (.string (mkB [120]))]]
set_option maxRecDepth 100000 in
theorem check_two : ACalls Tryz.prog 8 [.sl false 1 [[.sl false 2 twoA]]] [] (fun out H => out = .ret (.v (.int .i64 0)) ∧ H = []) := labels_check_ok (N := 400) [twoL] (r := (0 : Int)) (by kernel_rfl) id
set_option maxRecDepth 100000 in
theorem value_two : ACalls Tryz.prog 19 [.sl false 2 twoA, .v (.string (mkB nameB))] [] (fun out H => out = .ret (.v (.string (mkB upB))) ∧ H = []) := labels_Value_ok (N := 400) twoL nameB (r := upB) (by kernel_rfl) id
set_option maxRecDepth 100000 in
theorem join_run : evC TT EE ⟨[], EQT, [], []⟩ ⟨[], [], [], [], false, [], []⟩ [.tmp 4] 1000 [.c (bodyOf 0 Tryz.f22)] ⟨75, [(0, .a (.d (.sl .str) ([partB] : List (List UInt8)))), (1, .a (.d .str ([44] : List UInt8)))], [], []⟩ = some (.ret (.a (.d .str partB)) []) := by kernel_rfl
set_option maxRecDepth 100000 in
theorem join_one : ACalls Tryz.prog 22 [.sl false 1 [[.v (.string (mkB partB))]], .v (.string (mkB [44]))] [] (fun out H => out = .ret (.v (.string (mkB partB))) ∧ H = []) := by
  have h := fn_okH (Y := TT) (lv := ⟨[], [], [], [], false, [], []⟩) (rs := [.tmp 4]) (K := fun r => r = (.ret (.a (.d .str partB)) [])) (bodyOf 0 Tryz.f22) 75 mixed rep_Gok Tryz.func22 (by kernel_rfl) rfl rfl rfl (us := [.a (.d (.sl .str) ([partB] : List (List UInt8))), .a (.d .str ([44] : List UInt8))]) rfl (h0 := []) (evC_ok _ _ _ _ join_run rfl) id (fun p hp => by cases hp)
  exact h.mono fun out H hp => hp.ret rfl
section
variable {P : Program} {L : List Oper} {mN : Nat → Bool} {K : AS → Prop} {k d : Nat} {o : Oper} {rest : List Oper} {σ : AS} {u : AV}
theorem n_op (hm : mN k = true) (h1 : o.dst = some d) (h2 : o.guard = none) (h3 : Nat.ble (d + 1) σ.n = true) (h4 : OpV P o σ u) (h5 : Det L mN o u) (h : NSem P L mN K (k + 1) rest (σ.put d u)) : NSem P L mN K k (o :: rest) σ := by
  unfold NSem; rw [hm]; exact ⟨d, u, h1, h2, h3, h4, h5, h⟩
theorem n_skip (hm : mN k = false) (h : NSem P L mN K (k + 1) rest σ) : NSem P L mN K k (o :: rest) σ := by
  unfold NSem; rw [hm]; exact h
theorem c_op (h : EffOp P o σ (CSem P K rest)) : CSem P K (o :: rest) σ := h
theorem c_val (hdst : o.dst = some d) (hd : Nat.ble (d + 1) σ.n = true) (hv : OpV P o σ u) (h : CSem P K rest ((σ.free d).put d u)) : CSem P K (o :: rest) σ := eff_of_opv hdst hd hv h
theorem c_le {σ' : AS} (hl : Le σ σ') (h : CSem P K (o :: rest) σ') : CSem P K (o :: rest) σ := fun F X a hs => h F X a (hs.le hl)
theorem n_end (h : K σ) : NSem P L mN K k [] σ := h
theorem c_end (h : K σ) : CSem P K [] σ := h
theorem look_h {α : Type} (k : Nat) (a : α) (r : List (Nat × α)) : look ((k, a) :: r) k = some a := by rw [look_cons, if_pos rfl]
end
def sixth : Nat → AV
  | 2 => .sl false 1 [[.v (.string (mkB partB))]]
  | _ => .v (.slice none 0 0)
def nine : Nat → Int
  | 0 => 0
  | 1 => 1
  | _ => 2
attribute [local irreducible] AS.nf OpV ARun Stk QSem QSemA ACalls EffOp AppOk SrcOk Awp Aops NSem CSem
set_option maxHeartbeats 2000000
set_option maxRecDepth 100000 in
theorem text_two : ACalls Tryz.prog 11 [.sl false 2 twoA] [] (fun out H => out = .ret (.tu [.v (.string (mkB (upB ++ [123] ++ partB ++ [125]))), .v (.int .i64 0)]) ∧ H = []) := by
  have hck := check_two
  have hval := value_two
  have hjo := join_one
  have lu : upB.length = 2 := rfl
  have lp : partB.length = 7 := rfl
  have lj : jobB.length = 3 := rfl
  have hne : jobB ≠ [95, 95, 110, 97, 109, 101, 95, 95] := by decide
  unfold twoA at hck hval ⊢
  refine acalls_enter _ 54 [.tmp 2, .tmp 3] Tryz.func11 (by kernel_rfl) rfl rfl rfl rfl ?_
  dsimp only [slotsOf]
  repeat (first
    | ((first | apply ar_un | apply stk_un); (next => (first | (simp only [go_sem, Nat.reduceBEq, Nat.reduceEqDiff, reduceIte, reduceCtorEq, String.reduceEq, Nat.reduceAdd, Int.reduceToNat]; exact rfl) | exact rfl)))
    | (refine arC .ret ?_; refine ar_retM0 [2, 3] ?_)
    | (apply ar_op' rfl rfl rfl rfl; (next => (first
     | (refine evalE_ok (T := TT) rfl ?_; (first | exact trivial | omega | (simp [NFL] <;> omega)))
     | (apply opk ⟨_, .move _, _, _, _, _⟩; first | exact opv_const (cst_plain _) (.inl rfl) | fail)
     | (apply opk ⟨_, .binOp .add _ _ _ _, _, _, _, _⟩; first | exact opv_bin rfl rfl rfl | fail)
     | (apply opk ⟨_, .binOp .eql _ _ _ _, _, _, _, _⟩; first
      | (refine opv_cmp_t rfl rfl rfl ?_; (next => (first | exact rfl | (simp only [cmpP]; omega) | (simp only [cmpP]; simp [NFL] <;> omega))))
      | (refine opv_cmp_f rfl rfl rfl ?_; (next => (first | exact rfl | (simp only [cmpP]; omega) | (simp only [cmpP]; simp [NFL] <;> omega))))
      | exact opv_bin rfl rfl rfl
      | (refine opv_seq_t rfl rfl rfl ?_; (next => (first | rfl | assumption)))
      | (refine opv_seq_f rfl rfl rfl ?_; (next => (first | rfl | assumption)))
      | exact opv_str rfl rfl rfl
      | fail)
     | (apply opk ⟨_, .binOp .neq _ _ _ _, _, _, _, _⟩; first
      | (refine opv_cmp_t rfl rfl rfl ?_; (next => (first | exact rfl | (simp only [cmpP]; omega) | (simp only [cmpP]; simp [NFL] <;> omega))))
      | (refine opv_cmp_f rfl rfl rfl ?_; (next => (first | exact rfl | (simp only [cmpP]; omega) | (simp only [cmpP]; simp [NFL] <;> omega))))
      | exact opv_bin rfl rfl rfl
      | (refine opv_sne_t rfl rfl rfl ?_; (next => (first | rfl | assumption)))
      | (refine opv_sne_f rfl rfl rfl ?_; (next => (first | rfl | assumption)))
      | exact opv_str rfl rfl rfl
      | fail)
     | (apply opk ⟨_, .binOp .lss _ _ _ _, _, _, _, _⟩; first
      | (refine opv_cmp_t rfl rfl rfl ?_; (next => (first | exact rfl | (simp only [cmpP]; omega) | (simp only [cmpP]; simp [NFL] <;> omega))))
      | (refine opv_cmp_f rfl rfl rfl ?_; (next => (first | exact rfl | (simp only [cmpP]; omega) | (simp only [cmpP]; simp [NFL] <;> omega))))
      | exact opv_bin rfl rfl rfl
      | exact opv_str rfl rfl rfl
      | fail)
     | (apply opk ⟨_, .call { callee := .builtin .len, args := _, argTypes := _ }, _, _, _, _⟩; first
      | exact opv_len_str (T := TT) rfl rfl rfl
      | exact opv_len_sl (T := TT) rfl rfl rfl
      | exact opv_len_nil (T := TT) rfl rfl rfl
      | fail)
     | (apply opk ⟨_, .indexAddr _ _ _, _, _, _, _⟩; first
      | (refine opv_indexaddr_byte (T := TT) rfl rfl rfl rfl ?_ ?_; (next => (first | omega | (simp [NFL] <;> omega))); (next => (first | omega | (simp [NFL] <;> omega))))
      | (refine opv_indexaddr (T := TT) rfl rfl rfl rfl ?_ ?_; (next => (first | omega | (simp [NFL] <;> omega))); (next => (first | omega | (simp [NFL] <;> omega))))
      | fail)
     | (apply opk ⟨_, .fieldAddr _ _ _, _, _, _, _⟩; first
      | exact opv_field_el (T := TT) rfl rfl rfl rfl rfl rfl
      | exact opv_field_box (T := TT) rfl rfl rfl rfl rfl
      | fail)
     | (apply opk ⟨_, .load _ _, _, _, _, _⟩; first | exact opv_load_el (T := TT) rfl rfl rfl | exact opv_load_els (T := TT) rfl rfl rfl rfl | fail)
     | (apply opk ⟨_, .buildSlice _ _ _, _, _, _, _⟩; first | exact opv_build_slice (T := TT) rfl rfl rfl rfl rfl rfl rfl | fail)
     | (apply opk ⟨_, .pick _ _ _, _, _, _, _⟩; first
      | (refine opv_pickt rfl ?_ rfl; (next => (first | rfl | assumption)))
      | (refine opv_pickf rfl ?_ rfl; (next => (first | rfl | assumption)))
      | fail)
     | fail)))
    | (refine arO _ ?_; first
     | (refine arO ⟨_, .move _, _, _, _, _⟩ ?_; first | refine ar_move_sl rfl rfl rfl rfl ?_ | fail)
     | (refine arO ⟨_, .assign _, _, _, _, _⟩ ?_; first
      | refine ar_assign_sl rfl rfl rfl rfl ?_
      | refine ar_op rfl rfl rfl rfl (opv_const (cst_plain _) (.inr rfl)) ?_
      | fail)
     | (refine arO ⟨_, .load _ _, _, _, _, _⟩ ?_; first
      | refine ar_load_own (T := TT) rfl rfl rfl rfl look_hd rfl rfl rfl rfl ?_
      | (refine ar_load_own (T := TT) rfl rfl rfl rfl (look_tl ?_ look_hd) rfl rfl rfl rfl ?_; (next => (first | assumption | (intro e; exact absurd e.symm (by assumption)))))
      | (refine ar_load_own (T := TT) rfl rfl rfl rfl (look_tl ?_ (look_tl ?_ look_hd)) rfl rfl rfl rfl ?_; (next => (first | assumption | (intro e; exact absurd e.symm (by assumption)))); (next => (first | assumption | (intro e; exact absurd e.symm (by assumption)))))
      | fail)
     | (refine arO ⟨_, .call { callee := .builtin .append, args := _, argTypes := _ }, _, _, _, _⟩ ?_; first
      | (apply ar_effM rfl rfl; (next => (first
       | (apply effTo_append (T := TT) rfl rfl rfl rfl rfl rfl rfl rfl rfl rfl; (next => (first | exact trivial | exact rowsOne_byteA _ | assumption | (simp [RowsOne, AV.one, AV.rd, AV.cells, cst, Value.oneCell'] <;> omega))); (next => (first | omega | (simp [NFL] <;> omega))))
       | (apply effTo_append (T := TT) rfl (own_c look_hd rfl) rfl rfl rfl rfl rfl rfl rfl rfl; (next => (first | exact trivial | exact rowsOne_byteA _ | assumption | (simp [RowsOne, AV.one, AV.rd, AV.cells, cst, Value.oneCell'] <;> omega))); (next => (first | omega | (simp [NFL] <;> omega))))
       | (apply effTo_append (T := TT) rfl (own_c (look_tl (by first | assumption | (intro e; exact absurd e.symm (by assumption))) look_hd) rfl) rfl rfl rfl rfl rfl rfl rfl rfl; (next => (first | exact trivial | exact rowsOne_byteA _ | assumption | (simp [RowsOne, AV.one, AV.rd, AV.cells, cst, Value.oneCell'] <;> omega))); (next => (first | omega | (simp [NFL] <;> omega))))
       | (apply effTo_append_nil (T := TT) rfl rfl rfl rfl rfl rfl rfl rfl rfl; (next => (first | exact trivial | exact rowsOne_byteA _ | assumption | (simp [RowsOne, AV.one, AV.rd, AV.cells, cst, Value.oneCell'] <;> omega))); (next => (first | omega | (simp [NFL] <;> omega))))
       | fail)))
      | fail)
     | (refine arO ⟨_, .store _ _ _, _, _, _, _⟩ ?_; first
      | (apply ar_effM rfl rfl; (next => (first
       | (apply effTo_store_own (T := TT) rfl rfl rfl; (next => (first
        | rfl
        | exact look_hd
        | assumption
        | ((repeat (first | exact look_hd | assumption | (apply look_tl; (next => (first | assumption | (intro e; exact absurd e.symm (by assumption)) | fail))) | fail)); done)
        | fail)); (next => rfl); (next => rfl); (next => rfl))
       | (apply effTo_store (T := TT) rfl; (next => (first
        | rfl
        | exact look_hd
        | assumption
        | ((repeat (first | exact look_hd | assumption | (apply look_tl; (next => (first | assumption | (intro e; exact absurd e.symm (by assumption)) | fail))) | fail)); done)
        | fail)); (next => rfl); (next => rfl); (next => rfl); (next => rfl); (next => rfl); (next => rfl); (next => rfl); (next => rfl))
       | fail)))
      | fail)
     | (refine arO ⟨_, .alloc _, _, _, _, _⟩ ?_; first
      | (refine ar_eff rfl rfl (eff_alloc (T := TT) rfl rfl ?_); intro kb hkb; (repeat (have hkn := (freshK_ne hkb).1; replace hkb := (freshK_ne hkb).2)); (try have hkl := freshK_look hkb); clear hkb; refine ar_nf ?_)
      | fail)
     | (refine arO ⟨_, .call { callee := .value _, args := _, argTypes := _ }, _, _, _, _⟩ ?_; first
      | (apply ar_callM0 rfl (hck) rfl rfl; (next => (repeat (first
       | exact PArgs.nil
       | (apply PArgs.cons; (next => (first
        | exact PArg.own rfl rfl
        | exact PArg.rd rfl (Le1.refl _) rfl
        | exact PArg.rd rfl (Le1.rd _ _ _) rfl
        | exact PArg.nil rfl
        | exact PArg.rd rfl (Le1.nil _ _) rfl
        | (refine PArg.rd rfl (Le1.of_eq ?_) rfl; congr 2 <;> (first | omega | (simp; omega) | (simp [NFL]; done))))))))); (next => rfl); (next => rfl); rintro _ _ ⟨rfl, rfl⟩; refine ⟨_, rfl, ?_⟩)
      | (apply ar_callM0 rfl (hval) rfl rfl; (next => (repeat (first
       | exact PArgs.nil
       | (apply PArgs.cons; (next => (first
        | exact PArg.own rfl rfl
        | exact PArg.rd rfl (Le1.refl _) rfl
        | exact PArg.rd rfl (Le1.rd _ _ _) rfl
        | exact PArg.nil rfl
        | exact PArg.rd rfl (Le1.nil _ _) rfl
        | (refine PArg.rd rfl (Le1.of_eq ?_) rfl; congr 2 <;> (first | omega | (simp; omega) | (simp [NFL]; done))))))))); (next => rfl); (next => rfl); rintro _ _ ⟨rfl, rfl⟩; refine ⟨_, rfl, ?_⟩)
      | fail)
     | fail)
    | refine ar_unwanted' rfl rfl rfl rfl ?_
    | refine ar_seq ?_
    | (refine arE ?_; refine ar_endM [0, 2, 3, 4, 5, 6, 8, 13, 17, 18, 19, 20, 25, 46] rfl ?_)
    | refine ar_region ?_
    | refine ar_block ?_
    | refine ar_skip ?_
    | refine ar_blk ?_
    | refine ar_dedup rfl ?_
    | (refine arC (.cond _ _ _) ?_; first
     | (refine ar_cond_true rfl ?_ ?_; (next => (first | rfl | (simp only [decide_eq_true_eq, beq_iff_eq, bne_iff_ne, ge_iff_le, gt_iff_lt, ne_eq, Bool.not_eq_true', decide_eq_false_iff_not]; omega))))
     | (refine ar_cond_false rfl ?_ ?_; (next => (first
      | rfl
      | (simp only [decide_eq_false_iff_not, beq_eq_false_iff_ne, bne_eq_false_iff_eq, ge_iff_le, gt_iff_lt, ne_eq, Bool.not_eq_false', decide_eq_true_eq]; omega))))
     | fail)
    | refine ar_exit ?_
    | refine stk_b_hit ?_
    | refine stk_b_miss rfl ?_
    | refine stk_c_exit ?_
    | refine stk_l_exit ?_
    | (refine arC .ret ?_; refine ar_retM [2, 3] ?_)
    | refine stk_c_ret ?_
    | refine stk_b_ret ?_
    | refine stk_l_ret ?_
    | refine stk_nil ?_
    | fail)
  refine ar_loop (fun y : Nat => ⟨54, [(0, .sl false 2 [[.v (.string (mkB nameB)), .v (.string (mkB upB))], [.v (.string (mkB jobB)), .v (.string (mkB [120]))]]), (5, .v (.string (mkB upB))), (6, sixth y), (17, .sl false 2 [[.v (.string (mkB nameB)), .v (.string (mkB upB))], [.v (.string (mkB jobB)), .v (.string (mkB [120]))]]), (18, .v (.int .i64 2)), (19, .v (.int .i64 (nine y)))], [], []⟩) (fun y => y ≤ 2) (fun y => 2 - y) 0 ⟨rfl, ?_, ?_, rfl⟩ (by omega) ?_
  · (repeat' (first
    | exact trivial
    | exact LeL.refl _
    | exact .refl _
    | refine ⟨⟨_, rfl, ?_⟩, ?_⟩
    | refine ⟨⟨_, look_hd, ?_⟩, ?_⟩
    | refine ⟨⟨_, look_tl (by first | assumption | (intro e; exact absurd e.symm (by assumption))) look_hd, ?_⟩, ?_⟩
    | refine ⟨⟨_, look_tl (by first | assumption | (intro e; exact absurd e.symm (by assumption))) (look_tl (by first | assumption | (intro e; exact absurd e.symm (by assumption))) look_hd), ?_⟩, ?_⟩
    | refine ⟨⟨_, look_tl (by first | assumption | (intro e; exact absurd e.symm (by assumption))) (look_tl (by first | assumption | (intro e; exact absurd e.symm (by assumption))) (look_tl (by first | assumption | (intro e; exact absurd e.symm (by assumption))) look_hd)), ?_⟩, ?_⟩
    | refine ⟨⟨_, look_tl (by first | assumption | (intro e; exact absurd e.symm (by assumption))) (look_tl (by first | assumption | (intro e; exact absurd e.symm (by assumption))) (look_tl (by first | assumption | (intro e; exact absurd e.symm (by assumption))) (look_tl (by first | assumption | (intro e; exact absurd e.symm (by assumption))) look_hd))), ?_⟩, ?_⟩
    | exact .nil _ _
    | exact .rd _ _ _
    | refine LeL.cons ?_ ?_
    | exact LeL.nil
    | refine Le1.of_eq ?_))
  · (repeat' (first
    | exact trivial
    | exact LeL.refl _
    | exact .refl _
    | refine ⟨⟨_, rfl, ?_⟩, ?_⟩
    | refine ⟨⟨_, look_hd, ?_⟩, ?_⟩
    | refine ⟨⟨_, look_tl (by first | assumption | (intro e; exact absurd e.symm (by assumption))) look_hd, ?_⟩, ?_⟩
    | refine ⟨⟨_, look_tl (by first | assumption | (intro e; exact absurd e.symm (by assumption))) (look_tl (by first | assumption | (intro e; exact absurd e.symm (by assumption))) look_hd), ?_⟩, ?_⟩
    | refine ⟨⟨_, look_tl (by first | assumption | (intro e; exact absurd e.symm (by assumption))) (look_tl (by first | assumption | (intro e; exact absurd e.symm (by assumption))) (look_tl (by first | assumption | (intro e; exact absurd e.symm (by assumption))) look_hd)), ?_⟩, ?_⟩
    | refine ⟨⟨_, look_tl (by first | assumption | (intro e; exact absurd e.symm (by assumption))) (look_tl (by first | assumption | (intro e; exact absurd e.symm (by assumption))) (look_tl (by first | assumption | (intro e; exact absurd e.symm (by assumption))) (look_tl (by first | assumption | (intro e; exact absurd e.symm (by assumption))) look_hd))), ?_⟩, ?_⟩
    | exact .nil _ _
    | exact .rd _ _ _
    | refine LeL.cons ?_ ?_
    | exact LeL.nil
    | refine Le1.of_eq ?_))
  intro y hy
  obtain rfl | rfl | rfl : y = 0 ∨ y = 1 ∨ y = 2 := by omega
  · simp only [sixth, nine]
    repeat (first
      | ((first | apply ar_un | apply stk_un); (next => (first | (simp only [go_sem, Nat.reduceBEq, Nat.reduceEqDiff, reduceIte, reduceCtorEq, String.reduceEq, Nat.reduceAdd, Int.reduceToNat]; exact rfl) | exact rfl)))
      | (refine arC .ret ?_; refine ar_retM0 [2, 3] ?_)
      | (apply ar_op' rfl rfl rfl rfl; (next => (first
       | (refine evalE_ok (T := TT) rfl ?_; (first | exact trivial | omega | (simp [NFL] <;> omega)))
       | (apply opk ⟨_, .move _, _, _, _, _⟩; first | exact opv_const (cst_plain _) (.inl rfl) | fail)
       | (apply opk ⟨_, .binOp .add _ _ _ _, _, _, _, _⟩; first | exact opv_bin rfl rfl rfl | fail)
       | (apply opk ⟨_, .binOp .eql _ _ _ _, _, _, _, _⟩; first
        | (refine opv_cmp_t rfl rfl rfl ?_; (next => (first | exact rfl | (simp only [cmpP]; omega) | (simp only [cmpP]; simp [NFL] <;> omega))))
        | (refine opv_cmp_f rfl rfl rfl ?_; (next => (first | exact rfl | (simp only [cmpP]; omega) | (simp only [cmpP]; simp [NFL] <;> omega))))
        | exact opv_bin rfl rfl rfl
        | (refine opv_seq_t rfl rfl rfl ?_; (next => (first | rfl | assumption)))
        | (refine opv_seq_f rfl rfl rfl ?_; (next => (first | rfl | assumption)))
        | exact opv_str rfl rfl rfl
        | fail)
       | (apply opk ⟨_, .binOp .neq _ _ _ _, _, _, _, _⟩; first
        | (refine opv_cmp_t rfl rfl rfl ?_; (next => (first | exact rfl | (simp only [cmpP]; omega) | (simp only [cmpP]; simp [NFL] <;> omega))))
        | (refine opv_cmp_f rfl rfl rfl ?_; (next => (first | exact rfl | (simp only [cmpP]; omega) | (simp only [cmpP]; simp [NFL] <;> omega))))
        | exact opv_bin rfl rfl rfl
        | (refine opv_sne_t rfl rfl rfl ?_; (next => (first | rfl | assumption)))
        | (refine opv_sne_f rfl rfl rfl ?_; (next => (first | rfl | assumption)))
        | exact opv_str rfl rfl rfl
        | fail)
       | (apply opk ⟨_, .binOp .lss _ _ _ _, _, _, _, _⟩; first
        | (refine opv_cmp_t rfl rfl rfl ?_; (next => (first | exact rfl | (simp only [cmpP]; omega) | (simp only [cmpP]; simp [NFL] <;> omega))))
        | (refine opv_cmp_f rfl rfl rfl ?_; (next => (first | exact rfl | (simp only [cmpP]; omega) | (simp only [cmpP]; simp [NFL] <;> omega))))
        | exact opv_bin rfl rfl rfl
        | exact opv_str rfl rfl rfl
        | fail)
       | (apply opk ⟨_, .call { callee := .builtin .len, args := _, argTypes := _ }, _, _, _, _⟩; first
        | exact opv_len_str (T := TT) rfl rfl rfl
        | exact opv_len_sl (T := TT) rfl rfl rfl
        | exact opv_len_nil (T := TT) rfl rfl rfl
        | fail)
       | (apply opk ⟨_, .indexAddr _ _ _, _, _, _, _⟩; first
        | (refine opv_indexaddr_byte (T := TT) rfl rfl rfl rfl ?_ ?_; (next => (first | omega | (simp [NFL] <;> omega))); (next => (first | omega | (simp [NFL] <;> omega))))
        | (refine opv_indexaddr (T := TT) rfl rfl rfl rfl ?_ ?_; (next => (first | omega | (simp [NFL] <;> omega))); (next => (first | omega | (simp [NFL] <;> omega))))
        | fail)
       | (apply opk ⟨_, .fieldAddr _ _ _, _, _, _, _⟩; first
        | exact opv_field_el (T := TT) rfl rfl rfl rfl rfl rfl
        | exact opv_field_box (T := TT) rfl rfl rfl rfl rfl
        | fail)
       | (apply opk ⟨_, .load _ _, _, _, _, _⟩; first | exact opv_load_el (T := TT) rfl rfl rfl | exact opv_load_els (T := TT) rfl rfl rfl rfl | fail)
       | (apply opk ⟨_, .buildSlice _ _ _, _, _, _, _⟩; first | exact opv_build_slice (T := TT) rfl rfl rfl rfl rfl rfl rfl | fail)
       | (apply opk ⟨_, .pick _ _ _, _, _, _, _⟩; first
        | (refine opv_pickt rfl ?_ rfl; (next => (first | rfl | assumption)))
        | (refine opv_pickf rfl ?_ rfl; (next => (first | rfl | assumption)))
        | fail)
       | fail)))
      | (refine arO _ ?_; first
       | (refine arO ⟨_, .move _, _, _, _, _⟩ ?_; first | refine ar_move_sl rfl rfl rfl rfl ?_ | fail)
       | (refine arO ⟨_, .assign _, _, _, _, _⟩ ?_; first
        | refine ar_assign_sl rfl rfl rfl rfl ?_
        | refine ar_op rfl rfl rfl rfl (opv_const (cst_plain _) (.inr rfl)) ?_
        | fail)
       | (refine arO ⟨_, .load _ _, _, _, _, _⟩ ?_; first
        | refine ar_load_own (T := TT) rfl rfl rfl rfl look_hd rfl rfl rfl rfl ?_
        | (refine ar_load_own (T := TT) rfl rfl rfl rfl (look_tl ?_ look_hd) rfl rfl rfl rfl ?_; (next => (first | assumption | (intro e; exact absurd e.symm (by assumption)))))
        | (refine ar_load_own (T := TT) rfl rfl rfl rfl (look_tl ?_ (look_tl ?_ look_hd)) rfl rfl rfl rfl ?_; (next => (first | assumption | (intro e; exact absurd e.symm (by assumption)))); (next => (first | assumption | (intro e; exact absurd e.symm (by assumption)))))
        | fail)
       | (refine arO ⟨_, .call { callee := .builtin .append, args := _, argTypes := _ }, _, _, _, _⟩ ?_; first
        | (apply ar_effM rfl rfl; (next => (first
         | (apply effTo_append (T := TT) rfl rfl rfl rfl rfl rfl rfl rfl rfl rfl; (next => (first | exact trivial | exact rowsOne_byteA _ | assumption | (simp [RowsOne, AV.one, AV.rd, AV.cells, cst, Value.oneCell'] <;> omega))); (next => (first | omega | (simp [NFL] <;> omega))))
         | (apply effTo_append (T := TT) rfl (own_c look_hd rfl) rfl rfl rfl rfl rfl rfl rfl rfl; (next => (first | exact trivial | exact rowsOne_byteA _ | assumption | (simp [RowsOne, AV.one, AV.rd, AV.cells, cst, Value.oneCell'] <;> omega))); (next => (first | omega | (simp [NFL] <;> omega))))
         | (apply effTo_append (T := TT) rfl (own_c (look_tl (by first | assumption | (intro e; exact absurd e.symm (by assumption))) look_hd) rfl) rfl rfl rfl rfl rfl rfl rfl rfl; (next => (first | exact trivial | exact rowsOne_byteA _ | assumption | (simp [RowsOne, AV.one, AV.rd, AV.cells, cst, Value.oneCell'] <;> omega))); (next => (first | omega | (simp [NFL] <;> omega))))
         | (apply effTo_append_nil (T := TT) rfl rfl rfl rfl rfl rfl rfl rfl rfl; (next => (first | exact trivial | exact rowsOne_byteA _ | assumption | (simp [RowsOne, AV.one, AV.rd, AV.cells, cst, Value.oneCell'] <;> omega))); (next => (first | omega | (simp [NFL] <;> omega))))
         | fail)))
        | fail)
       | (refine arO ⟨_, .store _ _ _, _, _, _, _⟩ ?_; first
        | (apply ar_effM rfl rfl; (next => (first
         | (apply effTo_store_own (T := TT) rfl rfl rfl; (next => (first
          | rfl
          | exact look_hd
          | assumption
          | ((repeat (first | exact look_hd | assumption | (apply look_tl; (next => (first | assumption | (intro e; exact absurd e.symm (by assumption)) | fail))) | fail)); done)
          | fail)); (next => rfl); (next => rfl); (next => rfl))
         | (apply effTo_store (T := TT) rfl; (next => (first
          | rfl
          | exact look_hd
          | assumption
          | ((repeat (first | exact look_hd | assumption | (apply look_tl; (next => (first | assumption | (intro e; exact absurd e.symm (by assumption)) | fail))) | fail)); done)
          | fail)); (next => rfl); (next => rfl); (next => rfl); (next => rfl); (next => rfl); (next => rfl); (next => rfl); (next => rfl))
         | fail)))
        | fail)
       | (refine arO ⟨_, .alloc _, _, _, _, _⟩ ?_; first
        | (refine ar_eff rfl rfl (eff_alloc (T := TT) rfl rfl ?_); intro kb hkb; (repeat (have hkn := (freshK_ne hkb).1; replace hkb := (freshK_ne hkb).2)); (try have hkl := freshK_look hkb); clear hkb; refine ar_nf ?_)
        | fail)
       | fail)
      | refine ar_unwanted' rfl rfl rfl rfl ?_
      | refine ar_seq ?_
      | (refine arE ?_; refine ar_endM [0, 2, 3, 4, 5, 6, 8, 13, 17, 18, 19, 20, 25, 46] rfl ?_)
      | refine ar_region ?_
      | refine ar_block ?_
      | refine ar_skip ?_
      | refine ar_blk ?_
      | refine ar_dedup rfl ?_
      | (refine arC (.cond _ _ _) ?_; first
       | (refine ar_cond_true rfl ?_ ?_; (next => (first | rfl | (simp only [decide_eq_true_eq, beq_iff_eq, bne_iff_ne, ge_iff_le, gt_iff_lt, ne_eq, Bool.not_eq_true', decide_eq_false_iff_not]; omega))))
       | (refine ar_cond_false rfl ?_ ?_; (next => (first
        | rfl
        | (simp only [decide_eq_false_iff_not, beq_eq_false_iff_ne, bne_eq_false_iff_eq, ge_iff_le, gt_iff_lt, ne_eq, Bool.not_eq_false', decide_eq_true_eq]; omega))))
       | fail)
      | refine ar_exit ?_
      | refine stk_b_hit ?_
      | refine stk_b_miss rfl ?_
      | refine stk_c_exit ?_
      | refine stk_l_exit ?_
      | (refine arC .ret ?_; refine ar_retM [2, 3] ?_)
      | refine stk_c_ret ?_
      | refine stk_b_ret ?_
      | refine stk_l_ret ?_
      | refine stk_nil ?_
      | fail)
    refine ar_back ⟨1, ⟨rfl, ?_, ?_, rfl⟩, by omega, by omega⟩
    · (repeat' (first
      | exact trivial
      | exact LeL.refl _
      | exact .refl _
      | refine ⟨⟨_, rfl, ?_⟩, ?_⟩
      | refine ⟨⟨_, look_hd, ?_⟩, ?_⟩
      | refine ⟨⟨_, look_tl (by first | assumption | (intro e; exact absurd e.symm (by assumption))) look_hd, ?_⟩, ?_⟩
      | refine ⟨⟨_, look_tl (by first | assumption | (intro e; exact absurd e.symm (by assumption))) (look_tl (by first | assumption | (intro e; exact absurd e.symm (by assumption))) look_hd), ?_⟩, ?_⟩
      | refine ⟨⟨_, look_tl (by first | assumption | (intro e; exact absurd e.symm (by assumption))) (look_tl (by first | assumption | (intro e; exact absurd e.symm (by assumption))) (look_tl (by first | assumption | (intro e; exact absurd e.symm (by assumption))) look_hd)), ?_⟩, ?_⟩
      | refine ⟨⟨_, look_tl (by first | assumption | (intro e; exact absurd e.symm (by assumption))) (look_tl (by first | assumption | (intro e; exact absurd e.symm (by assumption))) (look_tl (by first | assumption | (intro e; exact absurd e.symm (by assumption))) (look_tl (by first | assumption | (intro e; exact absurd e.symm (by assumption))) look_hd))), ?_⟩, ?_⟩
      | exact .nil _ _
      | exact .rd _ _ _
      | refine LeL.cons ?_ ?_
      | exact LeL.nil
      | refine Le1.of_eq ?_))
    · (repeat' (first
      | exact trivial
      | exact LeL.refl _
      | exact .refl _
      | refine ⟨⟨_, rfl, ?_⟩, ?_⟩
      | refine ⟨⟨_, look_hd, ?_⟩, ?_⟩
      | refine ⟨⟨_, look_tl (by first | assumption | (intro e; exact absurd e.symm (by assumption))) look_hd, ?_⟩, ?_⟩
      | refine ⟨⟨_, look_tl (by first | assumption | (intro e; exact absurd e.symm (by assumption))) (look_tl (by first | assumption | (intro e; exact absurd e.symm (by assumption))) look_hd), ?_⟩, ?_⟩
      | refine ⟨⟨_, look_tl (by first | assumption | (intro e; exact absurd e.symm (by assumption))) (look_tl (by first | assumption | (intro e; exact absurd e.symm (by assumption))) (look_tl (by first | assumption | (intro e; exact absurd e.symm (by assumption))) look_hd)), ?_⟩, ?_⟩
      | refine ⟨⟨_, look_tl (by first | assumption | (intro e; exact absurd e.symm (by assumption))) (look_tl (by first | assumption | (intro e; exact absurd e.symm (by assumption))) (look_tl (by first | assumption | (intro e; exact absurd e.symm (by assumption))) (look_tl (by first | assumption | (intro e; exact absurd e.symm (by assumption))) look_hd))), ?_⟩, ?_⟩
      | exact .nil _ _
      | exact .rd _ _ _
      | refine LeL.cons ?_ ?_
      | exact LeL.nil
      | refine Le1.of_eq ?_))
  · simp only [sixth, nine]
    repeat (first
      | ((first | apply ar_un | apply stk_un); (next => (first | (simp only [go_sem, Nat.reduceBEq, Nat.reduceEqDiff, reduceIte, reduceCtorEq, String.reduceEq, Nat.reduceAdd, Int.reduceToNat]; exact rfl) | exact rfl)))
      | (refine arC .ret ?_; refine ar_retM0 [2, 3] ?_)
      | (apply ar_op' rfl rfl rfl rfl; (next => (first
       | (refine evalE_ok (T := TT) rfl ?_; (first | exact trivial | omega | (simp [NFL] <;> omega)))
       | (apply opk ⟨_, .move _, _, _, _, _⟩; first | exact opv_const (cst_plain _) (.inl rfl) | fail)
       | (apply opk ⟨_, .binOp .add _ _ _ _, _, _, _, _⟩; first | exact opv_bin rfl rfl rfl | fail)
       | (apply opk ⟨_, .binOp .eql _ _ _ _, _, _, _, _⟩; first
        | (refine opv_cmp_t rfl rfl rfl ?_; (next => (first | exact rfl | (simp only [cmpP]; omega) | (simp only [cmpP]; simp [NFL] <;> omega))))
        | (refine opv_cmp_f rfl rfl rfl ?_; (next => (first | exact rfl | (simp only [cmpP]; omega) | (simp only [cmpP]; simp [NFL] <;> omega))))
        | exact opv_bin rfl rfl rfl
        | (refine opv_seq_t rfl rfl rfl ?_; (next => (first | rfl | assumption)))
        | (refine opv_seq_f rfl rfl rfl ?_; (next => (first | rfl | assumption)))
        | exact opv_str rfl rfl rfl
        | fail)
       | (apply opk ⟨_, .binOp .neq _ _ _ _, _, _, _, _⟩; first
        | (refine opv_cmp_t rfl rfl rfl ?_; (next => (first | exact rfl | (simp only [cmpP]; omega) | (simp only [cmpP]; simp [NFL] <;> omega))))
        | (refine opv_cmp_f rfl rfl rfl ?_; (next => (first | exact rfl | (simp only [cmpP]; omega) | (simp only [cmpP]; simp [NFL] <;> omega))))
        | exact opv_bin rfl rfl rfl
        | (refine opv_sne_t rfl rfl rfl ?_; (next => (first | rfl | assumption)))
        | (refine opv_sne_f rfl rfl rfl ?_; (next => (first | rfl | assumption)))
        | exact opv_str rfl rfl rfl
        | fail)
       | (apply opk ⟨_, .binOp .lss _ _ _ _, _, _, _, _⟩; first
        | (refine opv_cmp_t rfl rfl rfl ?_; (next => (first | exact rfl | (simp only [cmpP]; omega) | (simp only [cmpP]; simp [NFL] <;> omega))))
        | (refine opv_cmp_f rfl rfl rfl ?_; (next => (first | exact rfl | (simp only [cmpP]; omega) | (simp only [cmpP]; simp [NFL] <;> omega))))
        | exact opv_bin rfl rfl rfl
        | exact opv_str rfl rfl rfl
        | fail)
       | (apply opk ⟨_, .call { callee := .builtin .len, args := _, argTypes := _ }, _, _, _, _⟩; first
        | exact opv_len_str (T := TT) rfl rfl rfl
        | exact opv_len_sl (T := TT) rfl rfl rfl
        | exact opv_len_nil (T := TT) rfl rfl rfl
        | fail)
       | (apply opk ⟨_, .indexAddr _ _ _, _, _, _, _⟩; first
        | (refine opv_indexaddr_byte (T := TT) rfl rfl rfl rfl ?_ ?_; (next => (first | omega | (simp [NFL] <;> omega))); (next => (first | omega | (simp [NFL] <;> omega))))
        | (refine opv_indexaddr (T := TT) rfl rfl rfl rfl ?_ ?_; (next => (first | omega | (simp [NFL] <;> omega))); (next => (first | omega | (simp [NFL] <;> omega))))
        | fail)
       | (apply opk ⟨_, .fieldAddr _ _ _, _, _, _, _⟩; first
        | exact opv_field_el (T := TT) rfl rfl rfl rfl rfl rfl
        | exact opv_field_box (T := TT) rfl rfl rfl rfl rfl
        | fail)
       | (apply opk ⟨_, .load _ _, _, _, _, _⟩; first | exact opv_load_el (T := TT) rfl rfl rfl | exact opv_load_els (T := TT) rfl rfl rfl rfl | fail)
       | (apply opk ⟨_, .buildSlice _ _ _, _, _, _, _⟩; first | exact opv_build_slice (T := TT) rfl rfl rfl rfl rfl rfl rfl | fail)
       | (apply opk ⟨_, .pick _ _ _, _, _, _, _⟩; first
        | (refine opv_pickt rfl ?_ rfl; (next => (first | rfl | assumption)))
        | (refine opv_pickf rfl ?_ rfl; (next => (first | rfl | assumption)))
        | fail)
       | fail)))
      | (refine arO _ ?_; first
       | (refine arO ⟨_, .move _, _, _, _, _⟩ ?_; first | refine ar_move_sl rfl rfl rfl rfl ?_ | fail)
       | (refine arO ⟨_, .assign _, _, _, _, _⟩ ?_; first
        | refine ar_assign_sl rfl rfl rfl rfl ?_
        | refine ar_op rfl rfl rfl rfl (opv_const (cst_plain _) (.inr rfl)) ?_
        | fail)
       | (refine arO ⟨_, .load _ _, _, _, _, _⟩ ?_; first
        | refine ar_load_own (T := TT) rfl rfl rfl rfl look_hd rfl rfl rfl rfl ?_
        | (refine ar_load_own (T := TT) rfl rfl rfl rfl (look_tl ?_ look_hd) rfl rfl rfl rfl ?_; (next => (first | assumption | (intro e; exact absurd e.symm (by assumption)))))
        | (refine ar_load_own (T := TT) rfl rfl rfl rfl (look_tl ?_ (look_tl ?_ look_hd)) rfl rfl rfl rfl ?_; (next => (first | assumption | (intro e; exact absurd e.symm (by assumption)))); (next => (first | assumption | (intro e; exact absurd e.symm (by assumption)))))
        | fail)
       | (refine arO ⟨_, .call { callee := .builtin .append, args := _, argTypes := _ }, _, _, _, _⟩ ?_; first
        | (apply ar_effM rfl rfl; (next => (first
         | (apply effTo_append (T := TT) rfl rfl rfl rfl rfl rfl rfl rfl rfl rfl; (next => (first | exact trivial | exact rowsOne_byteA _ | assumption | (simp [RowsOne, AV.one, AV.rd, AV.cells, cst, Value.oneCell'] <;> omega))); (next => (first | omega | (simp [NFL] <;> omega))))
         | (apply effTo_append (T := TT) rfl (own_c look_hd rfl) rfl rfl rfl rfl rfl rfl rfl rfl; (next => (first | exact trivial | exact rowsOne_byteA _ | assumption | (simp [RowsOne, AV.one, AV.rd, AV.cells, cst, Value.oneCell'] <;> omega))); (next => (first | omega | (simp [NFL] <;> omega))))
         | (apply effTo_append (T := TT) rfl (own_c (look_tl (by first | assumption | (intro e; exact absurd e.symm (by assumption))) look_hd) rfl) rfl rfl rfl rfl rfl rfl rfl rfl; (next => (first | exact trivial | exact rowsOne_byteA _ | assumption | (simp [RowsOne, AV.one, AV.rd, AV.cells, cst, Value.oneCell'] <;> omega))); (next => (first | omega | (simp [NFL] <;> omega))))
         | (apply effTo_append_nil (T := TT) rfl rfl rfl rfl rfl rfl rfl rfl rfl; (next => (first | exact trivial | exact rowsOne_byteA _ | assumption | (simp [RowsOne, AV.one, AV.rd, AV.cells, cst, Value.oneCell'] <;> omega))); (next => (first | omega | (simp [NFL] <;> omega))))
         | fail)))
        | fail)
       | (refine arO ⟨_, .store _ _ _, _, _, _, _⟩ ?_; first
        | (apply ar_effM rfl rfl; (next => (first
         | (apply effTo_store_own (T := TT) rfl rfl rfl; (next => (first
          | rfl
          | exact look_hd
          | assumption
          | ((repeat (first | exact look_hd | assumption | (apply look_tl; (next => (first | assumption | (intro e; exact absurd e.symm (by assumption)) | fail))) | fail)); done)
          | fail)); (next => rfl); (next => rfl); (next => rfl))
         | (apply effTo_store (T := TT) rfl; (next => (first
          | rfl
          | exact look_hd
          | assumption
          | ((repeat (first | exact look_hd | assumption | (apply look_tl; (next => (first | assumption | (intro e; exact absurd e.symm (by assumption)) | fail))) | fail)); done)
          | fail)); (next => rfl); (next => rfl); (next => rfl); (next => rfl); (next => rfl); (next => rfl); (next => rfl); (next => rfl))
         | fail)))
        | fail)
       | (refine arO ⟨_, .alloc _, _, _, _, _⟩ ?_; first
        | (refine ar_eff rfl rfl (eff_alloc (T := TT) rfl rfl ?_); intro kb hkb; (repeat (have hkn := (freshK_ne hkb).1; replace hkb := (freshK_ne hkb).2)); (try have hkl := freshK_look hkb); clear hkb; refine ar_nf ?_)
        | fail)
       | fail)
      | refine ar_unwanted' rfl rfl rfl rfl ?_
      | refine ar_seq ?_
      | (refine arE ?_; refine ar_endM [0, 2, 3, 4, 5, 6, 8, 13, 17, 18, 19, 20, 25, 46] rfl ?_)
      | refine ar_region ?_
      | refine ar_block ?_
      | refine ar_skip ?_
      | refine ar_blk ?_
      | refine ar_dedup rfl ?_
      | (refine arC (.cond _ _ _) ?_; first
       | (refine ar_cond_true rfl ?_ ?_; (next => (first | rfl | (simp only [decide_eq_true_eq, beq_iff_eq, bne_iff_ne, ge_iff_le, gt_iff_lt, ne_eq, Bool.not_eq_true', decide_eq_false_iff_not]; omega))))
       | (refine ar_cond_false rfl ?_ ?_; (next => (first
        | rfl
        | (simp only [decide_eq_false_iff_not, beq_eq_false_iff_ne, bne_eq_false_iff_eq, ge_iff_le, gt_iff_lt, ne_eq, Bool.not_eq_false', decide_eq_true_eq]; omega))))
       | fail)
      | refine ar_exit ?_
      | refine stk_b_hit ?_
      | refine stk_b_miss rfl ?_
      | refine stk_c_exit ?_
      | refine stk_l_exit ?_
      | (refine arC .ret ?_; refine ar_retM [2, 3] ?_)
      | refine stk_c_ret ?_
      | refine stk_b_ret ?_
      | refine stk_l_ret ?_
      | refine stk_nil ?_
      | fail)
    refine ar_drawM (st := fun _ => true) (mN := fun i => [0, 1, 2, 3, 6, 7].contains i) (cs := [4, 5, 8, 9, 10, 11, 12, 13]) mixed (mixB_ok (by kernel_rfl)) rfl (fun k c hk => ?_) ?_
    · simp only [List.filter_cons, List.filter_nil, if_true, look_cons, look_nil] at hk
      split at hk
      · cases hk; rfl
      · cases hk
    refine n_op (d := 26) (u := .v (.slice none 0 0)) rfl rfl rfl rfl (opv_move_rd (u := .v (.slice none 0 0)) rfl (.inl rfl)) ⟨rfl, .inl ⟨_, rfl⟩⟩ ?_
    refine n_op (d := 27) (u := .v (.pointer (some ⟨kb, 0, none⟩))) rfl rfl rfl rfl (opv_eq (opv_field_box (T := TT) rfl rfl rfl rfl rfl) rfl) ⟨rfl, .inl ⟨_, rfl⟩⟩ ?_
    refine n_op (d := 28) (u := .v (.string (mkB jobB))) rfl rfl rfl rfl (opv_load_box (u := .v (.string (mkB jobB))) (T := TT) rfl (look_h _ _ _) rfl rfl rfl rfl) ⟨rfl, .inl ⟨_, rfl⟩⟩ ?_
    refine n_op (d := 29) (u := .v (.string (mkB [106, 111, 98, 61, 34]))) rfl rfl rfl rfl (opv_eq (opv_cat rfl rfl (Nat.le_of_ble_eq_true (by kernel_rfl))) (by kernel_rfl)) ⟨rfl, .inl ⟨_, rfl⟩⟩ ?_
    refine n_skip rfl (n_skip rfl ?_)
    refine n_op (d := 32) (u := .v (.pointer (some ⟨kb, 1, none⟩))) rfl rfl rfl rfl (opv_eq (opv_field_box (T := TT) rfl rfl rfl rfl rfl) rfl) ⟨rfl, .inl ⟨_, rfl⟩⟩ ?_
    refine n_op (d := 33) (u := .v (.string (mkB [120]))) rfl rfl rfl rfl (opv_load_box (u := .v (.string (mkB [120]))) (T := TT) rfl (look_h _ _ _) rfl rfl rfl rfl) ⟨rfl, .inl ⟨_, rfl⟩⟩ ?_
    refine n_skip rfl (n_skip rfl (n_skip rfl (n_skip rfl (n_skip rfl (n_skip rfl (n_end ?_))))))
    refine c_le (σ' := ⟨54, [(0, .sl false 2 [[.v (.string (mkB nameB)), .v (.string (mkB upB))], [.v (.string (mkB jobB)), .v (.string (mkB [120]))]]), (5, .v (.string (mkB upB))), (17, .sl false 2 [[.v (.string (mkB nameB)), .v (.string (mkB upB))], [.v (.string (mkB jobB)), .v (.string (mkB [120]))]]), (18, .v (.int .i64 2)), (19, .v (.int .i64 1)), (26, .v (.slice none 0 0)), (29, .v (.string (mkB [106, 111, 98, 61, 34]))), (33, .v (.string (mkB [120])))], [], []⟩) ⟨rfl, ?_, ?_, rfl⟩ ?_
    · (repeat' (first
      | exact trivial
      | exact LeL.refl _
      | exact .refl _
      | refine ⟨⟨_, rfl, ?_⟩, ?_⟩
      | refine ⟨⟨_, look_hd, ?_⟩, ?_⟩
      | refine ⟨⟨_, look_tl (by first | assumption | (intro e; exact absurd e.symm (by assumption))) look_hd, ?_⟩, ?_⟩
      | refine ⟨⟨_, look_tl (by first | assumption | (intro e; exact absurd e.symm (by assumption))) (look_tl (by first | assumption | (intro e; exact absurd e.symm (by assumption))) look_hd), ?_⟩, ?_⟩
      | refine ⟨⟨_, look_tl (by first | assumption | (intro e; exact absurd e.symm (by assumption))) (look_tl (by first | assumption | (intro e; exact absurd e.symm (by assumption))) (look_tl (by first | assumption | (intro e; exact absurd e.symm (by assumption))) look_hd)), ?_⟩, ?_⟩
      | refine ⟨⟨_, look_tl (by first | assumption | (intro e; exact absurd e.symm (by assumption))) (look_tl (by first | assumption | (intro e; exact absurd e.symm (by assumption))) (look_tl (by first | assumption | (intro e; exact absurd e.symm (by assumption))) (look_tl (by first | assumption | (intro e; exact absurd e.symm (by assumption))) look_hd))), ?_⟩, ?_⟩
      | exact .nil _ _
      | exact .rd _ _ _
      | refine LeL.cons ?_ ?_
      | exact LeL.nil
      | refine Le1.of_eq ?_))
    · (repeat' (first
      | exact trivial
      | exact LeL.refl _
      | exact .refl _
      | refine ⟨⟨_, rfl, ?_⟩, ?_⟩
      | refine ⟨⟨_, look_hd, ?_⟩, ?_⟩
      | refine ⟨⟨_, look_tl (by first | assumption | (intro e; exact absurd e.symm (by assumption))) look_hd, ?_⟩, ?_⟩
      | refine ⟨⟨_, look_tl (by first | assumption | (intro e; exact absurd e.symm (by assumption))) (look_tl (by first | assumption | (intro e; exact absurd e.symm (by assumption))) look_hd), ?_⟩, ?_⟩
      | refine ⟨⟨_, look_tl (by first | assumption | (intro e; exact absurd e.symm (by assumption))) (look_tl (by first | assumption | (intro e; exact absurd e.symm (by assumption))) (look_tl (by first | assumption | (intro e; exact absurd e.symm (by assumption))) look_hd)), ?_⟩, ?_⟩
      | refine ⟨⟨_, look_tl (by first | assumption | (intro e; exact absurd e.symm (by assumption))) (look_tl (by first | assumption | (intro e; exact absurd e.symm (by assumption))) (look_tl (by first | assumption | (intro e; exact absurd e.symm (by assumption))) (look_tl (by first | assumption | (intro e; exact absurd e.symm (by assumption))) look_hd))), ?_⟩, ?_⟩
      | exact .nil _ _
      | exact .rd _ _ _
      | refine LeL.cons ?_ ?_
      | exact LeL.nil
      | refine Le1.of_eq ?_))
    refine c_val (d := 30) (u := .sl true 1 six) rfl rfl (opv_eq (opv_build_slice (T := TT) rfl rfl rfl rfl rfl rfl rfl) (by kernel_rfl)) ?_
    refine c_op (eff_call (Hp := []) (Hr := []) newReplacer_a (.cons (.rd rfl (Le1.rd _ _ _) rfl) .nil) (fun i j r hi hj => oneSome_spec (ρs := [none]) rfl i j r r hi hj) (fun _ _ _ => rfl) (fun k cs hk => by simp [look_nil] at hk) (fun k cs hk => by simp [look_nil] at hk) rfl ?_)
    rintro _ _ ⟨B, rfl, rfl⟩
    refine ⟨_, rfl, ?_⟩
    refine c_op (eff_call (Hp := [(B, repA)]) (Hr := []) (repl_a B [120] [120] repX_a) (.cons (.rd rfl (Le1.refl _) rfl) (.cons (.rd rfl (Le1.refl _) rfl) .nil)) (fun i j r hi hj => oneSome_spec (ρs := [none, none]) rfl i j r r hi hj) (fun _ _ hh => by simp at hh) (fun k cs hk => hk) (fun k cs hk => by simp [look_nil] at hk) rfl ?_)
    rintro _ _ ⟨rfl, rfl⟩
    refine ⟨_, rfl, ?_⟩
    refine c_le (σ' := ⟨54, [(0, .sl false 2 [[.v (.string (mkB nameB)), .v (.string (mkB upB))], [.v (.string (mkB jobB)), .v (.string (mkB [120]))]]), (5, .v (.string (mkB upB))), (17, .sl false 2 [[.v (.string (mkB nameB)), .v (.string (mkB upB))], [.v (.string (mkB jobB)), .v (.string (mkB [120]))]]), (18, .v (.int .i64 2)), (19, .v (.int .i64 1)), (26, .v (.slice none 0 0)), (29, .v (.string (mkB [106, 111, 98, 61, 34]))), (34, .v (.string (mkB [120])))], [], []⟩) ⟨rfl, ?_, ?_, rfl⟩ ?_
    · (repeat' (first
      | exact trivial
      | exact LeL.refl _
      | exact .refl _
      | refine ⟨⟨_, rfl, ?_⟩, ?_⟩
      | refine ⟨⟨_, look_hd, ?_⟩, ?_⟩
      | refine ⟨⟨_, look_tl (by first | assumption | (intro e; exact absurd e.symm (by assumption))) look_hd, ?_⟩, ?_⟩
      | refine ⟨⟨_, look_tl (by first | assumption | (intro e; exact absurd e.symm (by assumption))) (look_tl (by first | assumption | (intro e; exact absurd e.symm (by assumption))) look_hd), ?_⟩, ?_⟩
      | refine ⟨⟨_, look_tl (by first | assumption | (intro e; exact absurd e.symm (by assumption))) (look_tl (by first | assumption | (intro e; exact absurd e.symm (by assumption))) (look_tl (by first | assumption | (intro e; exact absurd e.symm (by assumption))) look_hd)), ?_⟩, ?_⟩
      | refine ⟨⟨_, look_tl (by first | assumption | (intro e; exact absurd e.symm (by assumption))) (look_tl (by first | assumption | (intro e; exact absurd e.symm (by assumption))) (look_tl (by first | assumption | (intro e; exact absurd e.symm (by assumption))) (look_tl (by first | assumption | (intro e; exact absurd e.symm (by assumption))) look_hd))), ?_⟩, ?_⟩
      | exact .nil _ _
      | exact .rd _ _ _
      | refine LeL.cons ?_ ?_
      | exact LeL.nil
      | refine Le1.of_eq ?_))
    · (repeat' (first
      | exact trivial
      | exact LeL.refl _
      | exact .refl _
      | refine ⟨⟨_, rfl, ?_⟩, ?_⟩
      | refine ⟨⟨_, look_hd, ?_⟩, ?_⟩
      | refine ⟨⟨_, look_tl (by first | assumption | (intro e; exact absurd e.symm (by assumption))) look_hd, ?_⟩, ?_⟩
      | refine ⟨⟨_, look_tl (by first | assumption | (intro e; exact absurd e.symm (by assumption))) (look_tl (by first | assumption | (intro e; exact absurd e.symm (by assumption))) look_hd), ?_⟩, ?_⟩
      | refine ⟨⟨_, look_tl (by first | assumption | (intro e; exact absurd e.symm (by assumption))) (look_tl (by first | assumption | (intro e; exact absurd e.symm (by assumption))) (look_tl (by first | assumption | (intro e; exact absurd e.symm (by assumption))) look_hd)), ?_⟩, ?_⟩
      | refine ⟨⟨_, look_tl (by first | assumption | (intro e; exact absurd e.symm (by assumption))) (look_tl (by first | assumption | (intro e; exact absurd e.symm (by assumption))) (look_tl (by first | assumption | (intro e; exact absurd e.symm (by assumption))) (look_tl (by first | assumption | (intro e; exact absurd e.symm (by assumption))) look_hd))), ?_⟩, ?_⟩
      | exact .nil _ _
      | exact .rd _ _ _
      | refine LeL.cons ?_ ?_
      | exact LeL.nil
      | refine Le1.of_eq ?_))
    refine c_val (d := 35) (u := .v (.string (mkB [106, 111, 98, 61, 34, 120]))) rfl rfl (opv_eq (opv_cat rfl rfl (Nat.le_of_ble_eq_true (by kernel_rfl))) (by kernel_rfl)) ?_
    refine c_val (d := 36) (u := .v (.string (mkB partB))) rfl rfl (opv_eq (opv_cat rfl rfl (Nat.le_of_ble_eq_true (by kernel_rfl))) (by kernel_rfl)) ?_
    refine c_val (d := 37) (u := .sl true 1 [[.v (.string (mkB partB))]]) rfl rfl (opv_eq (opv_build_slice (T := TT) rfl rfl rfl rfl rfl rfl rfl) rfl) ?_
    refine c_op (eff_append_nil (T := TT) (m := [[.v (.string (mkB partB))]]) (sz := 1) rfl rfl rfl (.inr ⟨_, rfl⟩) rfl rfl (fun F X a hs => adds_rel (fun r hr u hu => by simp at hr; subst hr; simp at hu; subst hu; rfl) X a (Rel.own (o := true) (opV_rel' hs rfl))) (by decide) rfl ?_)
    refine c_le (σ' := ⟨54, [(0, .sl false 2 [[.v (.string (mkB nameB)), .v (.string (mkB upB))], [.v (.string (mkB jobB)), .v (.string (mkB [120]))]]), (5, .v (.string (mkB upB))), (17, .sl false 2 [[.v (.string (mkB nameB)), .v (.string (mkB upB))], [.v (.string (mkB jobB)), .v (.string (mkB [120]))]]), (18, .v (.int .i64 2)), (19, .v (.int .i64 1)), (38, .sl false 1 [[.v (.string (mkB partB))]])], [], []⟩) ⟨rfl, ?_, ?_, rfl⟩ ?_
    · (repeat' (first
      | exact trivial
      | exact LeL.refl _
      | exact .refl _
      | refine ⟨⟨_, rfl, ?_⟩, ?_⟩
      | refine ⟨⟨_, look_hd, ?_⟩, ?_⟩
      | refine ⟨⟨_, look_tl (by first | assumption | (intro e; exact absurd e.symm (by assumption))) look_hd, ?_⟩, ?_⟩
      | refine ⟨⟨_, look_tl (by first | assumption | (intro e; exact absurd e.symm (by assumption))) (look_tl (by first | assumption | (intro e; exact absurd e.symm (by assumption))) look_hd), ?_⟩, ?_⟩
      | refine ⟨⟨_, look_tl (by first | assumption | (intro e; exact absurd e.symm (by assumption))) (look_tl (by first | assumption | (intro e; exact absurd e.symm (by assumption))) (look_tl (by first | assumption | (intro e; exact absurd e.symm (by assumption))) look_hd)), ?_⟩, ?_⟩
      | refine ⟨⟨_, look_tl (by first | assumption | (intro e; exact absurd e.symm (by assumption))) (look_tl (by first | assumption | (intro e; exact absurd e.symm (by assumption))) (look_tl (by first | assumption | (intro e; exact absurd e.symm (by assumption))) (look_tl (by first | assumption | (intro e; exact absurd e.symm (by assumption))) look_hd))), ?_⟩, ?_⟩
      | exact .nil _ _
      | exact .rd _ _ _
      | refine LeL.cons ?_ ?_
      | exact LeL.nil
      | refine Le1.of_eq ?_))
    · (repeat' (first
      | exact trivial
      | exact LeL.refl _
      | exact .refl _
      | refine ⟨⟨_, rfl, ?_⟩, ?_⟩
      | refine ⟨⟨_, look_hd, ?_⟩, ?_⟩
      | refine ⟨⟨_, look_tl (by first | assumption | (intro e; exact absurd e.symm (by assumption))) look_hd, ?_⟩, ?_⟩
      | refine ⟨⟨_, look_tl (by first | assumption | (intro e; exact absurd e.symm (by assumption))) (look_tl (by first | assumption | (intro e; exact absurd e.symm (by assumption))) look_hd), ?_⟩, ?_⟩
      | refine ⟨⟨_, look_tl (by first | assumption | (intro e; exact absurd e.symm (by assumption))) (look_tl (by first | assumption | (intro e; exact absurd e.symm (by assumption))) (look_tl (by first | assumption | (intro e; exact absurd e.symm (by assumption))) look_hd)), ?_⟩, ?_⟩
      | refine ⟨⟨_, look_tl (by first | assumption | (intro e; exact absurd e.symm (by assumption))) (look_tl (by first | assumption | (intro e; exact absurd e.symm (by assumption))) (look_tl (by first | assumption | (intro e; exact absurd e.symm (by assumption))) (look_tl (by first | assumption | (intro e; exact absurd e.symm (by assumption))) look_hd))), ?_⟩, ?_⟩
      | exact .nil _ _
      | exact .rd _ _ _
      | refine LeL.cons ?_ ?_
      | exact LeL.nil
      | refine Le1.of_eq ?_))
    refine c_val (d := 6) (u := .sl false 1 [[.v (.string (mkB partB))]]) rfl rfl (opv_move_rd (u := .sl false 1 [[.v (.string (mkB partB))]]) rfl (.inr rfl)) ?_
    refine c_end (ar_blk ?_)
    refine ar_le (σ' := ⟨54, [(0, .sl false 2 [[.v (.string (mkB nameB)), .v (.string (mkB upB))], [.v (.string (mkB jobB)), .v (.string (mkB [120]))]]), (5, .v (.string (mkB upB))), (17, .sl false 2 [[.v (.string (mkB nameB)), .v (.string (mkB upB))], [.v (.string (mkB jobB)), .v (.string (mkB [120]))]]), (18, .v (.int .i64 2)), (19, .v (.int .i64 1)), (6, .sl false 1 [[.v (.string (mkB partB))]])], [], []⟩) ⟨rfl, ?_, ?_, rfl⟩ ?_
    · (repeat' (first
      | exact trivial
      | exact LeL.refl _
      | exact .refl _
      | refine ⟨⟨_, rfl, ?_⟩, ?_⟩
      | refine ⟨⟨_, look_hd, ?_⟩, ?_⟩
      | refine ⟨⟨_, look_tl (by first | assumption | (intro e; exact absurd e.symm (by assumption))) look_hd, ?_⟩, ?_⟩
      | refine ⟨⟨_, look_tl (by first | assumption | (intro e; exact absurd e.symm (by assumption))) (look_tl (by first | assumption | (intro e; exact absurd e.symm (by assumption))) look_hd), ?_⟩, ?_⟩
      | refine ⟨⟨_, look_tl (by first | assumption | (intro e; exact absurd e.symm (by assumption))) (look_tl (by first | assumption | (intro e; exact absurd e.symm (by assumption))) (look_tl (by first | assumption | (intro e; exact absurd e.symm (by assumption))) look_hd)), ?_⟩, ?_⟩
      | refine ⟨⟨_, look_tl (by first | assumption | (intro e; exact absurd e.symm (by assumption))) (look_tl (by first | assumption | (intro e; exact absurd e.symm (by assumption))) (look_tl (by first | assumption | (intro e; exact absurd e.symm (by assumption))) (look_tl (by first | assumption | (intro e; exact absurd e.symm (by assumption))) look_hd))), ?_⟩, ?_⟩
      | exact .nil _ _
      | exact .rd _ _ _
      | refine LeL.cons ?_ ?_
      | exact LeL.nil
      | refine Le1.of_eq ?_))
    · (repeat' (first
      | exact trivial
      | exact LeL.refl _
      | exact .refl _
      | refine ⟨⟨_, rfl, ?_⟩, ?_⟩
      | refine ⟨⟨_, look_hd, ?_⟩, ?_⟩
      | refine ⟨⟨_, look_tl (by first | assumption | (intro e; exact absurd e.symm (by assumption))) look_hd, ?_⟩, ?_⟩
      | refine ⟨⟨_, look_tl (by first | assumption | (intro e; exact absurd e.symm (by assumption))) (look_tl (by first | assumption | (intro e; exact absurd e.symm (by assumption))) look_hd), ?_⟩, ?_⟩
      | refine ⟨⟨_, look_tl (by first | assumption | (intro e; exact absurd e.symm (by assumption))) (look_tl (by first | assumption | (intro e; exact absurd e.symm (by assumption))) (look_tl (by first | assumption | (intro e; exact absurd e.symm (by assumption))) look_hd)), ?_⟩, ?_⟩
      | refine ⟨⟨_, look_tl (by first | assumption | (intro e; exact absurd e.symm (by assumption))) (look_tl (by first | assumption | (intro e; exact absurd e.symm (by assumption))) (look_tl (by first | assumption | (intro e; exact absurd e.symm (by assumption))) (look_tl (by first | assumption | (intro e; exact absurd e.symm (by assumption))) look_hd))), ?_⟩, ?_⟩
      | exact .nil _ _
      | exact .rd _ _ _
      | refine LeL.cons ?_ ?_
      | exact LeL.nil
      | refine Le1.of_eq ?_))
    repeat (first
      | ((first | apply ar_un | apply stk_un); (next => (first | (simp only [go_sem, Nat.reduceBEq, Nat.reduceEqDiff, reduceIte, reduceCtorEq, String.reduceEq, Nat.reduceAdd, Int.reduceToNat]; exact rfl) | exact rfl)))
      | (refine arC .ret ?_; refine ar_retM0 [2, 3] ?_)
      | (apply ar_op' rfl rfl rfl rfl; (next => (first
       | (refine evalE_ok (T := TT) rfl ?_; (first | exact trivial | omega | (simp [NFL] <;> omega)))
       | (apply opk ⟨_, .move _, _, _, _, _⟩; first | exact opv_const (cst_plain _) (.inl rfl) | fail)
       | (apply opk ⟨_, .binOp .add _ _ _ _, _, _, _, _⟩; first | exact opv_bin rfl rfl rfl | fail)
       | (apply opk ⟨_, .binOp .eql _ _ _ _, _, _, _, _⟩; first
        | (refine opv_cmp_t rfl rfl rfl ?_; (next => (first | exact rfl | (simp only [cmpP]; omega) | (simp only [cmpP]; simp [NFL] <;> omega))))
        | (refine opv_cmp_f rfl rfl rfl ?_; (next => (first | exact rfl | (simp only [cmpP]; omega) | (simp only [cmpP]; simp [NFL] <;> omega))))
        | exact opv_bin rfl rfl rfl
        | (refine opv_seq_t rfl rfl rfl ?_; (next => (first | rfl | assumption)))
        | (refine opv_seq_f rfl rfl rfl ?_; (next => (first | rfl | assumption)))
        | exact opv_str rfl rfl rfl
        | fail)
       | (apply opk ⟨_, .binOp .neq _ _ _ _, _, _, _, _⟩; first
        | (refine opv_cmp_t rfl rfl rfl ?_; (next => (first | exact rfl | (simp only [cmpP]; omega) | (simp only [cmpP]; simp [NFL] <;> omega))))
        | (refine opv_cmp_f rfl rfl rfl ?_; (next => (first | exact rfl | (simp only [cmpP]; omega) | (simp only [cmpP]; simp [NFL] <;> omega))))
        | exact opv_bin rfl rfl rfl
        | (refine opv_sne_t rfl rfl rfl ?_; (next => (first | rfl | assumption)))
        | (refine opv_sne_f rfl rfl rfl ?_; (next => (first | rfl | assumption)))
        | exact opv_str rfl rfl rfl
        | fail)
       | (apply opk ⟨_, .binOp .lss _ _ _ _, _, _, _, _⟩; first
        | (refine opv_cmp_t rfl rfl rfl ?_; (next => (first | exact rfl | (simp only [cmpP]; omega) | (simp only [cmpP]; simp [NFL] <;> omega))))
        | (refine opv_cmp_f rfl rfl rfl ?_; (next => (first | exact rfl | (simp only [cmpP]; omega) | (simp only [cmpP]; simp [NFL] <;> omega))))
        | exact opv_bin rfl rfl rfl
        | exact opv_str rfl rfl rfl
        | fail)
       | (apply opk ⟨_, .call { callee := .builtin .len, args := _, argTypes := _ }, _, _, _, _⟩; first
        | exact opv_len_str (T := TT) rfl rfl rfl
        | exact opv_len_sl (T := TT) rfl rfl rfl
        | exact opv_len_nil (T := TT) rfl rfl rfl
        | fail)
       | (apply opk ⟨_, .indexAddr _ _ _, _, _, _, _⟩; first
        | (refine opv_indexaddr_byte (T := TT) rfl rfl rfl rfl ?_ ?_; (next => (first | omega | (simp [NFL] <;> omega))); (next => (first | omega | (simp [NFL] <;> omega))))
        | (refine opv_indexaddr (T := TT) rfl rfl rfl rfl ?_ ?_; (next => (first | omega | (simp [NFL] <;> omega))); (next => (first | omega | (simp [NFL] <;> omega))))
        | fail)
       | (apply opk ⟨_, .fieldAddr _ _ _, _, _, _, _⟩; first
        | exact opv_field_el (T := TT) rfl rfl rfl rfl rfl rfl
        | exact opv_field_box (T := TT) rfl rfl rfl rfl rfl
        | fail)
       | (apply opk ⟨_, .load _ _, _, _, _, _⟩; first | exact opv_load_el (T := TT) rfl rfl rfl | exact opv_load_els (T := TT) rfl rfl rfl rfl | fail)
       | (apply opk ⟨_, .buildSlice _ _ _, _, _, _, _⟩; first | exact opv_build_slice (T := TT) rfl rfl rfl rfl rfl rfl rfl | fail)
       | (apply opk ⟨_, .pick _ _ _, _, _, _, _⟩; first
        | (refine opv_pickt rfl ?_ rfl; (next => (first | rfl | assumption)))
        | (refine opv_pickf rfl ?_ rfl; (next => (first | rfl | assumption)))
        | fail)
       | fail)))
      | (refine arO _ ?_; first
       | (refine arO ⟨_, .move _, _, _, _, _⟩ ?_; first | refine ar_move_sl rfl rfl rfl rfl ?_ | fail)
       | (refine arO ⟨_, .assign _, _, _, _, _⟩ ?_; first
        | refine ar_assign_sl rfl rfl rfl rfl ?_
        | refine ar_op rfl rfl rfl rfl (opv_const (cst_plain _) (.inr rfl)) ?_
        | fail)
       | (refine arO ⟨_, .load _ _, _, _, _, _⟩ ?_; first
        | refine ar_load_own (T := TT) rfl rfl rfl rfl look_hd rfl rfl rfl rfl ?_
        | (refine ar_load_own (T := TT) rfl rfl rfl rfl (look_tl ?_ look_hd) rfl rfl rfl rfl ?_; (next => (first | assumption | (intro e; exact absurd e.symm (by assumption)))))
        | (refine ar_load_own (T := TT) rfl rfl rfl rfl (look_tl ?_ (look_tl ?_ look_hd)) rfl rfl rfl rfl ?_; (next => (first | assumption | (intro e; exact absurd e.symm (by assumption)))); (next => (first | assumption | (intro e; exact absurd e.symm (by assumption)))))
        | fail)
       | (refine arO ⟨_, .call { callee := .builtin .append, args := _, argTypes := _ }, _, _, _, _⟩ ?_; first
        | (apply ar_effM rfl rfl; (next => (first
         | (apply effTo_append (T := TT) rfl rfl rfl rfl rfl rfl rfl rfl rfl rfl; (next => (first | exact trivial | exact rowsOne_byteA _ | assumption | (simp [RowsOne, AV.one, AV.rd, AV.cells, cst, Value.oneCell'] <;> omega))); (next => (first | omega | (simp [NFL] <;> omega))))
         | (apply effTo_append (T := TT) rfl (own_c look_hd rfl) rfl rfl rfl rfl rfl rfl rfl rfl; (next => (first | exact trivial | exact rowsOne_byteA _ | assumption | (simp [RowsOne, AV.one, AV.rd, AV.cells, cst, Value.oneCell'] <;> omega))); (next => (first | omega | (simp [NFL] <;> omega))))
         | (apply effTo_append (T := TT) rfl (own_c (look_tl (by first | assumption | (intro e; exact absurd e.symm (by assumption))) look_hd) rfl) rfl rfl rfl rfl rfl rfl rfl rfl; (next => (first | exact trivial | exact rowsOne_byteA _ | assumption | (simp [RowsOne, AV.one, AV.rd, AV.cells, cst, Value.oneCell'] <;> omega))); (next => (first | omega | (simp [NFL] <;> omega))))
         | (apply effTo_append_nil (T := TT) rfl rfl rfl rfl rfl rfl rfl rfl rfl; (next => (first | exact trivial | exact rowsOne_byteA _ | assumption | (simp [RowsOne, AV.one, AV.rd, AV.cells, cst, Value.oneCell'] <;> omega))); (next => (first | omega | (simp [NFL] <;> omega))))
         | fail)))
        | fail)
       | (refine arO ⟨_, .store _ _ _, _, _, _, _⟩ ?_; first
        | (apply ar_effM rfl rfl; (next => (first
         | (apply effTo_store_own (T := TT) rfl rfl rfl; (next => (first
          | rfl
          | exact look_hd
          | assumption
          | ((repeat (first | exact look_hd | assumption | (apply look_tl; (next => (first | assumption | (intro e; exact absurd e.symm (by assumption)) | fail))) | fail)); done)
          | fail)); (next => rfl); (next => rfl); (next => rfl))
         | (apply effTo_store (T := TT) rfl; (next => (first
          | rfl
          | exact look_hd
          | assumption
          | ((repeat (first | exact look_hd | assumption | (apply look_tl; (next => (first | assumption | (intro e; exact absurd e.symm (by assumption)) | fail))) | fail)); done)
          | fail)); (next => rfl); (next => rfl); (next => rfl); (next => rfl); (next => rfl); (next => rfl); (next => rfl); (next => rfl))
         | fail)))
        | fail)
       | (refine arO ⟨_, .alloc _, _, _, _, _⟩ ?_; first
        | (refine ar_eff rfl rfl (eff_alloc (T := TT) rfl rfl ?_); intro kb hkb; (repeat (have hkn := (freshK_ne hkb).1; replace hkb := (freshK_ne hkb).2)); (try have hkl := freshK_look hkb); clear hkb; refine ar_nf ?_)
        | fail)
       | fail)
      | refine ar_unwanted' rfl rfl rfl rfl ?_
      | refine ar_seq ?_
      | (refine arE ?_; refine ar_endM [0, 2, 3, 4, 5, 6, 8, 13, 17, 18, 19, 20, 25, 46] rfl ?_)
      | refine ar_region ?_
      | refine ar_block ?_
      | refine ar_skip ?_
      | refine ar_blk ?_
      | refine ar_dedup rfl ?_
      | (refine arC (.cond _ _ _) ?_; first
       | (refine ar_cond_true rfl ?_ ?_; (next => (first | rfl | (simp only [decide_eq_true_eq, beq_iff_eq, bne_iff_ne, ge_iff_le, gt_iff_lt, ne_eq, Bool.not_eq_true', decide_eq_false_iff_not]; omega))))
       | (refine ar_cond_false rfl ?_ ?_; (next => (first
        | rfl
        | (simp only [decide_eq_false_iff_not, beq_eq_false_iff_ne, bne_eq_false_iff_eq, ge_iff_le, gt_iff_lt, ne_eq, Bool.not_eq_false', decide_eq_true_eq]; omega))))
       | fail)
      | refine ar_exit ?_
      | refine stk_b_hit ?_
      | refine stk_b_miss rfl ?_
      | refine stk_c_exit ?_
      | refine stk_l_exit ?_
      | (refine arC .ret ?_; refine ar_retM [2, 3] ?_)
      | refine stk_c_ret ?_
      | refine stk_b_ret ?_
      | refine stk_l_ret ?_
      | refine stk_nil ?_
      | fail)
    refine ar_back ⟨2, ⟨rfl, ?_, ?_, rfl⟩, by omega, by omega⟩
    · (repeat' (first
      | exact trivial
      | exact LeL.refl _
      | exact .refl _
      | refine ⟨⟨_, rfl, ?_⟩, ?_⟩
      | refine ⟨⟨_, look_hd, ?_⟩, ?_⟩
      | refine ⟨⟨_, look_tl (by first | assumption | (intro e; exact absurd e.symm (by assumption))) look_hd, ?_⟩, ?_⟩
      | refine ⟨⟨_, look_tl (by first | assumption | (intro e; exact absurd e.symm (by assumption))) (look_tl (by first | assumption | (intro e; exact absurd e.symm (by assumption))) look_hd), ?_⟩, ?_⟩
      | refine ⟨⟨_, look_tl (by first | assumption | (intro e; exact absurd e.symm (by assumption))) (look_tl (by first | assumption | (intro e; exact absurd e.symm (by assumption))) (look_tl (by first | assumption | (intro e; exact absurd e.symm (by assumption))) look_hd)), ?_⟩, ?_⟩
      | refine ⟨⟨_, look_tl (by first | assumption | (intro e; exact absurd e.symm (by assumption))) (look_tl (by first | assumption | (intro e; exact absurd e.symm (by assumption))) (look_tl (by first | assumption | (intro e; exact absurd e.symm (by assumption))) (look_tl (by first | assumption | (intro e; exact absurd e.symm (by assumption))) look_hd))), ?_⟩, ?_⟩
      | exact .nil _ _
      | exact .rd _ _ _
      | refine LeL.cons ?_ ?_
      | exact LeL.nil
      | refine Le1.of_eq ?_))
    · (repeat' (first
      | exact trivial
      | exact LeL.refl _
      | exact .refl _
      | refine ⟨⟨_, rfl, ?_⟩, ?_⟩
      | refine ⟨⟨_, look_hd, ?_⟩, ?_⟩
      | refine ⟨⟨_, look_tl (by first | assumption | (intro e; exact absurd e.symm (by assumption))) look_hd, ?_⟩, ?_⟩
      | refine ⟨⟨_, look_tl (by first | assumption | (intro e; exact absurd e.symm (by assumption))) (look_tl (by first | assumption | (intro e; exact absurd e.symm (by assumption))) look_hd), ?_⟩, ?_⟩
      | refine ⟨⟨_, look_tl (by first | assumption | (intro e; exact absurd e.symm (by assumption))) (look_tl (by first | assumption | (intro e; exact absurd e.symm (by assumption))) (look_tl (by first | assumption | (intro e; exact absurd e.symm (by assumption))) look_hd)), ?_⟩, ?_⟩
      | refine ⟨⟨_, look_tl (by first | assumption | (intro e; exact absurd e.symm (by assumption))) (look_tl (by first | assumption | (intro e; exact absurd e.symm (by assumption))) (look_tl (by first | assumption | (intro e; exact absurd e.symm (by assumption))) (look_tl (by first | assumption | (intro e; exact absurd e.symm (by assumption))) look_hd))), ?_⟩, ?_⟩
      | exact .nil _ _
      | exact .rd _ _ _
      | refine LeL.cons ?_ ?_
      | exact LeL.nil
      | refine Le1.of_eq ?_))
  · simp only [sixth, nine]
    repeat (first
      | ((first | apply ar_un | apply stk_un); (next => (first | (simp only [go_sem, Nat.reduceBEq, Nat.reduceEqDiff, reduceIte, reduceCtorEq, String.reduceEq, Nat.reduceAdd, Int.reduceToNat]; exact rfl) | exact rfl)))
      | (refine arC .ret ?_; refine ar_retM0 [2, 3] ?_)
      | (refine ar_op' rfl rfl rfl rfl (opv_cat rfl rfl (Nat.le_of_ble_eq_true (by kernel_rfl))) ?_)
      | (apply ar_op' rfl rfl rfl rfl; (next => (first
       | (refine evalE_ok (T := TT) rfl ?_; (first | exact trivial | omega | (simp [NFL] <;> omega)))
       | (apply opk ⟨_, .move _, _, _, _, _⟩; first | exact opv_const (cst_plain _) (.inl rfl) | fail)
       | (apply opk ⟨_, .binOp .add _ _ _ _, _, _, _, _⟩; first | exact opv_bin rfl rfl rfl | fail)
       | (apply opk ⟨_, .binOp .eql _ _ _ _, _, _, _, _⟩; first
        | (refine opv_cmp_t rfl rfl rfl ?_; (next => (first | exact rfl | (simp only [cmpP]; omega) | (simp only [cmpP]; simp [NFL] <;> omega))))
        | (refine opv_cmp_f rfl rfl rfl ?_; (next => (first | exact rfl | (simp only [cmpP]; omega) | (simp only [cmpP]; simp [NFL] <;> omega))))
        | exact opv_bin rfl rfl rfl
        | (refine opv_seq_t rfl rfl rfl ?_; (next => (first | rfl | assumption)))
        | (refine opv_seq_f rfl rfl rfl ?_; (next => (first | rfl | assumption)))
        | exact opv_str rfl rfl rfl
        | fail)
       | (apply opk ⟨_, .binOp .neq _ _ _ _, _, _, _, _⟩; first
        | (refine opv_cmp_t rfl rfl rfl ?_; (next => (first | exact rfl | (simp only [cmpP]; omega) | (simp only [cmpP]; simp [NFL] <;> omega))))
        | (refine opv_cmp_f rfl rfl rfl ?_; (next => (first | exact rfl | (simp only [cmpP]; omega) | (simp only [cmpP]; simp [NFL] <;> omega))))
        | exact opv_bin rfl rfl rfl
        | (refine opv_sne_t rfl rfl rfl ?_; (next => (first | rfl | assumption)))
        | (refine opv_sne_f rfl rfl rfl ?_; (next => (first | rfl | assumption)))
        | exact opv_str rfl rfl rfl
        | fail)
       | (apply opk ⟨_, .binOp .lss _ _ _ _, _, _, _, _⟩; first
        | (refine opv_cmp_t rfl rfl rfl ?_; (next => (first | exact rfl | (simp only [cmpP]; omega) | (simp only [cmpP]; simp [NFL] <;> omega))))
        | (refine opv_cmp_f rfl rfl rfl ?_; (next => (first | exact rfl | (simp only [cmpP]; omega) | (simp only [cmpP]; simp [NFL] <;> omega))))
        | exact opv_bin rfl rfl rfl
        | exact opv_str rfl rfl rfl
        | fail)
       | (apply opk ⟨_, .call { callee := .builtin .len, args := _, argTypes := _ }, _, _, _, _⟩; first
        | exact opv_len_str (T := TT) rfl rfl rfl
        | exact opv_len_sl (T := TT) rfl rfl rfl
        | exact opv_len_nil (T := TT) rfl rfl rfl
        | fail)
       | (apply opk ⟨_, .indexAddr _ _ _, _, _, _, _⟩; first
        | (refine opv_indexaddr_byte (T := TT) rfl rfl rfl rfl ?_ ?_; (next => (first | omega | (simp [NFL] <;> omega))); (next => (first | omega | (simp [NFL] <;> omega))))
        | (refine opv_indexaddr (T := TT) rfl rfl rfl rfl ?_ ?_; (next => (first | omega | (simp [NFL] <;> omega))); (next => (first | omega | (simp [NFL] <;> omega))))
        | fail)
       | (apply opk ⟨_, .fieldAddr _ _ _, _, _, _, _⟩; first
        | exact opv_field_el (T := TT) rfl rfl rfl rfl rfl rfl
        | exact opv_field_box (T := TT) rfl rfl rfl rfl rfl
        | fail)
       | (apply opk ⟨_, .load _ _, _, _, _, _⟩; first | exact opv_load_el (T := TT) rfl rfl rfl | exact opv_load_els (T := TT) rfl rfl rfl rfl | fail)
       | (apply opk ⟨_, .buildSlice _ _ _, _, _, _, _⟩; first | exact opv_build_slice (T := TT) rfl rfl rfl rfl rfl rfl rfl | fail)
       | (apply opk ⟨_, .pick _ _ _, _, _, _, _⟩; first
        | (refine opv_pickt rfl ?_ rfl; (next => (first | rfl | assumption)))
        | (refine opv_pickf rfl ?_ rfl; (next => (first | rfl | assumption)))
        | fail)
       | fail)))
      | (refine arO _ ?_; first
       | (refine arO ⟨_, .move _, _, _, _, _⟩ ?_; first | refine ar_move_sl rfl rfl rfl rfl ?_ | fail)
       | (refine arO ⟨_, .assign _, _, _, _, _⟩ ?_; first
        | refine ar_assign_sl rfl rfl rfl rfl ?_
        | refine ar_op rfl rfl rfl rfl (opv_const (cst_plain _) (.inr rfl)) ?_
        | fail)
       | (refine arO ⟨_, .load _ _, _, _, _, _⟩ ?_; first
        | refine ar_load_own (T := TT) rfl rfl rfl rfl look_hd rfl rfl rfl rfl ?_
        | (refine ar_load_own (T := TT) rfl rfl rfl rfl (look_tl ?_ look_hd) rfl rfl rfl rfl ?_; (next => (first | assumption | (intro e; exact absurd e.symm (by assumption)))))
        | (refine ar_load_own (T := TT) rfl rfl rfl rfl (look_tl ?_ (look_tl ?_ look_hd)) rfl rfl rfl rfl ?_; (next => (first | assumption | (intro e; exact absurd e.symm (by assumption)))); (next => (first | assumption | (intro e; exact absurd e.symm (by assumption)))))
        | fail)
       | (refine arO ⟨_, .call { callee := .builtin .append, args := _, argTypes := _ }, _, _, _, _⟩ ?_; first
        | (apply ar_effM rfl rfl; (next => (first
         | (apply effTo_append (T := TT) rfl rfl rfl rfl rfl rfl rfl rfl rfl rfl; (next => (first | exact trivial | exact rowsOne_byteA _ | assumption | (simp [RowsOne, AV.one, AV.rd, AV.cells, cst, Value.oneCell'] <;> omega))); (next => (first | omega | (simp [NFL] <;> omega))))
         | (apply effTo_append (T := TT) rfl (own_c look_hd rfl) rfl rfl rfl rfl rfl rfl rfl rfl; (next => (first | exact trivial | exact rowsOne_byteA _ | assumption | (simp [RowsOne, AV.one, AV.rd, AV.cells, cst, Value.oneCell'] <;> omega))); (next => (first | omega | (simp [NFL] <;> omega))))
         | (apply effTo_append (T := TT) rfl (own_c (look_tl (by first | assumption | (intro e; exact absurd e.symm (by assumption))) look_hd) rfl) rfl rfl rfl rfl rfl rfl rfl rfl; (next => (first | exact trivial | exact rowsOne_byteA _ | assumption | (simp [RowsOne, AV.one, AV.rd, AV.cells, cst, Value.oneCell'] <;> omega))); (next => (first | omega | (simp [NFL] <;> omega))))
         | (apply effTo_append_nil (T := TT) rfl rfl rfl rfl rfl rfl rfl rfl rfl; (next => (first | exact trivial | exact rowsOne_byteA _ | assumption | (simp [RowsOne, AV.one, AV.rd, AV.cells, cst, Value.oneCell'] <;> omega))); (next => (first | omega | (simp [NFL] <;> omega))))
         | fail)))
        | fail)
       | (refine arO ⟨_, .store _ _ _, _, _, _, _⟩ ?_; first
        | (apply ar_effM rfl rfl; (next => (first
         | (apply effTo_store_own (T := TT) rfl rfl rfl; (next => (first
          | rfl
          | exact look_hd
          | assumption
          | ((repeat (first | exact look_hd | assumption | (apply look_tl; (next => (first | assumption | (intro e; exact absurd e.symm (by assumption)) | fail))) | fail)); done)
          | fail)); (next => rfl); (next => rfl); (next => rfl))
         | (apply effTo_store (T := TT) rfl; (next => (first
          | rfl
          | exact look_hd
          | assumption
          | ((repeat (first | exact look_hd | assumption | (apply look_tl; (next => (first | assumption | (intro e; exact absurd e.symm (by assumption)) | fail))) | fail)); done)
          | fail)); (next => rfl); (next => rfl); (next => rfl); (next => rfl); (next => rfl); (next => rfl); (next => rfl); (next => rfl))
         | fail)))
        | fail)
       | (refine arO ⟨_, .alloc _, _, _, _, _⟩ ?_; first
        | (refine ar_eff rfl rfl (eff_alloc (T := TT) rfl rfl ?_); intro kb hkb; (repeat (have hkn := (freshK_ne hkb).1; replace hkb := (freshK_ne hkb).2)); (try have hkl := freshK_look hkb); clear hkb; refine ar_nf ?_)
        | fail)
       | (refine arO ⟨_, .call { callee := .value _, args := _, argTypes := _ }, _, _, _, _⟩ ?_; first
        | (apply ar_callM0 rfl (hjo) rfl rfl; (next => (repeat (first
         | exact PArgs.nil
         | (apply PArgs.cons; (next => (first
          | exact PArg.own rfl rfl
          | exact PArg.rd rfl (Le1.refl _) rfl
          | exact PArg.rd rfl (Le1.rd _ _ _) rfl
          | exact PArg.nil rfl
          | exact PArg.rd rfl (Le1.nil _ _) rfl
          | (refine PArg.rd rfl (Le1.of_eq ?_) rfl; congr 2 <;> (first | omega | (simp; omega) | (simp [NFL]; done))))))))); (next => rfl); (next => rfl); rintro _ _ ⟨rfl, rfl⟩; refine ⟨_, rfl, ?_⟩)
        | fail)
       | fail)
      | refine ar_unwanted' rfl rfl rfl rfl ?_
      | refine ar_seq ?_
      | (refine arE ?_; refine ar_endM [0, 2, 3, 4, 5, 6, 8, 13, 17, 18, 19, 20, 25, 46] rfl ?_)
      | refine ar_region ?_
      | refine ar_block ?_
      | refine ar_skip ?_
      | refine ar_blk ?_
      | refine ar_dedup rfl ?_
      | (refine arC (.cond _ _ _) ?_; first
       | (refine ar_cond_true rfl ?_ ?_; (next => (first | rfl | (simp only [decide_eq_true_eq, beq_iff_eq, bne_iff_ne, ge_iff_le, gt_iff_lt, ne_eq, Bool.not_eq_true', decide_eq_false_iff_not]; omega))))
       | (refine ar_cond_false rfl ?_ ?_; (next => (first
        | rfl
        | (simp only [decide_eq_false_iff_not, beq_eq_false_iff_ne, bne_eq_false_iff_eq, ge_iff_le, gt_iff_lt, ne_eq, Bool.not_eq_false', decide_eq_true_eq]; omega))))
       | fail)
      | refine ar_exit ?_
      | refine stk_b_hit ?_
      | refine stk_b_miss rfl ?_
      | refine stk_c_exit ?_
      | refine stk_l_exit ?_
      | (refine arC .ret ?_; refine ar_retM [2, 3] ?_)
      | refine stk_c_ret ?_
      | refine stk_b_ret ?_
      | refine stk_l_ret ?_
      | refine stk_nil ?_
      | fail)
    first | exact qret_mk rfl (⟨rfl, rfl⟩) | (trace_state; exact qret_mk rfl (⟨rfl, rfl⟩))
end Go.Proofs.YtbpgpfigndlohaaGreat
