/- What wire reads a series from, walked over abstract values. -/
import Derived.Test.YtophpbihcfdkcaaRD
namespace Go.Proofs.Ytophpbihcfdkcaa
open Go.RowKit P
set_option linter.unusedSimpArgs false
set_option linter.unusedVariables false
attribute [local irreducible] AS.nf OpV ARun Stk QSem QSemA ACalls EffOp AppOk SrcOk Awp Aops PanK CallEnd SubS QretC PanOp
set_option maxHeartbeats 8000000

def lblRow (y : Lbl) : List AV := [.v (.string (mkB y.1)), .v (.string (mkB y.2))]
def smpRow (y : Smp) : List AV := [.v (.int .i64 y.1), .v (.int .u64 y.2)]
def srsRow (y : Srs) : List AV := [.sl false 2 (y.1.map lblRow), .sl false 2 (y.2.map smpRow)]
def srsV (x : Srs) : AV := .ag (srsRow x)
/-- Where a series is gathered. -/
def stS (kt : Nat) (x : Srs) : List (Nat × List AV) := [(kt, [.sl true 2 (x.1.map lblRow), .sl true 2 (x.2.map smpRow)])]
def PrS (m : Nat) (x : Srs) : Prop := x.1.length + m ≤ 20000 ∧ x.2.length + m ≤ 20000

theorem look_swap2 {a b : Nat} {ca cb : List AV} {R : List (Nat × List AV)} (h : a ≠ b) : ∀ k cs, look ((a, ca) :: (b, cb) :: R) k = some cs → look ((b, cb) :: (a, ca) :: R) k = some cs := fun k cs hk => by
  simp only [look_cons] at hk ⊢
  by_cases e1 : k = a
  · rw [if_pos e1] at hk; rw [if_neg (fun e2 => h (e1.symm.trans e2)), if_pos e1]; exact hk
  · rw [if_neg e1] at hk ⊢
    exact hk
theorem rows_lbl (y : Lbl) : RowsOne [lblRow y] := by simp [RowsOne, lblRow, AV.one, Value.oneCell']
theorem rows_smp (y : Smp) : RowsOne [smpRow y] := by simp [RowsOne, smpRow, AV.one, Value.oneCell']
theorem rows_srs (y : Srs) : RowsOne [srsRow y] := by simp [RowsOne, srsRow, AV.one, Value.oneCell']

set_option maxRecDepth 100000 in
theorem series1_ok (kt : Nat) (x : Srs) (v : Fld) (m : Nat) (hm : PrS (m + 1) x) (hl : v.bs.length ≤ m) (a' : Srs) (ha : seriesStep x v = some a') :
    ACalls Try.prog 59 [fldV v, .v (.pointer (some ⟨kt, 0, none⟩))] (stS kt x) (fun out H' => out = .ret (.tu []) ∧ H' = stS kt a') := by
  obtain ⟨hm1, hm2⟩ := hm
  unfold fldV fldA stS
  refine acalls_enterC TT 25 [] Try.func59 (by kernel_rfl) rfl rfl rfl rfl ?_
  dsimp only [slotsOf]
  unfold seriesStep at ha
  by_cases h1 : v.num = 1 ∧ v.kind = 2
  · rw [if_pos h1] at ha
    obtain ⟨y, hy, rfl⟩ := Option.map_eq_some_iff.1 ha
    have hc : ACalls Try.prog 60 [.v (.string (mkB v.bs))] [] (fun out H => out = .ret (lblV y) ∧ H = []) := by
      have h := label_a v.bs (by omega)
      rw [hy] at h
      exact h
    have hro := rows_lbl y
    repeat (first
      | ((first | apply ar_un | apply stk_un); (next => (first | (simp only [go_sem, Nat.reduceBEq, Nat.reduceEqDiff, reduceIte, reduceCtorEq, String.reduceEq, Nat.reduceAdd, Int.reduceToNat]; exact rfl) | exact rfl)))
      | (apply ar_op' rfl rfl rfl rfl; (next => (first
       | (refine evalE_ok (T := TT) rfl ?_; (first | exact trivial | omega | (simp [NFL] <;> omega)))
       | (apply opk ⟨_, .fieldAddr _ _ _, _, _, _, _⟩; first
        | exact opv_field_el (T := TT) rfl rfl rfl rfl rfl rfl
        | exact opv_field_box (T := TT) rfl rfl rfl rfl rfl
        | fail)
       | (apply opk ⟨_, .load _ _, _, _, _, _⟩; first | exact opv_load_el (T := TT) rfl rfl rfl | exact opv_load_els (T := TT) rfl rfl rfl rfl | fail)
       | (apply opk ⟨_, .buildSlice _ _ _, _, _, _, _⟩; first | exact opv_build_slice (T := TT) rfl rfl rfl rfl rfl rfl rfl | fail)
       | fail)))
      | (refine arO _ ?_; first
       | (refine arO ⟨_, .move _, _, _, _, _⟩ ?_; first | refine ar_move_sl rfl rfl rfl rfl ?_ | fail)
       | (refine arO ⟨_, .assign _, _, _, _, _⟩ ?_; first
        | refine ar_assign_sl rfl rfl rfl rfl ?_
        | refine ar_op rfl rfl rfl rfl (opv_const (cst_plain _) (.inr rfl)) ?_
        | fail)
       | (refine arO ⟨_, .load _ _, _, _, _, _⟩ ?_; first
        | refine ar_load_own (T := TT) rfl rfl rfl rfl look_hd rfl rfl rfl rfl ?_
        | (refine ar_load_own (T := TT) rfl rfl rfl rfl (look_tl ?_ look_hd) rfl rfl rfl rfl ?_; (next => (first | assumption | (intro e; exact absurd e.symm (by assumption)))))
        | (refine ar_load_own (T := TT) rfl rfl rfl rfl (look_tl ?_ (look_tl ?_ look_hd)) rfl rfl rfl rfl ?_; (next => (first | assumption | (intro e; exact absurd e.symm (by assumption)))); (next => (first | assumption | (intro e; exact absurd e.symm (by assumption)))))
        | fail)
       | (refine arO ⟨_, .call { callee := .builtin .append, args := _, argTypes := _ }, _, _, _, _⟩ ?_; first
        | (apply ar_effM rfl rfl; (next => (first
         | (apply effTo_append (T := TT) rfl rfl rfl rfl rfl rfl rfl rfl rfl rfl; (next => (first | exact trivial | exact rowsOne_byteA _ | assumption | (simp [RowsOne, AV.one, AV.rd, AV.cells, cst, Value.oneCell'] <;> omega))); (next => (first | omega | (simp [NFL] <;> omega))))
         | (apply effTo_append (T := TT) rfl (own_c look_hd rfl) rfl rfl rfl rfl rfl rfl rfl rfl; (next => (first | exact trivial | exact rowsOne_byteA _ | assumption | (simp [RowsOne, AV.one, AV.rd, AV.cells, cst, Value.oneCell'] <;> omega))); (next => (first | omega | (simp [NFL] <;> omega))))
         | (apply effTo_append (T := TT) rfl (own_c (look_tl (by first | assumption | (intro e; exact absurd e.symm (by assumption))) look_hd) rfl) rfl rfl rfl rfl rfl rfl rfl rfl; (next => (first | exact trivial | exact rowsOne_byteA _ | assumption | (simp [RowsOne, AV.one, AV.rd, AV.cells, cst, Value.oneCell'] <;> omega))); (next => (first | omega | (simp [NFL] <;> omega))))
         | (apply effTo_append_nil (T := TT) rfl rfl rfl rfl rfl rfl rfl rfl rfl; (next => (first | exact trivial | exact rowsOne_byteA _ | assumption | (simp [RowsOne, AV.one, AV.rd, AV.cells, cst, Value.oneCell'] <;> omega))); (next => (first | omega | (simp [NFL] <;> omega))))
         | fail)))
        | fail)
       | (refine arO ⟨_, .store _ _ _, _, _, _, _⟩ ?_; first
        | (apply ar_effM rfl rfl; (next => (first
         | (apply effTo_store_own (T := TT) rfl rfl rfl; (next => (first
          | rfl
          | exact look_hd
          | assumption
          | ((repeat (first | exact look_hd | assumption | (apply look_tl; (next => (first | assumption | (intro e; exact absurd e.symm (by assumption)) | fail))) | fail)); done)
          | fail)); (next => rfl); (next => rfl); (next => rfl))
         | (apply effTo_store (T := TT) rfl; (next => (first
          | rfl
          | exact look_hd
          | assumption
          | ((repeat (first | exact look_hd | assumption | (apply look_tl; (next => (first | assumption | (intro e; exact absurd e.symm (by assumption)) | fail))) | fail)); done)
          | fail)); (next => rfl); (next => rfl); (next => rfl); (next => rfl); (next => rfl); (next => rfl); (next => rfl); (next => rfl))
         | fail)))
        | fail)
       | (refine arO ⟨_, .box _ _, _, _, _, _⟩ ?_; first
        | (refine ar_eff rfl rfl (eff_boxB rfl rfl rfl rfl ?_); intro kb hkb; (repeat (have hkn := (freshK_ne hkb).1; replace hkb := (freshK_ne hkb).2)); (try have hkl := freshK_look hkb); clear hkb; refine ar_nf ?_)
        | fail)
       | (refine arO ⟨_, .load _ _, _, _, _, _⟩ ?_; first
        | (refine ar_op' rfl rfl rfl rfl (opv_load_boxr (T := TT) rfl look_hd rfl rfl rfl rfl) ?_)
        | (refine ar_op' rfl rfl rfl rfl (opv_load_boxr (T := TT) rfl (look_tl ?_ look_hd) rfl rfl rfl rfl) ?_; (next => (first | assumption | (intro e; exact absurd e.symm (by assumption)))))
        | (refine ar_op' rfl rfl rfl rfl (opv_load_boxr (T := TT) rfl (look_tl ?_ (look_tl ?_ look_hd)) rfl rfl rfl rfl) ?_; (next => (first | assumption | (intro e; exact absurd e.symm (by assumption)))); (next => (first | assumption | (intro e; exact absurd e.symm (by assumption)))))
        | fail)
       | (refine arO ⟨_, .call { callee := .value _, args := _, argTypes := _ }, _, _, _, _⟩ ?_; first
        | (apply ar_callM0 rfl (is_a v.num v.kind v.n 1 2 v.bs) rfl rfl; (next => (repeat (first
         | exact PArgs.nil
         | (apply PArgs.cons; (next => (first
          | exact PArg.own rfl rfl
          | exact PArg.rd rfl (Le1.refl _) rfl
          | exact PArg.rd rfl (Le1.rd _ _ _) rfl
          | exact PArg.nil rfl
          | exact PArg.rd rfl (Le1.nil _ _) rfl
          | (refine PArg.rd rfl (Le1.of_eq ?_) rfl; congr 2 <;> (first | omega | (simp; omega) | (simp [NFL]; done))))))))); (next => rfl); (next => rfl); rintro _ _ ⟨rfl, rfl⟩; refine ⟨_, rfl, ?_⟩)
        | fail)
       | fail)
      | refine ar_seq ?_
      | (refine arE ?_; refine ar_endM [0, 1, 2, 3, 14] rfl ?_)
      | refine ar_region ?_
      | refine ar_block ?_
      | refine ar_skip ?_
      | refine ar_blk ?_
      | refine ar_dedup rfl ?_
      | (refine arC (.cond _ _ _) ?_; first
       | (refine ar_cond_true rfl ?_ ?_; (next => (first | rfl | (simp only [decide_eq_true_eq, beq_iff_eq, bne_iff_ne, ge_iff_le, gt_iff_lt, ne_eq, Bool.not_eq_true', decide_eq_false_iff_not]; omega))))
       | (refine ar_cond_false rfl ?_ ?_; (next => (first
        | rfl
        | (simp only [decide_eq_false_iff_not, beq_eq_false_iff_ne, bne_eq_false_iff_eq, ge_iff_le, gt_iff_lt, ne_eq, Bool.not_eq_false', decide_eq_true_eq]; omega))))
       | fail)
      | refine ar_exit ?_
      | refine stk_b_hit ?_
      | refine stk_b_miss rfl ?_
      | refine stk_c_exit ?_
      | refine stk_l_exit ?_
      | (refine arC .ret ?_; refine ar_retM [] ?_)
      | refine stk_c_ret ?_
      | refine stk_b_ret ?_
      | refine stk_l_ret ?_
      | refine stk_nil ?_
      | fail)
    refine ar_boxes _ rfl (look_swap2 hkn) ?_
    refine ar_nop (ar_drawA (⟨6, 1, 7, 12, kt, 0, 2, x.1.map lblRow, [lblRow y]⟩) mixed (body := List.dropLast _) (ow := List.getLast _ (by simp)) (List.dropLast_concat_getLast _).symm (by kernel_rfl) rfl (by first | rfl | exact own_c look_hd rfl | exact own_c (look_tl (by first | assumption | (intro e; exact absurd e.symm (by assumption))) look_hd) rfl | (simp [AS.own, AppIn.r, look_cons, own1, AS.put, AS.lay] <;> omega)) ?_)
    repeat (first
      | (apply qa_op rfl rfl rfl rfl rfl; (next => (apply opv_call hc; (next => rfl); (next => ((repeat' (first | exact LeL.refl _ | exact .refl _ | exact .nil _ _ | exact .rd _ _ _ | refine LeL.cons ?_ ?_ | exact LeL.nil | refine Le1.of_eq ?_ | rfl)))); (next => rfl))))
      | (apply qa_op rfl rfl rfl rfl rfl; (next => (first
       | (refine evalE_ok (T := TT) rfl ?_; (first | exact trivial | omega | (simp [NFL] <;> omega)))
       | (apply opk ⟨_, .assign _, _, _, _, _⟩; first | exact opv_move_rd rfl (.inr rfl) | exact opv_assign_const rfl | fail)
       | (apply opk ⟨_, .fieldAddr _ _ _, _, _, _, _⟩; first
        | exact opv_field_el (T := TT) rfl rfl rfl rfl rfl rfl
        | exact opv_field_box (T := TT) rfl rfl rfl rfl rfl
        | fail)
       | (apply opk ⟨_, .load _ _, _, _, _, _⟩; first
        | exact opv_load_el (T := TT) rfl rfl rfl
        | exact opv_load_els (T := TT) rfl rfl rfl rfl
        | (apply opv_load_box (T := TT) rfl; (next => (first
         | rfl
         | exact look_hd
         | assumption
         | ((repeat (first | exact look_hd | assumption | (apply look_tl; (next => (first | assumption | (intro e; exact absurd e.symm (by assumption)) | fail))) | fail)); done)
         | fail)); (next => rfl); (next => rfl); (next => rfl); (next => rfl))
        | fail)
       | (apply opk ⟨_, .buildSlice _ _ _, _, _, _, _⟩; first | exact opv_build_slice (T := TT) rfl rfl rfl rfl rfl rfl rfl | fail)
       | fail)))
      | refine qa_src rfl rfl rfl rfl (opv_load_box (T := TT) rfl look_hd rfl rfl rfl rfl) (src_load (T := TT) rfl rfl look_hd rfl rfl rfl rfl) ?_
      | (refine qa_src rfl rfl rfl rfl (opv_load_box (T := TT) rfl (look_tl ?_ look_hd) rfl rfl rfl rfl) (src_load (T := TT) rfl rfl (look_tl ?_ look_hd) rfl rfl rfl rfl) ?_; (next => (first | assumption | (intro e; exact absurd e.symm (by assumption)))); (next => (first | assumption | (intro e; exact absurd e.symm (by assumption)))))
      | (refine qa_src rfl rfl rfl rfl (opv_load_box (T := TT) rfl (look_tl ?_ (look_tl ?_ look_hd)) rfl rfl rfl rfl) (src_load (T := TT) rfl rfl (look_tl ?_ (look_tl ?_ look_hd)) rfl rfl rfl rfl) ?_; (next => (first | assumption | (intro e; exact absurd e.symm (by assumption)))); (next => (first | assumption | (intro e; exact absurd e.symm (by assumption)))); (next => (first | assumption | (intro e; exact absurd e.symm (by assumption)))); (next => (first | assumption | (intro e; exact absurd e.symm (by assumption)))))
      | (refine qa_app rfl rfl rfl (app_ok (T := TT) rfl rfl rfl ?_ rfl rfl (adds_rel ?_) rfl ?_) ?_; (next => (first | exact .inl rfl | exact .inr ⟨_, rfl⟩)); (next => (first | exact rowsOne_byteA _ | assumption | (simp [RowsOne, AV.one, AV.rd, AV.cells, cst, Value.oneCell'] <;> omega))); (next => (first | omega | (simp [NFL] <;> omega))))
      | fail)
    refine qa_nil ⟨rfl, ?_⟩
    simp only [List.getLast_cons_cons, List.getLast_singleton]
    refine eff_nf ?_
    (apply eff_un; (next => ((first | (simp only [go_sem, Nat.reduceBEq, Nat.reduceEqDiff, reduceIte, reduceCtorEq, String.reduceEq, Nat.reduceAdd, Int.reduceToNat]; exact rfl) | exact rfl))))
    (apply effM; (next => (first
      | (apply effTo_store_own (T := TT) rfl rfl rfl; (next => (first
       | rfl
       | exact look_hd
       | assumption
       | ((repeat (first | exact look_hd | assumption | (apply look_tl; (next => (first | assumption | (intro e; exact absurd e.symm (by assumption)) | fail))) | fail)); done)
       | fail)); (next => rfl); (next => rfl); (next => rfl))
      | (apply effTo_store (T := TT) rfl; (next => (first
       | rfl
       | exact look_hd
       | assumption
       | ((repeat (first | exact look_hd | assumption | (apply look_tl; (next => (first | assumption | (intro e; exact absurd e.symm (by assumption)) | fail))) | fail)); done)
       | fail)); (next => rfl); (next => rfl); (next => rfl); (next => rfl); (next => rfl); (next => rfl); (next => rfl); (next => rfl))
      | fail)))
    refine ar_endM [0, 1, 2, 3, 14] rfl ?_
    repeat (first
      | ((first | apply ar_un | apply stk_un); (next => (first | (simp only [go_sem, Nat.reduceBEq, Nat.reduceEqDiff, reduceIte, reduceCtorEq, String.reduceEq, Nat.reduceAdd, Int.reduceToNat]; exact rfl) | exact rfl)))
      | (apply ar_op' rfl rfl rfl rfl; (next => (first
       | (refine evalE_ok (T := TT) rfl ?_; (first | exact trivial | omega | (simp [NFL] <;> omega)))
       | (apply opk ⟨_, .fieldAddr _ _ _, _, _, _, _⟩; first
        | exact opv_field_el (T := TT) rfl rfl rfl rfl rfl rfl
        | exact opv_field_box (T := TT) rfl rfl rfl rfl rfl
        | fail)
       | (apply opk ⟨_, .load _ _, _, _, _, _⟩; first | exact opv_load_el (T := TT) rfl rfl rfl | exact opv_load_els (T := TT) rfl rfl rfl rfl | fail)
       | (apply opk ⟨_, .buildSlice _ _ _, _, _, _, _⟩; first | exact opv_build_slice (T := TT) rfl rfl rfl rfl rfl rfl rfl | fail)
       | fail)))
      | (refine arO _ ?_; first
       | (refine arO ⟨_, .move _, _, _, _, _⟩ ?_; first | refine ar_move_sl rfl rfl rfl rfl ?_ | fail)
       | (refine arO ⟨_, .assign _, _, _, _, _⟩ ?_; first
        | refine ar_assign_sl rfl rfl rfl rfl ?_
        | refine ar_op rfl rfl rfl rfl (opv_const (cst_plain _) (.inr rfl)) ?_
        | fail)
       | (refine arO ⟨_, .load _ _, _, _, _, _⟩ ?_; first
        | refine ar_load_own (T := TT) rfl rfl rfl rfl look_hd rfl rfl rfl rfl ?_
        | (refine ar_load_own (T := TT) rfl rfl rfl rfl (look_tl ?_ look_hd) rfl rfl rfl rfl ?_; (next => (first | assumption | (intro e; exact absurd e.symm (by assumption)))))
        | (refine ar_load_own (T := TT) rfl rfl rfl rfl (look_tl ?_ (look_tl ?_ look_hd)) rfl rfl rfl rfl ?_; (next => (first | assumption | (intro e; exact absurd e.symm (by assumption)))); (next => (first | assumption | (intro e; exact absurd e.symm (by assumption)))))
        | fail)
       | (refine arO ⟨_, .call { callee := .builtin .append, args := _, argTypes := _ }, _, _, _, _⟩ ?_; first
        | (apply ar_effM rfl rfl; (next => (first
         | (apply effTo_append (T := TT) rfl rfl rfl rfl rfl rfl rfl rfl rfl rfl; (next => (first | exact trivial | exact rowsOne_byteA _ | assumption | (simp [RowsOne, AV.one, AV.rd, AV.cells, cst, Value.oneCell'] <;> omega))); (next => (first | omega | (simp [NFL] <;> omega))))
         | (apply effTo_append (T := TT) rfl (own_c look_hd rfl) rfl rfl rfl rfl rfl rfl rfl rfl; (next => (first | exact trivial | exact rowsOne_byteA _ | assumption | (simp [RowsOne, AV.one, AV.rd, AV.cells, cst, Value.oneCell'] <;> omega))); (next => (first | omega | (simp [NFL] <;> omega))))
         | (apply effTo_append (T := TT) rfl (own_c (look_tl (by first | assumption | (intro e; exact absurd e.symm (by assumption))) look_hd) rfl) rfl rfl rfl rfl rfl rfl rfl rfl; (next => (first | exact trivial | exact rowsOne_byteA _ | assumption | (simp [RowsOne, AV.one, AV.rd, AV.cells, cst, Value.oneCell'] <;> omega))); (next => (first | omega | (simp [NFL] <;> omega))))
         | (apply effTo_append_nil (T := TT) rfl rfl rfl rfl rfl rfl rfl rfl rfl; (next => (first | exact trivial | exact rowsOne_byteA _ | assumption | (simp [RowsOne, AV.one, AV.rd, AV.cells, cst, Value.oneCell'] <;> omega))); (next => (first | omega | (simp [NFL] <;> omega))))
         | fail)))
        | fail)
       | (refine arO ⟨_, .store _ _ _, _, _, _, _⟩ ?_; first
        | (apply ar_effM rfl rfl; (next => (first
         | (apply effTo_store_own (T := TT) rfl rfl rfl; (next => (first
          | rfl
          | exact look_hd
          | assumption
          | ((repeat (first | exact look_hd | assumption | (apply look_tl; (next => (first | assumption | (intro e; exact absurd e.symm (by assumption)) | fail))) | fail)); done)
          | fail)); (next => rfl); (next => rfl); (next => rfl))
         | (apply effTo_store (T := TT) rfl; (next => (first
          | rfl
          | exact look_hd
          | assumption
          | ((repeat (first | exact look_hd | assumption | (apply look_tl; (next => (first | assumption | (intro e; exact absurd e.symm (by assumption)) | fail))) | fail)); done)
          | fail)); (next => rfl); (next => rfl); (next => rfl); (next => rfl); (next => rfl); (next => rfl); (next => rfl); (next => rfl))
         | fail)))
        | fail)
       | (refine arO ⟨_, .box _ _, _, _, _, _⟩ ?_; first
        | (refine ar_eff rfl rfl (eff_boxB rfl rfl rfl rfl ?_); intro kb hkb; (repeat (have hkn := (freshK_ne hkb).1; replace hkb := (freshK_ne hkb).2)); (try have hkl := freshK_look hkb); clear hkb; refine ar_nf ?_)
        | fail)
       | fail)
      | refine ar_seq ?_
      | (refine arE ?_; refine ar_endM [0, 1, 2, 3, 14] rfl ?_)
      | refine ar_region ?_
      | refine ar_block ?_
      | refine ar_skip ?_
      | refine ar_blk ?_
      | refine ar_dedup rfl ?_
      | (refine arC (.cond _ _ _) ?_; first
       | (refine ar_cond_true rfl ?_ ?_; (next => (first | rfl | (simp only [decide_eq_true_eq, beq_iff_eq, bne_iff_ne, ge_iff_le, gt_iff_lt, ne_eq, Bool.not_eq_true', decide_eq_false_iff_not]; omega))))
       | (refine ar_cond_false rfl ?_ ?_; (next => (first
        | rfl
        | (simp only [decide_eq_false_iff_not, beq_eq_false_iff_ne, bne_eq_false_iff_eq, ge_iff_le, gt_iff_lt, ne_eq, Bool.not_eq_false', decide_eq_true_eq]; omega))))
       | fail)
      | refine ar_exit ?_
      | refine stk_b_hit ?_
      | refine stk_b_miss rfl ?_
      | refine stk_c_exit ?_
      | refine stk_l_exit ?_
      | (refine arC .ret ?_; refine ar_retM [] ?_)
      | refine stk_c_ret ?_
      | refine stk_b_ret ?_
      | refine stk_l_ret ?_
      | refine stk_nil ?_
      | fail)
    refine ar_nil (qretC_mkN _ rfl (look_lone look_hd) ⟨rfl, ?_⟩)
    simp only [List.map_append, List.map_cons, List.map_nil]
  · rw [if_neg h1] at ha
    by_cases h2 : v.num = 2 ∧ v.kind = 2
    · rw [if_pos h2] at ha
      obtain ⟨y, hy, rfl⟩ := Option.map_eq_some_iff.1 ha
      have hc : ACalls Try.prog 61 [.v (.string (mkB v.bs))] [] (fun out H => out = .ret (smpV y) ∧ H = []) := by
        have h := sampleOf_a v.bs (by omega)
        rw [hy] at h
        exact h
      have hro := rows_smp y
      repeat (first
        | ((first | apply ar_un | apply stk_un); (next => (first | (simp only [go_sem, Nat.reduceBEq, Nat.reduceEqDiff, reduceIte, reduceCtorEq, String.reduceEq, Nat.reduceAdd, Int.reduceToNat]; exact rfl) | exact rfl)))
        | (apply ar_op' rfl rfl rfl rfl; (next => (first
         | (refine evalE_ok (T := TT) rfl ?_; (first | exact trivial | omega | (simp [NFL] <;> omega)))
         | (apply opk ⟨_, .fieldAddr _ _ _, _, _, _, _⟩; first
          | exact opv_field_el (T := TT) rfl rfl rfl rfl rfl rfl
          | exact opv_field_box (T := TT) rfl rfl rfl rfl rfl
          | fail)
         | (apply opk ⟨_, .load _ _, _, _, _, _⟩; first | exact opv_load_el (T := TT) rfl rfl rfl | exact opv_load_els (T := TT) rfl rfl rfl rfl | fail)
         | (apply opk ⟨_, .buildSlice _ _ _, _, _, _, _⟩; first | exact opv_build_slice (T := TT) rfl rfl rfl rfl rfl rfl rfl | fail)
         | fail)))
        | (refine arO _ ?_; first
         | (refine arO ⟨_, .move _, _, _, _, _⟩ ?_; first | refine ar_move_sl rfl rfl rfl rfl ?_ | fail)
         | (refine arO ⟨_, .assign _, _, _, _, _⟩ ?_; first
          | refine ar_assign_sl rfl rfl rfl rfl ?_
          | refine ar_op rfl rfl rfl rfl (opv_const (cst_plain _) (.inr rfl)) ?_
          | fail)
         | (refine arO ⟨_, .load _ _, _, _, _, _⟩ ?_; first
          | refine ar_load_own (T := TT) rfl rfl rfl rfl look_hd rfl rfl rfl rfl ?_
          | (refine ar_load_own (T := TT) rfl rfl rfl rfl (look_tl ?_ look_hd) rfl rfl rfl rfl ?_; (next => (first | assumption | (intro e; exact absurd e.symm (by assumption)))))
          | (refine ar_load_own (T := TT) rfl rfl rfl rfl (look_tl ?_ (look_tl ?_ look_hd)) rfl rfl rfl rfl ?_; (next => (first | assumption | (intro e; exact absurd e.symm (by assumption)))); (next => (first | assumption | (intro e; exact absurd e.symm (by assumption)))))
          | fail)
         | (refine arO ⟨_, .call { callee := .builtin .append, args := _, argTypes := _ }, _, _, _, _⟩ ?_; first
          | (apply ar_effM rfl rfl; (next => (first
           | (apply effTo_append (T := TT) rfl rfl rfl rfl rfl rfl rfl rfl rfl rfl; (next => (first | exact trivial | exact rowsOne_byteA _ | assumption | (simp [RowsOne, AV.one, AV.rd, AV.cells, cst, Value.oneCell'] <;> omega))); (next => (first | omega | (simp [NFL] <;> omega))))
           | (apply effTo_append (T := TT) rfl (own_c look_hd rfl) rfl rfl rfl rfl rfl rfl rfl rfl; (next => (first | exact trivial | exact rowsOne_byteA _ | assumption | (simp [RowsOne, AV.one, AV.rd, AV.cells, cst, Value.oneCell'] <;> omega))); (next => (first | omega | (simp [NFL] <;> omega))))
           | (apply effTo_append (T := TT) rfl (own_c (look_tl (by first | assumption | (intro e; exact absurd e.symm (by assumption))) look_hd) rfl) rfl rfl rfl rfl rfl rfl rfl rfl; (next => (first | exact trivial | exact rowsOne_byteA _ | assumption | (simp [RowsOne, AV.one, AV.rd, AV.cells, cst, Value.oneCell'] <;> omega))); (next => (first | omega | (simp [NFL] <;> omega))))
           | (apply effTo_append_nil (T := TT) rfl rfl rfl rfl rfl rfl rfl rfl rfl; (next => (first | exact trivial | exact rowsOne_byteA _ | assumption | (simp [RowsOne, AV.one, AV.rd, AV.cells, cst, Value.oneCell'] <;> omega))); (next => (first | omega | (simp [NFL] <;> omega))))
           | fail)))
          | fail)
         | (refine arO ⟨_, .store _ _ _, _, _, _, _⟩ ?_; first
          | (apply ar_effM rfl rfl; (next => (first
           | (apply effTo_store_own (T := TT) rfl rfl rfl; (next => (first
            | rfl
            | exact look_hd
            | assumption
            | ((repeat (first | exact look_hd | assumption | (apply look_tl; (next => (first | assumption | (intro e; exact absurd e.symm (by assumption)) | fail))) | fail)); done)
            | fail)); (next => rfl); (next => rfl); (next => rfl))
           | (apply effTo_store (T := TT) rfl; (next => (first
            | rfl
            | exact look_hd
            | assumption
            | ((repeat (first | exact look_hd | assumption | (apply look_tl; (next => (first | assumption | (intro e; exact absurd e.symm (by assumption)) | fail))) | fail)); done)
            | fail)); (next => rfl); (next => rfl); (next => rfl); (next => rfl); (next => rfl); (next => rfl); (next => rfl); (next => rfl))
           | fail)))
          | fail)
         | (refine arO ⟨_, .box _ _, _, _, _, _⟩ ?_; first
          | (refine ar_eff rfl rfl (eff_boxB rfl rfl rfl rfl ?_); intro kb hkb; (repeat (have hkn := (freshK_ne hkb).1; replace hkb := (freshK_ne hkb).2)); (try have hkl := freshK_look hkb); clear hkb; refine ar_nf ?_)
          | fail)
         | (refine arO ⟨_, .load _ _, _, _, _, _⟩ ?_; first
          | (refine ar_op' rfl rfl rfl rfl (opv_load_boxr (T := TT) rfl look_hd rfl rfl rfl rfl) ?_)
          | (refine ar_op' rfl rfl rfl rfl (opv_load_boxr (T := TT) rfl (look_tl ?_ look_hd) rfl rfl rfl rfl) ?_; (next => (first | assumption | (intro e; exact absurd e.symm (by assumption)))))
          | (refine ar_op' rfl rfl rfl rfl (opv_load_boxr (T := TT) rfl (look_tl ?_ (look_tl ?_ look_hd)) rfl rfl rfl rfl) ?_; (next => (first | assumption | (intro e; exact absurd e.symm (by assumption)))); (next => (first | assumption | (intro e; exact absurd e.symm (by assumption)))))
          | fail)
         | (refine arO ⟨_, .call { callee := .value _, args := _, argTypes := _ }, _, _, _, _⟩ ?_; first
          | (apply ar_callM0 rfl (is_a v.num v.kind v.n 1 2 v.bs) rfl rfl; (next => (repeat (first
           | exact PArgs.nil
           | (apply PArgs.cons; (next => (first
            | exact PArg.own rfl rfl
            | exact PArg.rd rfl (Le1.refl _) rfl
            | exact PArg.rd rfl (Le1.rd _ _ _) rfl
            | exact PArg.nil rfl
            | exact PArg.rd rfl (Le1.nil _ _) rfl
            | (refine PArg.rd rfl (Le1.of_eq ?_) rfl; congr 2 <;> (first | omega | (simp; omega) | (simp [NFL]; done))))))))); (next => rfl); (next => rfl); rintro _ _ ⟨rfl, rfl⟩; refine ⟨_, rfl, ?_⟩)
          | (apply ar_callM0 rfl (is_a v.num v.kind v.n 2 2 v.bs) rfl rfl; (next => (repeat (first
           | exact PArgs.nil
           | (apply PArgs.cons; (next => (first
            | exact PArg.own rfl rfl
            | exact PArg.rd rfl (Le1.refl _) rfl
            | exact PArg.rd rfl (Le1.rd _ _ _) rfl
            | exact PArg.nil rfl
            | exact PArg.rd rfl (Le1.nil _ _) rfl
            | (refine PArg.rd rfl (Le1.of_eq ?_) rfl; congr 2 <;> (first | omega | (simp; omega) | (simp [NFL]; done))))))))); (next => rfl); (next => rfl); rintro _ _ ⟨rfl, rfl⟩; refine ⟨_, rfl, ?_⟩)
          | fail)
         | fail)
        | refine ar_seq ?_
        | (refine arE ?_; refine ar_endM [0, 1, 2, 3, 14] rfl ?_)
        | refine ar_region ?_
        | refine ar_block ?_
        | refine ar_skip ?_
        | refine ar_blk ?_
        | refine ar_dedup rfl ?_
        | (refine arC (.cond _ _ _) ?_; first
         | (refine ar_cond_true rfl ?_ ?_; (next => (first | rfl | (simp only [decide_eq_true_eq, beq_iff_eq, bne_iff_ne, ge_iff_le, gt_iff_lt, ne_eq, Bool.not_eq_true', decide_eq_false_iff_not]; omega))))
         | (refine ar_cond_false rfl ?_ ?_; (next => (first
          | rfl
          | (simp only [decide_eq_false_iff_not, beq_eq_false_iff_ne, bne_eq_false_iff_eq, ge_iff_le, gt_iff_lt, ne_eq, Bool.not_eq_false', decide_eq_true_eq]; omega))))
         | fail)
        | refine ar_exit ?_
        | refine stk_b_hit ?_
        | refine stk_b_miss rfl ?_
        | refine stk_c_exit ?_
        | refine stk_l_exit ?_
        | (refine arC .ret ?_; refine ar_retM [] ?_)
        | refine stk_c_ret ?_
        | refine stk_b_ret ?_
        | refine stk_l_ret ?_
        | refine stk_nil ?_
        | fail)
      refine ar_boxes _ rfl (look_swap2 hkn) ?_
      refine ar_nop (ar_drawA (⟨6, 1, 18, 23, kt, 1, 2, x.2.map smpRow, [smpRow y]⟩) mixed (body := List.dropLast _) (ow := List.getLast _ (by simp)) (List.dropLast_concat_getLast _).symm (by kernel_rfl) rfl (by first | rfl | exact own_c look_hd rfl | exact own_c (look_tl (by first | assumption | (intro e; exact absurd e.symm (by assumption))) look_hd) rfl | (simp [AS.own, AppIn.r, look_cons, own1, AS.put, AS.lay] <;> omega)) ?_)
      repeat (first
        | (apply qa_op rfl rfl rfl rfl rfl; (next => (apply opv_call hc; (next => rfl); (next => ((repeat' (first | exact LeL.refl _ | exact .refl _ | exact .nil _ _ | exact .rd _ _ _ | refine LeL.cons ?_ ?_ | exact LeL.nil | refine Le1.of_eq ?_ | rfl)))); (next => rfl))))
        | (apply qa_op rfl rfl rfl rfl rfl; (next => (first
         | (refine evalE_ok (T := TT) rfl ?_; (first | exact trivial | omega | (simp [NFL] <;> omega)))
         | (apply opk ⟨_, .assign _, _, _, _, _⟩; first | exact opv_move_rd rfl (.inr rfl) | exact opv_assign_const rfl | fail)
         | (apply opk ⟨_, .fieldAddr _ _ _, _, _, _, _⟩; first
          | exact opv_field_el (T := TT) rfl rfl rfl rfl rfl rfl
          | exact opv_field_box (T := TT) rfl rfl rfl rfl rfl
          | fail)
         | (apply opk ⟨_, .load _ _, _, _, _, _⟩; first
          | exact opv_load_el (T := TT) rfl rfl rfl
          | exact opv_load_els (T := TT) rfl rfl rfl rfl
          | (apply opv_load_box (T := TT) rfl; (next => (first
           | rfl
           | exact look_hd
           | assumption
           | ((repeat (first | exact look_hd | assumption | (apply look_tl; (next => (first | assumption | (intro e; exact absurd e.symm (by assumption)) | fail))) | fail)); done)
           | fail)); (next => rfl); (next => rfl); (next => rfl); (next => rfl))
          | fail)
         | (apply opk ⟨_, .buildSlice _ _ _, _, _, _, _⟩; first | exact opv_build_slice (T := TT) rfl rfl rfl rfl rfl rfl rfl | fail)
         | fail)))
        | refine qa_src rfl rfl rfl rfl (opv_load_box (T := TT) rfl look_hd rfl rfl rfl rfl) (src_load (T := TT) rfl rfl look_hd rfl rfl rfl rfl) ?_
        | (refine qa_src rfl rfl rfl rfl (opv_load_box (T := TT) rfl (look_tl ?_ look_hd) rfl rfl rfl rfl) (src_load (T := TT) rfl rfl (look_tl ?_ look_hd) rfl rfl rfl rfl) ?_; (next => (first | assumption | (intro e; exact absurd e.symm (by assumption)))); (next => (first | assumption | (intro e; exact absurd e.symm (by assumption)))))
        | (refine qa_src rfl rfl rfl rfl (opv_load_box (T := TT) rfl (look_tl ?_ (look_tl ?_ look_hd)) rfl rfl rfl rfl) (src_load (T := TT) rfl rfl (look_tl ?_ (look_tl ?_ look_hd)) rfl rfl rfl rfl) ?_; (next => (first | assumption | (intro e; exact absurd e.symm (by assumption)))); (next => (first | assumption | (intro e; exact absurd e.symm (by assumption)))); (next => (first | assumption | (intro e; exact absurd e.symm (by assumption)))); (next => (first | assumption | (intro e; exact absurd e.symm (by assumption)))))
        | (refine qa_app rfl rfl rfl (app_ok (T := TT) rfl rfl rfl ?_ rfl rfl (adds_rel ?_) rfl ?_) ?_; (next => (first | exact .inl rfl | exact .inr ⟨_, rfl⟩)); (next => (first | exact rowsOne_byteA _ | assumption | (simp [RowsOne, AV.one, AV.rd, AV.cells, cst, Value.oneCell'] <;> omega))); (next => (first | omega | (simp [NFL] <;> omega))))
        | fail)
      refine qa_nil ⟨rfl, ?_⟩
      simp only [List.getLast_cons_cons, List.getLast_singleton]
      refine eff_nf ?_
      (apply eff_un; (next => ((first | (simp only [go_sem, Nat.reduceBEq, Nat.reduceEqDiff, reduceIte, reduceCtorEq, String.reduceEq, Nat.reduceAdd, Int.reduceToNat]; exact rfl) | exact rfl))))
      (apply effM; (next => (first
        | (apply effTo_store_own (T := TT) rfl rfl rfl; (next => (first
         | rfl
         | exact look_hd
         | assumption
         | ((repeat (first | exact look_hd | assumption | (apply look_tl; (next => (first | assumption | (intro e; exact absurd e.symm (by assumption)) | fail))) | fail)); done)
         | fail)); (next => rfl); (next => rfl); (next => rfl))
        | (apply effTo_store (T := TT) rfl; (next => (first
         | rfl
         | exact look_hd
         | assumption
         | ((repeat (first | exact look_hd | assumption | (apply look_tl; (next => (first | assumption | (intro e; exact absurd e.symm (by assumption)) | fail))) | fail)); done)
         | fail)); (next => rfl); (next => rfl); (next => rfl); (next => rfl); (next => rfl); (next => rfl); (next => rfl); (next => rfl))
        | fail)))
      refine ar_endM [0, 1, 2, 3, 14] rfl ?_
      repeat (first
        | ((first | apply ar_un | apply stk_un); (next => (first | (simp only [go_sem, Nat.reduceBEq, Nat.reduceEqDiff, reduceIte, reduceCtorEq, String.reduceEq, Nat.reduceAdd, Int.reduceToNat]; exact rfl) | exact rfl)))
        | (apply ar_op' rfl rfl rfl rfl; (next => (first
         | (refine evalE_ok (T := TT) rfl ?_; (first | exact trivial | omega | (simp [NFL] <;> omega)))
         | (apply opk ⟨_, .fieldAddr _ _ _, _, _, _, _⟩; first
          | exact opv_field_el (T := TT) rfl rfl rfl rfl rfl rfl
          | exact opv_field_box (T := TT) rfl rfl rfl rfl rfl
          | fail)
         | (apply opk ⟨_, .load _ _, _, _, _, _⟩; first | exact opv_load_el (T := TT) rfl rfl rfl | exact opv_load_els (T := TT) rfl rfl rfl rfl | fail)
         | (apply opk ⟨_, .buildSlice _ _ _, _, _, _, _⟩; first | exact opv_build_slice (T := TT) rfl rfl rfl rfl rfl rfl rfl | fail)
         | fail)))
        | (refine arO _ ?_; first
         | (refine arO ⟨_, .move _, _, _, _, _⟩ ?_; first | refine ar_move_sl rfl rfl rfl rfl ?_ | fail)
         | (refine arO ⟨_, .assign _, _, _, _, _⟩ ?_; first
          | refine ar_assign_sl rfl rfl rfl rfl ?_
          | refine ar_op rfl rfl rfl rfl (opv_const (cst_plain _) (.inr rfl)) ?_
          | fail)
         | (refine arO ⟨_, .load _ _, _, _, _, _⟩ ?_; first
          | refine ar_load_own (T := TT) rfl rfl rfl rfl look_hd rfl rfl rfl rfl ?_
          | (refine ar_load_own (T := TT) rfl rfl rfl rfl (look_tl ?_ look_hd) rfl rfl rfl rfl ?_; (next => (first | assumption | (intro e; exact absurd e.symm (by assumption)))))
          | (refine ar_load_own (T := TT) rfl rfl rfl rfl (look_tl ?_ (look_tl ?_ look_hd)) rfl rfl rfl rfl ?_; (next => (first | assumption | (intro e; exact absurd e.symm (by assumption)))); (next => (first | assumption | (intro e; exact absurd e.symm (by assumption)))))
          | fail)
         | (refine arO ⟨_, .call { callee := .builtin .append, args := _, argTypes := _ }, _, _, _, _⟩ ?_; first
          | (apply ar_effM rfl rfl; (next => (first
           | (apply effTo_append (T := TT) rfl rfl rfl rfl rfl rfl rfl rfl rfl rfl; (next => (first | exact trivial | exact rowsOne_byteA _ | assumption | (simp [RowsOne, AV.one, AV.rd, AV.cells, cst, Value.oneCell'] <;> omega))); (next => (first | omega | (simp [NFL] <;> omega))))
           | (apply effTo_append (T := TT) rfl (own_c look_hd rfl) rfl rfl rfl rfl rfl rfl rfl rfl; (next => (first | exact trivial | exact rowsOne_byteA _ | assumption | (simp [RowsOne, AV.one, AV.rd, AV.cells, cst, Value.oneCell'] <;> omega))); (next => (first | omega | (simp [NFL] <;> omega))))
           | (apply effTo_append (T := TT) rfl (own_c (look_tl (by first | assumption | (intro e; exact absurd e.symm (by assumption))) look_hd) rfl) rfl rfl rfl rfl rfl rfl rfl rfl; (next => (first | exact trivial | exact rowsOne_byteA _ | assumption | (simp [RowsOne, AV.one, AV.rd, AV.cells, cst, Value.oneCell'] <;> omega))); (next => (first | omega | (simp [NFL] <;> omega))))
           | (apply effTo_append_nil (T := TT) rfl rfl rfl rfl rfl rfl rfl rfl rfl; (next => (first | exact trivial | exact rowsOne_byteA _ | assumption | (simp [RowsOne, AV.one, AV.rd, AV.cells, cst, Value.oneCell'] <;> omega))); (next => (first | omega | (simp [NFL] <;> omega))))
           | fail)))
          | fail)
         | (refine arO ⟨_, .store _ _ _, _, _, _, _⟩ ?_; first
          | (apply ar_effM rfl rfl; (next => (first
           | (apply effTo_store_own (T := TT) rfl rfl rfl; (next => (first
            | rfl
            | exact look_hd
            | assumption
            | ((repeat (first | exact look_hd | assumption | (apply look_tl; (next => (first | assumption | (intro e; exact absurd e.symm (by assumption)) | fail))) | fail)); done)
            | fail)); (next => rfl); (next => rfl); (next => rfl))
           | (apply effTo_store (T := TT) rfl; (next => (first
            | rfl
            | exact look_hd
            | assumption
            | ((repeat (first | exact look_hd | assumption | (apply look_tl; (next => (first | assumption | (intro e; exact absurd e.symm (by assumption)) | fail))) | fail)); done)
            | fail)); (next => rfl); (next => rfl); (next => rfl); (next => rfl); (next => rfl); (next => rfl); (next => rfl); (next => rfl))
           | fail)))
          | fail)
         | (refine arO ⟨_, .box _ _, _, _, _, _⟩ ?_; first
          | (refine ar_eff rfl rfl (eff_boxB rfl rfl rfl rfl ?_); intro kb hkb; (repeat (have hkn := (freshK_ne hkb).1; replace hkb := (freshK_ne hkb).2)); (try have hkl := freshK_look hkb); clear hkb; refine ar_nf ?_)
          | fail)
         | fail)
        | refine ar_seq ?_
        | (refine arE ?_; refine ar_endM [0, 1, 2, 3, 14] rfl ?_)
        | refine ar_region ?_
        | refine ar_block ?_
        | refine ar_skip ?_
        | refine ar_blk ?_
        | refine ar_dedup rfl ?_
        | (refine arC (.cond _ _ _) ?_; first
         | (refine ar_cond_true rfl ?_ ?_; (next => (first | rfl | (simp only [decide_eq_true_eq, beq_iff_eq, bne_iff_ne, ge_iff_le, gt_iff_lt, ne_eq, Bool.not_eq_true', decide_eq_false_iff_not]; omega))))
         | (refine ar_cond_false rfl ?_ ?_; (next => (first
          | rfl
          | (simp only [decide_eq_false_iff_not, beq_eq_false_iff_ne, bne_eq_false_iff_eq, ge_iff_le, gt_iff_lt, ne_eq, Bool.not_eq_false', decide_eq_true_eq]; omega))))
         | fail)
        | refine ar_exit ?_
        | refine stk_b_hit ?_
        | refine stk_b_miss rfl ?_
        | refine stk_c_exit ?_
        | refine stk_l_exit ?_
        | (refine arC .ret ?_; refine ar_retM [] ?_)
        | refine stk_c_ret ?_
        | refine stk_b_ret ?_
        | refine stk_l_ret ?_
        | refine stk_nil ?_
        | fail)
      refine ar_nil (qretC_mkN _ rfl (look_lone look_hd) ⟨rfl, ?_⟩)
      simp only [List.map_append, List.map_cons, List.map_nil]
    · rw [if_neg h2] at ha
      cases ha
      repeat (first
        | ((first | apply ar_un | apply stk_un); (next => (first | (simp only [go_sem, Nat.reduceBEq, Nat.reduceEqDiff, reduceIte, reduceCtorEq, String.reduceEq, Nat.reduceAdd, Int.reduceToNat]; exact rfl) | exact rfl)))
        | (apply ar_op' rfl rfl rfl rfl; (next => (first
         | (refine evalE_ok (T := TT) rfl ?_; (first | exact trivial | omega | (simp [NFL] <;> omega)))
         | (apply opk ⟨_, .fieldAddr _ _ _, _, _, _, _⟩; first
          | exact opv_field_el (T := TT) rfl rfl rfl rfl rfl rfl
          | exact opv_field_box (T := TT) rfl rfl rfl rfl rfl
          | fail)
         | (apply opk ⟨_, .load _ _, _, _, _, _⟩; first | exact opv_load_el (T := TT) rfl rfl rfl | exact opv_load_els (T := TT) rfl rfl rfl rfl | fail)
         | (apply opk ⟨_, .buildSlice _ _ _, _, _, _, _⟩; first | exact opv_build_slice (T := TT) rfl rfl rfl rfl rfl rfl rfl | fail)
         | fail)))
        | (refine arO _ ?_; first
         | (refine arO ⟨_, .move _, _, _, _, _⟩ ?_; first | refine ar_move_sl rfl rfl rfl rfl ?_ | fail)
         | (refine arO ⟨_, .assign _, _, _, _, _⟩ ?_; first
          | refine ar_assign_sl rfl rfl rfl rfl ?_
          | refine ar_op rfl rfl rfl rfl (opv_const (cst_plain _) (.inr rfl)) ?_
          | fail)
         | (refine arO ⟨_, .load _ _, _, _, _, _⟩ ?_; first
          | refine ar_load_own (T := TT) rfl rfl rfl rfl look_hd rfl rfl rfl rfl ?_
          | (refine ar_load_own (T := TT) rfl rfl rfl rfl (look_tl ?_ look_hd) rfl rfl rfl rfl ?_; (next => (first | assumption | (intro e; exact absurd e.symm (by assumption)))))
          | (refine ar_load_own (T := TT) rfl rfl rfl rfl (look_tl ?_ (look_tl ?_ look_hd)) rfl rfl rfl rfl ?_; (next => (first | assumption | (intro e; exact absurd e.symm (by assumption)))); (next => (first | assumption | (intro e; exact absurd e.symm (by assumption)))))
          | fail)
         | (refine arO ⟨_, .call { callee := .builtin .append, args := _, argTypes := _ }, _, _, _, _⟩ ?_; first
          | (apply ar_effM rfl rfl; (next => (first
           | (apply effTo_append (T := TT) rfl rfl rfl rfl rfl rfl rfl rfl rfl rfl; (next => (first | exact trivial | exact rowsOne_byteA _ | assumption | (simp [RowsOne, AV.one, AV.rd, AV.cells, cst, Value.oneCell'] <;> omega))); (next => (first | omega | (simp [NFL] <;> omega))))
           | (apply effTo_append (T := TT) rfl (own_c look_hd rfl) rfl rfl rfl rfl rfl rfl rfl rfl; (next => (first | exact trivial | exact rowsOne_byteA _ | assumption | (simp [RowsOne, AV.one, AV.rd, AV.cells, cst, Value.oneCell'] <;> omega))); (next => (first | omega | (simp [NFL] <;> omega))))
           | (apply effTo_append (T := TT) rfl (own_c (look_tl (by first | assumption | (intro e; exact absurd e.symm (by assumption))) look_hd) rfl) rfl rfl rfl rfl rfl rfl rfl rfl; (next => (first | exact trivial | exact rowsOne_byteA _ | assumption | (simp [RowsOne, AV.one, AV.rd, AV.cells, cst, Value.oneCell'] <;> omega))); (next => (first | omega | (simp [NFL] <;> omega))))
           | (apply effTo_append_nil (T := TT) rfl rfl rfl rfl rfl rfl rfl rfl rfl; (next => (first | exact trivial | exact rowsOne_byteA _ | assumption | (simp [RowsOne, AV.one, AV.rd, AV.cells, cst, Value.oneCell'] <;> omega))); (next => (first | omega | (simp [NFL] <;> omega))))
           | fail)))
          | fail)
         | (refine arO ⟨_, .store _ _ _, _, _, _, _⟩ ?_; first
          | (apply ar_effM rfl rfl; (next => (first
           | (apply effTo_store_own (T := TT) rfl rfl rfl; (next => (first
            | rfl
            | exact look_hd
            | assumption
            | ((repeat (first | exact look_hd | assumption | (apply look_tl; (next => (first | assumption | (intro e; exact absurd e.symm (by assumption)) | fail))) | fail)); done)
            | fail)); (next => rfl); (next => rfl); (next => rfl))
           | (apply effTo_store (T := TT) rfl; (next => (first
            | rfl
            | exact look_hd
            | assumption
            | ((repeat (first | exact look_hd | assumption | (apply look_tl; (next => (first | assumption | (intro e; exact absurd e.symm (by assumption)) | fail))) | fail)); done)
            | fail)); (next => rfl); (next => rfl); (next => rfl); (next => rfl); (next => rfl); (next => rfl); (next => rfl); (next => rfl))
           | fail)))
          | fail)
         | (refine arO ⟨_, .box _ _, _, _, _, _⟩ ?_; first
          | (refine ar_eff rfl rfl (eff_boxB rfl rfl rfl rfl ?_); intro kb hkb; (repeat (have hkn := (freshK_ne hkb).1; replace hkb := (freshK_ne hkb).2)); (try have hkl := freshK_look hkb); clear hkb; refine ar_nf ?_)
          | fail)
         | (refine arO ⟨_, .load _ _, _, _, _, _⟩ ?_; first
          | (refine ar_op' rfl rfl rfl rfl (opv_load_boxr (T := TT) rfl look_hd rfl rfl rfl rfl) ?_)
          | (refine ar_op' rfl rfl rfl rfl (opv_load_boxr (T := TT) rfl (look_tl ?_ look_hd) rfl rfl rfl rfl) ?_; (next => (first | assumption | (intro e; exact absurd e.symm (by assumption)))))
          | (refine ar_op' rfl rfl rfl rfl (opv_load_boxr (T := TT) rfl (look_tl ?_ (look_tl ?_ look_hd)) rfl rfl rfl rfl) ?_; (next => (first | assumption | (intro e; exact absurd e.symm (by assumption)))); (next => (first | assumption | (intro e; exact absurd e.symm (by assumption)))))
          | fail)
         | (refine arO ⟨_, .call { callee := .value _, args := _, argTypes := _ }, _, _, _, _⟩ ?_; first
          | (apply ar_callM0 rfl (is_a v.num v.kind v.n 1 2 v.bs) rfl rfl; (next => (repeat (first
           | exact PArgs.nil
           | (apply PArgs.cons; (next => (first
            | exact PArg.own rfl rfl
            | exact PArg.rd rfl (Le1.refl _) rfl
            | exact PArg.rd rfl (Le1.rd _ _ _) rfl
            | exact PArg.nil rfl
            | exact PArg.rd rfl (Le1.nil _ _) rfl
            | (refine PArg.rd rfl (Le1.of_eq ?_) rfl; congr 2 <;> (first | omega | (simp; omega) | (simp [NFL]; done))))))))); (next => rfl); (next => rfl); rintro _ _ ⟨rfl, rfl⟩; refine ⟨_, rfl, ?_⟩)
          | (apply ar_callM0 rfl (is_a v.num v.kind v.n 2 2 v.bs) rfl rfl; (next => (repeat (first
           | exact PArgs.nil
           | (apply PArgs.cons; (next => (first
            | exact PArg.own rfl rfl
            | exact PArg.rd rfl (Le1.refl _) rfl
            | exact PArg.rd rfl (Le1.rd _ _ _) rfl
            | exact PArg.nil rfl
            | exact PArg.rd rfl (Le1.nil _ _) rfl
            | (refine PArg.rd rfl (Le1.of_eq ?_) rfl; congr 2 <;> (first | omega | (simp; omega) | (simp [NFL]; done))))))))); (next => rfl); (next => rfl); rintro _ _ ⟨rfl, rfl⟩; refine ⟨_, rfl, ?_⟩)
          | fail)
         | fail)
        | refine ar_seq ?_
        | (refine arE ?_; refine ar_endM [0, 1, 2, 3, 14] rfl ?_)
        | refine ar_region ?_
        | refine ar_block ?_
        | refine ar_skip ?_
        | refine ar_blk ?_
        | refine ar_dedup rfl ?_
        | (refine arC (.cond _ _ _) ?_; first
         | (refine ar_cond_true rfl ?_ ?_; (next => (first | rfl | (simp only [decide_eq_true_eq, beq_iff_eq, bne_iff_ne, ge_iff_le, gt_iff_lt, ne_eq, Bool.not_eq_true', decide_eq_false_iff_not]; omega))))
         | (refine ar_cond_false rfl ?_ ?_; (next => (first
          | rfl
          | (simp only [decide_eq_false_iff_not, beq_eq_false_iff_ne, bne_eq_false_iff_eq, ge_iff_le, gt_iff_lt, ne_eq, Bool.not_eq_false', decide_eq_true_eq]; omega))))
         | fail)
        | refine ar_exit ?_
        | refine stk_b_hit ?_
        | refine stk_b_miss rfl ?_
        | refine stk_c_exit ?_
        | refine stk_l_exit ?_
        | (refine arC .ret ?_; refine ar_retM [] ?_)
        | refine stk_c_ret ?_
        | refine stk_b_ret ?_
        | refine stk_l_ret ?_
        | refine stk_nil ?_
        | fail)
      exact ar_nil (qretC_mkN _ rfl (look_lone (look_tl hkn look_hd)) ⟨rfl, rfl⟩)

set_option maxRecDepth 100000 in
theorem series1_bad (kt : Nat) (x : Srs) (v : Fld) (m : Nat) (hm : PrS (m + 1) x) (hl : v.bs.length ≤ m) (ha : seriesStep x v = none) :
    ACalls Try.prog 59 [fldV v, .v (.pointer (some ⟨kt, 0, none⟩))] (stS kt x) (fun out H' => out = .pan wrongV ∧ ∃ b, H' = stS kt b) := by
  obtain ⟨hm1, hm2⟩ := hm
  have hst : ∃ b, stS kt x = stS kt b := ⟨x, rfl⟩
  unfold fldV fldA
  generalize hH : stS kt x = H0 at hst
  unfold stS at hH
  subst hH
  refine acalls_enterC TT 25 [] Try.func59 (by kernel_rfl) rfl rfl rfl rfl ?_
  dsimp only [slotsOf]
  unfold seriesStep at ha
  by_cases h1 : v.num = 1 ∧ v.kind = 2
  · rw [if_pos h1] at ha
    have hy := Option.map_eq_none_iff.1 ha
    have hc : ACalls Try.prog 60 [.v (.string (mkB v.bs))] [] (fun out H => out = .pan wrongV ∧ H = []) := by
      have h := label_a v.bs (by omega)
      rw [hy] at h
      exact h
    repeat (first
      | ((first | apply ar_un | apply stk_un); (next => (first | (simp only [go_sem, Nat.reduceBEq, Nat.reduceEqDiff, reduceIte, reduceCtorEq, String.reduceEq, Nat.reduceAdd, Int.reduceToNat]; exact rfl) | exact rfl)))
      | (apply ar_op' rfl rfl rfl rfl; (next => (first
       | (refine evalE_ok (T := TT) rfl ?_; (first | exact trivial | omega | (simp [NFL] <;> omega)))
       | (apply opk ⟨_, .fieldAddr _ _ _, _, _, _, _⟩; first
        | exact opv_field_el (T := TT) rfl rfl rfl rfl rfl rfl
        | exact opv_field_box (T := TT) rfl rfl rfl rfl rfl
        | fail)
       | (apply opk ⟨_, .load _ _, _, _, _, _⟩; first | exact opv_load_el (T := TT) rfl rfl rfl | exact opv_load_els (T := TT) rfl rfl rfl rfl | fail)
       | (apply opk ⟨_, .buildSlice _ _ _, _, _, _, _⟩; first | exact opv_build_slice (T := TT) rfl rfl rfl rfl rfl rfl rfl | fail)
       | fail)))
      | (refine arO _ ?_; first
       | (refine arO ⟨_, .move _, _, _, _, _⟩ ?_; first | refine ar_move_sl rfl rfl rfl rfl ?_ | fail)
       | (refine arO ⟨_, .assign _, _, _, _, _⟩ ?_; first
        | refine ar_assign_sl rfl rfl rfl rfl ?_
        | refine ar_op rfl rfl rfl rfl (opv_const (cst_plain _) (.inr rfl)) ?_
        | fail)
       | (refine arO ⟨_, .load _ _, _, _, _, _⟩ ?_; first
        | refine ar_load_own (T := TT) rfl rfl rfl rfl look_hd rfl rfl rfl rfl ?_
        | (refine ar_load_own (T := TT) rfl rfl rfl rfl (look_tl ?_ look_hd) rfl rfl rfl rfl ?_; (next => (first | assumption | (intro e; exact absurd e.symm (by assumption)))))
        | (refine ar_load_own (T := TT) rfl rfl rfl rfl (look_tl ?_ (look_tl ?_ look_hd)) rfl rfl rfl rfl ?_; (next => (first | assumption | (intro e; exact absurd e.symm (by assumption)))); (next => (first | assumption | (intro e; exact absurd e.symm (by assumption)))))
        | fail)
       | (refine arO ⟨_, .call { callee := .builtin .append, args := _, argTypes := _ }, _, _, _, _⟩ ?_; first
        | (apply ar_effM rfl rfl; (next => (first
         | (apply effTo_append (T := TT) rfl rfl rfl rfl rfl rfl rfl rfl rfl rfl; (next => (first | exact trivial | exact rowsOne_byteA _ | assumption | (simp [RowsOne, AV.one, AV.rd, AV.cells, cst, Value.oneCell'] <;> omega))); (next => (first | omega | (simp [NFL] <;> omega))))
         | (apply effTo_append (T := TT) rfl (own_c look_hd rfl) rfl rfl rfl rfl rfl rfl rfl rfl; (next => (first | exact trivial | exact rowsOne_byteA _ | assumption | (simp [RowsOne, AV.one, AV.rd, AV.cells, cst, Value.oneCell'] <;> omega))); (next => (first | omega | (simp [NFL] <;> omega))))
         | (apply effTo_append (T := TT) rfl (own_c (look_tl (by first | assumption | (intro e; exact absurd e.symm (by assumption))) look_hd) rfl) rfl rfl rfl rfl rfl rfl rfl rfl; (next => (first | exact trivial | exact rowsOne_byteA _ | assumption | (simp [RowsOne, AV.one, AV.rd, AV.cells, cst, Value.oneCell'] <;> omega))); (next => (first | omega | (simp [NFL] <;> omega))))
         | (apply effTo_append_nil (T := TT) rfl rfl rfl rfl rfl rfl rfl rfl rfl; (next => (first | exact trivial | exact rowsOne_byteA _ | assumption | (simp [RowsOne, AV.one, AV.rd, AV.cells, cst, Value.oneCell'] <;> omega))); (next => (first | omega | (simp [NFL] <;> omega))))
         | fail)))
        | fail)
       | (refine arO ⟨_, .store _ _ _, _, _, _, _⟩ ?_; first
        | (apply ar_effM rfl rfl; (next => (first
         | (apply effTo_store_own (T := TT) rfl rfl rfl; (next => (first
          | rfl
          | exact look_hd
          | assumption
          | ((repeat (first | exact look_hd | assumption | (apply look_tl; (next => (first | assumption | (intro e; exact absurd e.symm (by assumption)) | fail))) | fail)); done)
          | fail)); (next => rfl); (next => rfl); (next => rfl))
         | (apply effTo_store (T := TT) rfl; (next => (first
          | rfl
          | exact look_hd
          | assumption
          | ((repeat (first | exact look_hd | assumption | (apply look_tl; (next => (first | assumption | (intro e; exact absurd e.symm (by assumption)) | fail))) | fail)); done)
          | fail)); (next => rfl); (next => rfl); (next => rfl); (next => rfl); (next => rfl); (next => rfl); (next => rfl); (next => rfl))
         | fail)))
        | fail)
       | (refine arO ⟨_, .box _ _, _, _, _, _⟩ ?_; first
        | (refine ar_eff rfl rfl (eff_boxB rfl rfl rfl rfl ?_); intro kb hkb; (repeat (have hkn := (freshK_ne hkb).1; replace hkb := (freshK_ne hkb).2)); (try have hkl := freshK_look hkb); clear hkb; refine ar_nf ?_)
        | fail)
       | (refine arO ⟨_, .load _ _, _, _, _, _⟩ ?_; first
        | (refine ar_op' rfl rfl rfl rfl (opv_load_boxr (T := TT) rfl look_hd rfl rfl rfl rfl) ?_)
        | (refine ar_op' rfl rfl rfl rfl (opv_load_boxr (T := TT) rfl (look_tl ?_ look_hd) rfl rfl rfl rfl) ?_; (next => (first | assumption | (intro e; exact absurd e.symm (by assumption)))))
        | (refine ar_op' rfl rfl rfl rfl (opv_load_boxr (T := TT) rfl (look_tl ?_ (look_tl ?_ look_hd)) rfl rfl rfl rfl) ?_; (next => (first | assumption | (intro e; exact absurd e.symm (by assumption)))); (next => (first | assumption | (intro e; exact absurd e.symm (by assumption)))))
        | fail)
       | (refine arO ⟨_, .call { callee := .value _, args := _, argTypes := _ }, _, _, _, _⟩ ?_; first
        | (apply ar_callM0 rfl (is_a v.num v.kind v.n 1 2 v.bs) rfl rfl; (next => (repeat (first
         | exact PArgs.nil
         | (apply PArgs.cons; (next => (first
          | exact PArg.own rfl rfl
          | exact PArg.rd rfl (Le1.refl _) rfl
          | exact PArg.rd rfl (Le1.rd _ _ _) rfl
          | exact PArg.nil rfl
          | exact PArg.rd rfl (Le1.nil _ _) rfl
          | (refine PArg.rd rfl (Le1.of_eq ?_) rfl; congr 2 <;> (first | omega | (simp; omega) | (simp [NFL]; done))))))))); (next => rfl); (next => rfl); rintro _ _ ⟨rfl, rfl⟩; refine ⟨_, rfl, ?_⟩)
        | fail)
       | fail)
      | refine ar_seq ?_
      | (refine arE ?_; refine ar_endM [0, 1, 2, 3, 14] rfl ?_)
      | refine ar_region ?_
      | refine ar_block ?_
      | refine ar_skip ?_
      | refine ar_blk ?_
      | refine ar_dedup rfl ?_
      | (refine arC (.cond _ _ _) ?_; first
       | (refine ar_cond_true rfl ?_ ?_; (next => (first | rfl | (simp only [decide_eq_true_eq, beq_iff_eq, bne_iff_ne, ge_iff_le, gt_iff_lt, ne_eq, Bool.not_eq_true', decide_eq_false_iff_not]; omega))))
       | (refine ar_cond_false rfl ?_ ?_; (next => (first
        | rfl
        | (simp only [decide_eq_false_iff_not, beq_eq_false_iff_ne, bne_eq_false_iff_eq, ge_iff_le, gt_iff_lt, ne_eq, Bool.not_eq_false', decide_eq_true_eq]; omega))))
       | fail)
      | refine ar_exit ?_
      | refine stk_b_hit ?_
      | refine stk_b_miss rfl ?_
      | refine stk_c_exit ?_
      | refine stk_l_exit ?_
      | (refine arC .ret ?_; refine ar_retM [] ?_)
      | refine stk_c_ret ?_
      | refine stk_b_ret ?_
      | refine stk_l_ret ?_
      | refine stk_nil ?_
      | fail)
    refine ar_nop (ar_drawP (v := wrongV) 4 mixed rfl (by kernel_rfl) rfl ?_ ?_)
    rotate_left
    simp only [List.take_succ_cons, List.take_zero]
    repeat (first
      | (apply q_op rfl rfl rfl; (next => (first
       | (refine evalE_ok (T := TT) rfl ?_; (first | exact trivial | omega | (simp [NFL] <;> omega)))
       | (apply opk ⟨_, .assign _, _, _, _, _⟩; first | exact opv_move_rd rfl (.inr rfl) | exact opv_assign_const rfl | fail)
       | (apply opk ⟨_, .fieldAddr _ _ _, _, _, _, _⟩; first
        | exact opv_field_el (T := TT) rfl rfl rfl rfl rfl rfl
        | exact opv_field_box (T := TT) rfl rfl rfl rfl rfl
        | fail)
       | (apply opk ⟨_, .load _ _, _, _, _, _⟩; first
        | exact opv_load_el (T := TT) rfl rfl rfl
        | exact opv_load_els (T := TT) rfl rfl rfl rfl
        | (apply opv_load_box (T := TT) rfl; (next => (first
         | rfl
         | exact look_hd
         | assumption
         | ((repeat (first | exact look_hd | assumption | (apply look_tl; (next => (first | assumption | (intro e; exact absurd e.symm (by assumption)) | fail))) | fail)); done)
         | fail)); (next => rfl); (next => rfl); (next => rfl); (next => rfl))
        | fail)
       | (apply opk ⟨_, .buildSlice _ _ _, _, _, _, _⟩; first | exact opv_build_slice (T := TT) rfl rfl rfl rfl rfl rfl rfl | fail)
       | fail)))
      | refine q_unwanted rfl rfl rfl ?_
      | fail)
    refine q_nil ?_
    (apply panop_call (hc); (next => rfl); (next => ((repeat' (first | exact LeL.refl _ | exact .refl _ | exact .nil _ _ | exact .rd _ _ _ | refine LeL.cons ?_ ?_ | exact LeL.nil | refine Le1.of_eq ?_ | rfl)))); (next => rfl))
    (repeat (first | refine panK_c ?_ | refine panK_b ?_ | refine panK_l ?_ | refine panK_o ?_))
    exact panK_endC _ (look_lone (look_tl hkn look_hd)) ⟨rfl, hst⟩
  · rw [if_neg h1] at ha
    by_cases h2 : v.num = 2 ∧ v.kind = 2
    · rw [if_pos h2] at ha
      have hy := Option.map_eq_none_iff.1 ha
      have hc : ACalls Try.prog 61 [.v (.string (mkB v.bs))] [] (fun out H => out = .pan wrongV ∧ H = []) := by
        have h := sampleOf_a v.bs (by omega)
        rw [hy] at h
        exact h
      repeat (first
        | ((first | apply ar_un | apply stk_un); (next => (first | (simp only [go_sem, Nat.reduceBEq, Nat.reduceEqDiff, reduceIte, reduceCtorEq, String.reduceEq, Nat.reduceAdd, Int.reduceToNat]; exact rfl) | exact rfl)))
        | (apply ar_op' rfl rfl rfl rfl; (next => (first
         | (refine evalE_ok (T := TT) rfl ?_; (first | exact trivial | omega | (simp [NFL] <;> omega)))
         | (apply opk ⟨_, .fieldAddr _ _ _, _, _, _, _⟩; first
          | exact opv_field_el (T := TT) rfl rfl rfl rfl rfl rfl
          | exact opv_field_box (T := TT) rfl rfl rfl rfl rfl
          | fail)
         | (apply opk ⟨_, .load _ _, _, _, _, _⟩; first | exact opv_load_el (T := TT) rfl rfl rfl | exact opv_load_els (T := TT) rfl rfl rfl rfl | fail)
         | (apply opk ⟨_, .buildSlice _ _ _, _, _, _, _⟩; first | exact opv_build_slice (T := TT) rfl rfl rfl rfl rfl rfl rfl | fail)
         | fail)))
        | (refine arO _ ?_; first
         | (refine arO ⟨_, .move _, _, _, _, _⟩ ?_; first | refine ar_move_sl rfl rfl rfl rfl ?_ | fail)
         | (refine arO ⟨_, .assign _, _, _, _, _⟩ ?_; first
          | refine ar_assign_sl rfl rfl rfl rfl ?_
          | refine ar_op rfl rfl rfl rfl (opv_const (cst_plain _) (.inr rfl)) ?_
          | fail)
         | (refine arO ⟨_, .load _ _, _, _, _, _⟩ ?_; first
          | refine ar_load_own (T := TT) rfl rfl rfl rfl look_hd rfl rfl rfl rfl ?_
          | (refine ar_load_own (T := TT) rfl rfl rfl rfl (look_tl ?_ look_hd) rfl rfl rfl rfl ?_; (next => (first | assumption | (intro e; exact absurd e.symm (by assumption)))))
          | (refine ar_load_own (T := TT) rfl rfl rfl rfl (look_tl ?_ (look_tl ?_ look_hd)) rfl rfl rfl rfl ?_; (next => (first | assumption | (intro e; exact absurd e.symm (by assumption)))); (next => (first | assumption | (intro e; exact absurd e.symm (by assumption)))))
          | fail)
         | (refine arO ⟨_, .call { callee := .builtin .append, args := _, argTypes := _ }, _, _, _, _⟩ ?_; first
          | (apply ar_effM rfl rfl; (next => (first
           | (apply effTo_append (T := TT) rfl rfl rfl rfl rfl rfl rfl rfl rfl rfl; (next => (first | exact trivial | exact rowsOne_byteA _ | assumption | (simp [RowsOne, AV.one, AV.rd, AV.cells, cst, Value.oneCell'] <;> omega))); (next => (first | omega | (simp [NFL] <;> omega))))
           | (apply effTo_append (T := TT) rfl (own_c look_hd rfl) rfl rfl rfl rfl rfl rfl rfl rfl; (next => (first | exact trivial | exact rowsOne_byteA _ | assumption | (simp [RowsOne, AV.one, AV.rd, AV.cells, cst, Value.oneCell'] <;> omega))); (next => (first | omega | (simp [NFL] <;> omega))))
           | (apply effTo_append (T := TT) rfl (own_c (look_tl (by first | assumption | (intro e; exact absurd e.symm (by assumption))) look_hd) rfl) rfl rfl rfl rfl rfl rfl rfl rfl; (next => (first | exact trivial | exact rowsOne_byteA _ | assumption | (simp [RowsOne, AV.one, AV.rd, AV.cells, cst, Value.oneCell'] <;> omega))); (next => (first | omega | (simp [NFL] <;> omega))))
           | (apply effTo_append_nil (T := TT) rfl rfl rfl rfl rfl rfl rfl rfl rfl; (next => (first | exact trivial | exact rowsOne_byteA _ | assumption | (simp [RowsOne, AV.one, AV.rd, AV.cells, cst, Value.oneCell'] <;> omega))); (next => (first | omega | (simp [NFL] <;> omega))))
           | fail)))
          | fail)
         | (refine arO ⟨_, .store _ _ _, _, _, _, _⟩ ?_; first
          | (apply ar_effM rfl rfl; (next => (first
           | (apply effTo_store_own (T := TT) rfl rfl rfl; (next => (first
            | rfl
            | exact look_hd
            | assumption
            | ((repeat (first | exact look_hd | assumption | (apply look_tl; (next => (first | assumption | (intro e; exact absurd e.symm (by assumption)) | fail))) | fail)); done)
            | fail)); (next => rfl); (next => rfl); (next => rfl))
           | (apply effTo_store (T := TT) rfl; (next => (first
            | rfl
            | exact look_hd
            | assumption
            | ((repeat (first | exact look_hd | assumption | (apply look_tl; (next => (first | assumption | (intro e; exact absurd e.symm (by assumption)) | fail))) | fail)); done)
            | fail)); (next => rfl); (next => rfl); (next => rfl); (next => rfl); (next => rfl); (next => rfl); (next => rfl); (next => rfl))
           | fail)))
          | fail)
         | (refine arO ⟨_, .box _ _, _, _, _, _⟩ ?_; first
          | (refine ar_eff rfl rfl (eff_boxB rfl rfl rfl rfl ?_); intro kb hkb; (repeat (have hkn := (freshK_ne hkb).1; replace hkb := (freshK_ne hkb).2)); (try have hkl := freshK_look hkb); clear hkb; refine ar_nf ?_)
          | fail)
         | (refine arO ⟨_, .load _ _, _, _, _, _⟩ ?_; first
          | (refine ar_op' rfl rfl rfl rfl (opv_load_boxr (T := TT) rfl look_hd rfl rfl rfl rfl) ?_)
          | (refine ar_op' rfl rfl rfl rfl (opv_load_boxr (T := TT) rfl (look_tl ?_ look_hd) rfl rfl rfl rfl) ?_; (next => (first | assumption | (intro e; exact absurd e.symm (by assumption)))))
          | (refine ar_op' rfl rfl rfl rfl (opv_load_boxr (T := TT) rfl (look_tl ?_ (look_tl ?_ look_hd)) rfl rfl rfl rfl) ?_; (next => (first | assumption | (intro e; exact absurd e.symm (by assumption)))); (next => (first | assumption | (intro e; exact absurd e.symm (by assumption)))))
          | fail)
         | (refine arO ⟨_, .call { callee := .value _, args := _, argTypes := _ }, _, _, _, _⟩ ?_; first
          | (apply ar_callM0 rfl (is_a v.num v.kind v.n 1 2 v.bs) rfl rfl; (next => (repeat (first
           | exact PArgs.nil
           | (apply PArgs.cons; (next => (first
            | exact PArg.own rfl rfl
            | exact PArg.rd rfl (Le1.refl _) rfl
            | exact PArg.rd rfl (Le1.rd _ _ _) rfl
            | exact PArg.nil rfl
            | exact PArg.rd rfl (Le1.nil _ _) rfl
            | (refine PArg.rd rfl (Le1.of_eq ?_) rfl; congr 2 <;> (first | omega | (simp; omega) | (simp [NFL]; done))))))))); (next => rfl); (next => rfl); rintro _ _ ⟨rfl, rfl⟩; refine ⟨_, rfl, ?_⟩)
          | (apply ar_callM0 rfl (is_a v.num v.kind v.n 2 2 v.bs) rfl rfl; (next => (repeat (first
           | exact PArgs.nil
           | (apply PArgs.cons; (next => (first
            | exact PArg.own rfl rfl
            | exact PArg.rd rfl (Le1.refl _) rfl
            | exact PArg.rd rfl (Le1.rd _ _ _) rfl
            | exact PArg.nil rfl
            | exact PArg.rd rfl (Le1.nil _ _) rfl
            | (refine PArg.rd rfl (Le1.of_eq ?_) rfl; congr 2 <;> (first | omega | (simp; omega) | (simp [NFL]; done))))))))); (next => rfl); (next => rfl); rintro _ _ ⟨rfl, rfl⟩; refine ⟨_, rfl, ?_⟩)
          | fail)
         | fail)
        | refine ar_seq ?_
        | (refine arE ?_; refine ar_endM [0, 1, 2, 3, 14] rfl ?_)
        | refine ar_region ?_
        | refine ar_block ?_
        | refine ar_skip ?_
        | refine ar_blk ?_
        | refine ar_dedup rfl ?_
        | (refine arC (.cond _ _ _) ?_; first
         | (refine ar_cond_true rfl ?_ ?_; (next => (first | rfl | (simp only [decide_eq_true_eq, beq_iff_eq, bne_iff_ne, ge_iff_le, gt_iff_lt, ne_eq, Bool.not_eq_true', decide_eq_false_iff_not]; omega))))
         | (refine ar_cond_false rfl ?_ ?_; (next => (first
          | rfl
          | (simp only [decide_eq_false_iff_not, beq_eq_false_iff_ne, bne_eq_false_iff_eq, ge_iff_le, gt_iff_lt, ne_eq, Bool.not_eq_false', decide_eq_true_eq]; omega))))
         | fail)
        | refine ar_exit ?_
        | refine stk_b_hit ?_
        | refine stk_b_miss rfl ?_
        | refine stk_c_exit ?_
        | refine stk_l_exit ?_
        | (refine arC .ret ?_; refine ar_retM [] ?_)
        | refine stk_c_ret ?_
        | refine stk_b_ret ?_
        | refine stk_l_ret ?_
        | refine stk_nil ?_
        | fail)
      refine ar_nop (ar_drawP (v := wrongV) 4 mixed rfl (by kernel_rfl) rfl ?_ ?_)
      rotate_left
      simp only [List.take_succ_cons, List.take_zero]
      repeat (first
        | (apply q_op rfl rfl rfl; (next => (first
         | (refine evalE_ok (T := TT) rfl ?_; (first | exact trivial | omega | (simp [NFL] <;> omega)))
         | (apply opk ⟨_, .assign _, _, _, _, _⟩; first | exact opv_move_rd rfl (.inr rfl) | exact opv_assign_const rfl | fail)
         | (apply opk ⟨_, .fieldAddr _ _ _, _, _, _, _⟩; first
          | exact opv_field_el (T := TT) rfl rfl rfl rfl rfl rfl
          | exact opv_field_box (T := TT) rfl rfl rfl rfl rfl
          | fail)
         | (apply opk ⟨_, .load _ _, _, _, _, _⟩; first
          | exact opv_load_el (T := TT) rfl rfl rfl
          | exact opv_load_els (T := TT) rfl rfl rfl rfl
          | (apply opv_load_box (T := TT) rfl; (next => (first
           | rfl
           | exact look_hd
           | assumption
           | ((repeat (first | exact look_hd | assumption | (apply look_tl; (next => (first | assumption | (intro e; exact absurd e.symm (by assumption)) | fail))) | fail)); done)
           | fail)); (next => rfl); (next => rfl); (next => rfl); (next => rfl))
          | fail)
         | (apply opk ⟨_, .buildSlice _ _ _, _, _, _, _⟩; first | exact opv_build_slice (T := TT) rfl rfl rfl rfl rfl rfl rfl | fail)
         | fail)))
        | refine q_unwanted rfl rfl rfl ?_
        | fail)
      refine q_nil ?_
      (apply panop_call (hc); (next => rfl); (next => ((repeat' (first | exact LeL.refl _ | exact .refl _ | exact .nil _ _ | exact .rd _ _ _ | refine LeL.cons ?_ ?_ | exact LeL.nil | refine Le1.of_eq ?_ | rfl)))); (next => rfl))
      (repeat (first | refine panK_c ?_ | refine panK_b ?_ | refine panK_l ?_ | refine panK_o ?_))
      exact panK_endC _ (look_lone (look_tl hkn look_hd)) ⟨rfl, hst⟩
    · rw [if_neg h2] at ha; cases ha

theorem series_do (kt : Nat) : DoOk (stS kt) seriesStep PrS 59 [.v (.pointer (some ⟨kt, 0, none⟩))] where
  cap := rfl
  keys := fun a b k h => by
    simp only [stS, look_cons, look_nil] at h ⊢
    by_cases e : k = kt
    · rw [if_pos e] at h; cases h
    · rw [if_neg e]
  mono := fun m m' a h hm => ⟨by have := h.1; omega, by have := h.2; omega⟩
  good := fun a v m a' hp hl hv h => by
    refine ⟨?_, series1_ok kt a v m hp hl a' h⟩
    obtain ⟨h1, h2⟩ := hp
    unfold seriesStep at h
    split at h
    · obtain ⟨y, hy, rfl⟩ := Option.map_eq_some_iff.1 h
      exact ⟨by simp; omega, by dsimp only; omega⟩
    · split at h
      · obtain ⟨y, hy, rfl⟩ := Option.map_eq_some_iff.1 h
        exact ⟨by dsimp only; omega, by simp; omega⟩
      · cases h; exact ⟨by omega, by omega⟩
  bad := fun a v m hp hl _ h => series1_bad kt a v m hp hl h

set_option maxRecDepth 100000 in
theorem series_a (s : List UInt8) (hs : s.length ≤ 20000) : ACalls Try.prog 46 [.v (.string (mkB s))] [] (retOr (seriesB s) srsV) := by
  have hf := fun kt => fields_a (series_do kt) s (by omega) ([], []) ⟨by simp; omega, by simp; omega⟩
  obtain ⟨r, hr⟩ : ∃ r, runF seriesStep s ([], []) = r := ⟨_, rfl⟩
  unfold seriesB
  rw [hr] at hf ⊢
  refine acalls_enterC TT 8 [.cell 2 52] Try.func46 (by kernel_rfl) rfl rfl rfl rfl ?_
  dsimp only [slotsOf]
  repeat (first
    | ((first | apply ar_un | apply stk_un); (next => (first | (simp only [go_sem, Nat.reduceBEq, Nat.reduceEqDiff, reduceIte, reduceCtorEq, String.reduceEq, Nat.reduceAdd, Int.reduceToNat]; exact rfl) | exact rfl)))
    | (apply ar_op' rfl rfl rfl rfl; (next => (first
     | (refine evalE_ok (T := TT) rfl ?_; (first | exact trivial | omega | (simp [NFL] <;> omega)))
     | (apply opk ⟨_, .move _, _, _, _, _⟩; first | exact opv_const (cst_plain _) (.inl rfl) | fail)
     | (apply opk ⟨_, .load _ _, _, _, _, _⟩; first | exact opv_load_el (T := TT) rfl rfl rfl | exact opv_load_els (T := TT) rfl rfl rfl rfl | fail)
     | fail)))
    | (refine arO _ ?_; first
     | (refine arO ⟨_, .move _, _, _, _, _⟩ ?_; first | refine ar_move_sl rfl rfl rfl rfl ?_ | fail)
     | (refine arO ⟨_, .assign _, _, _, _, _⟩ ?_; first
      | refine ar_assign_sl rfl rfl rfl rfl ?_
      | refine ar_op rfl rfl rfl rfl (opv_const (cst_plain _) (.inr rfl)) ?_
      | fail)
     | (refine arO ⟨_, .load _ _, _, _, _, _⟩ ?_; first
      | refine ar_load_own (T := TT) rfl rfl rfl rfl look_hd rfl rfl rfl rfl ?_
      | (refine ar_load_own (T := TT) rfl rfl rfl rfl (look_tl ?_ look_hd) rfl rfl rfl rfl ?_; (next => (first | assumption | (intro e; exact absurd e.symm (by assumption)))))
      | (refine ar_load_own (T := TT) rfl rfl rfl rfl (look_tl ?_ (look_tl ?_ look_hd)) rfl rfl rfl rfl ?_; (next => (first | assumption | (intro e; exact absurd e.symm (by assumption)))); (next => (first | assumption | (intro e; exact absurd e.symm (by assumption)))))
      | fail)
     | (refine arO ⟨_, .store _ _ _, _, _, _, _⟩ ?_; first
      | (apply ar_effM rfl rfl; (next => (first
       | (apply effTo_store_own (T := TT) rfl rfl rfl; (next => (first
        | rfl
        | exact look_hd
        | assumption
        | ((repeat (first | exact look_hd | assumption | (apply look_tl; (next => (first | assumption | (intro e; exact absurd e.symm (by assumption)) | fail))) | fail)); done)
        | fail)); (next => rfl); (next => rfl); (next => rfl))
       | (apply effTo_store (T := TT) rfl; (next => (first
        | rfl
        | exact look_hd
        | assumption
        | ((repeat (first | exact look_hd | assumption | (apply look_tl; (next => (first | assumption | (intro e; exact absurd e.symm (by assumption)) | fail))) | fail)); done)
        | fail)); (next => rfl); (next => rfl); (next => rfl); (next => rfl); (next => rfl); (next => rfl); (next => rfl); (next => rfl))
       | fail)))
      | fail)
     | (refine arO ⟨_, .alloc _, _, _, _, _⟩ ?_; first
      | (refine ar_eff rfl rfl (eff_alloc (T := TT) rfl rfl ?_); intro kb hkb; (repeat (have hkn := (freshK_ne hkb).1; replace hkb := (freshK_ne hkb).2)); (try have hkl := freshK_look hkb); clear hkb; refine ar_nf ?_)
      | fail)
     | fail)
    | refine ar_seq ?_
    | (refine arE ?_; refine ar_endM [0, 2, 3] rfl ?_)
    | refine ar_region ?_
    | refine ar_block ?_
    | refine ar_skip ?_
    | refine ar_blk ?_
    | refine ar_dedup rfl ?_
    | (refine arC (.cond _ _ _) ?_; first
     | (refine ar_cond_true rfl ?_ ?_; (next => (first | rfl | (simp only [decide_eq_true_eq, beq_iff_eq, bne_iff_ne, ge_iff_le, gt_iff_lt, ne_eq, Bool.not_eq_true', decide_eq_false_iff_not]; omega))))
     | (refine ar_cond_false rfl ?_ ?_; (next => (first
      | rfl
      | (simp only [decide_eq_false_iff_not, beq_eq_false_iff_ne, bne_eq_false_iff_eq, ge_iff_le, gt_iff_lt, ne_eq, Bool.not_eq_false', decide_eq_true_eq]; omega))))
     | fail)
    | refine ar_exit ?_
    | refine stk_b_hit ?_
    | refine stk_b_miss rfl ?_
    | refine stk_c_exit ?_
    | refine stk_l_exit ?_
    | (refine arC .ret ?_; refine ar_retM [2] ?_)
    | refine stk_c_ret ?_
    | refine stk_b_ret ?_
    | refine stk_l_ret ?_
    | refine stk_nil ?_
    | fail)
  rename_i kr hkr
  refine ar_subO rfl (SubS.of_le (σ' := ⟨8, [(5, .fn 59 [.v (.pointer (some ⟨kb, 0, none⟩))]), (4, .v (.string (mkB s))), (2, .v (.pointer (some ⟨kr, 0, none⟩))), (3, .v (.pointer (some ⟨kb, 0, none⟩)))], [(kb, [.sl true 2 [], .sl true 2 []]), (kr, [.v (.slice none 0 0), .v (.slice none 0 0)])], []⟩) ⟨rfl, ?_, ?_, rfl⟩) ?_
  · (repeat' (first
    | exact trivial
    | exact LeL.refl _
    | exact .refl _
    | refine ⟨⟨_, rfl, ?_⟩, ?_⟩
    | refine ⟨⟨_, look_hd, ?_⟩, ?_⟩
    | refine ⟨⟨_, look_tl (by first | assumption | (intro e; exact absurd e.symm (by assumption))) look_hd, ?_⟩, ?_⟩
    | refine ⟨⟨_, look_tl (by first | assumption | (intro e; exact absurd e.symm (by assumption))) (look_tl (by first | assumption | (intro e; exact absurd e.symm (by assumption))) look_hd), ?_⟩, ?_⟩
    | refine ⟨⟨_, look_tl (by first | assumption | (intro e; exact absurd e.symm (by assumption))) (look_tl (by first | assumption | (intro e; exact absurd e.symm (by assumption))) (look_tl (by first | assumption | (intro e; exact absurd e.symm (by assumption))) look_hd)), ?_⟩, ?_⟩
    | refine ⟨⟨_, look_tl (by first | assumption | (intro e; exact absurd e.symm (by assumption))) (look_tl (by first | assumption | (intro e; exact absurd e.symm (by assumption))) (look_tl (by first | assumption | (intro e; exact absurd e.symm (by assumption))) (look_tl (by first | assumption | (intro e; exact absurd e.symm (by assumption))) look_hd))), ?_⟩, ?_⟩
    | exact .nil _ _
    | exact .rd _ _ _
    | refine LeL.cons ?_ ?_
    | exact LeL.nil
    | refine Le1.of_eq ?_))
  · (repeat' (first
    | exact trivial
    | exact LeL.refl _
    | exact .refl _
    | refine ⟨⟨_, rfl, ?_⟩, ?_⟩
    | refine ⟨⟨_, look_hd, ?_⟩, ?_⟩
    | refine ⟨⟨_, look_tl (by first | assumption | (intro e; exact absurd e.symm (by assumption))) look_hd, ?_⟩, ?_⟩
    | refine ⟨⟨_, look_tl (by first | assumption | (intro e; exact absurd e.symm (by assumption))) (look_tl (by first | assumption | (intro e; exact absurd e.symm (by assumption))) look_hd), ?_⟩, ?_⟩
    | refine ⟨⟨_, look_tl (by first | assumption | (intro e; exact absurd e.symm (by assumption))) (look_tl (by first | assumption | (intro e; exact absurd e.symm (by assumption))) (look_tl (by first | assumption | (intro e; exact absurd e.symm (by assumption))) look_hd)), ?_⟩, ?_⟩
    | refine ⟨⟨_, look_tl (by first | assumption | (intro e; exact absurd e.symm (by assumption))) (look_tl (by first | assumption | (intro e; exact absurd e.symm (by assumption))) (look_tl (by first | assumption | (intro e; exact absurd e.symm (by assumption))) (look_tl (by first | assumption | (intro e; exact absurd e.symm (by assumption))) look_hd))), ?_⟩, ?_⟩
    | exact .nil _ _
    | exact .rd _ _ _
    | refine LeL.cons ?_ ?_
    | exact LeL.nil
    | refine Le1.of_eq ?_))
  rcases r with _ | x
  · refine ar_callXP (Hp := stS kb ([], [])) (Hr := []) rfl (hf kb) rfl rfl (PArgs.cons (PArg.rd rfl (Le1.refl _) rfl) (PArgs.cons (PArg.rd rfl (Le1.refl _) rfl) PArgs.nil)) rfl rfl (look_lone look_hd) (fun k cs hk => by simp [look_nil] at hk) rfl ?_
    rintro _ _ ⟨rfl, b', rfl⟩
    refine callEnd_pan ?_
    (repeat (first | refine panK_c ?_ | refine panK_b ?_ | refine panK_l ?_ | refine panK_o ?_))
    exact panK_endC0 ⟨rfl, rfl⟩
  · refine ar_callXP (Hp := stS kb ([], [])) (Hr := [(kr, [.v (.slice none 0 0), .v (.slice none 0 0)])]) rfl (hf kb) rfl rfl (PArgs.cons (PArg.rd rfl (Le1.refl _) rfl) (PArgs.cons (PArg.rd rfl (Le1.refl _) rfl) PArgs.nil)) rfl rfl (look_lone look_hd) (look_one (look_tl hkn look_hd) (look_sole hkn)) rfl ?_
    rintro _ _ ⟨rfl, rfl⟩
    refine callEnd_ret ?_
    unfold stS
    repeat (first
      | ((first | apply ar_un | apply stk_un); (next => (first | (simp only [go_sem, Nat.reduceBEq, Nat.reduceEqDiff, reduceIte, reduceCtorEq, String.reduceEq, Nat.reduceAdd, Int.reduceToNat]; exact rfl) | exact rfl)))
      | (apply ar_op' rfl rfl rfl rfl; (next => (first
       | (refine evalE_ok (T := TT) rfl ?_; (first | exact trivial | omega | (simp [NFL] <;> omega)))
       | (apply opk ⟨_, .move _, _, _, _, _⟩; first | exact opv_const (cst_plain _) (.inl rfl) | fail)
       | (apply opk ⟨_, .load _ _, _, _, _, _⟩; first | exact opv_load_el (T := TT) rfl rfl rfl | exact opv_load_els (T := TT) rfl rfl rfl rfl | fail)
       | fail)))
      | (refine arO _ ?_; first
       | (refine arO ⟨_, .move _, _, _, _, _⟩ ?_; first | refine ar_move_sl rfl rfl rfl rfl ?_ | fail)
       | (refine arO ⟨_, .assign _, _, _, _, _⟩ ?_; first
        | refine ar_assign_sl rfl rfl rfl rfl ?_
        | refine ar_op rfl rfl rfl rfl (opv_const (cst_plain _) (.inr rfl)) ?_
        | fail)
       | (refine arO ⟨_, .load _ _, _, _, _, _⟩ ?_; first
        | refine ar_load_own (T := TT) rfl rfl rfl rfl look_hd rfl rfl rfl rfl ?_
        | (refine ar_load_own (T := TT) rfl rfl rfl rfl (look_tl ?_ look_hd) rfl rfl rfl rfl ?_; (next => (first | assumption | (intro e; exact absurd e.symm (by assumption)))))
        | (refine ar_load_own (T := TT) rfl rfl rfl rfl (look_tl ?_ (look_tl ?_ look_hd)) rfl rfl rfl rfl ?_; (next => (first | assumption | (intro e; exact absurd e.symm (by assumption)))); (next => (first | assumption | (intro e; exact absurd e.symm (by assumption)))))
        | fail)
       | (refine arO ⟨_, .store _ _ _, _, _, _, _⟩ ?_; first
        | (apply ar_effM rfl rfl; (next => (first
         | (apply effTo_store_own (T := TT) rfl rfl rfl; (next => (first
          | rfl
          | exact look_hd
          | assumption
          | ((repeat (first | exact look_hd | assumption | (apply look_tl; (next => (first | assumption | (intro e; exact absurd e.symm (by assumption)) | fail))) | fail)); done)
          | fail)); (next => rfl); (next => rfl); (next => rfl))
         | (apply effTo_store (T := TT) rfl; (next => (first
          | rfl
          | exact look_hd
          | assumption
          | ((repeat (first | exact look_hd | assumption | (apply look_tl; (next => (first | assumption | (intro e; exact absurd e.symm (by assumption)) | fail))) | fail)); done)
          | fail)); (next => rfl); (next => rfl); (next => rfl); (next => rfl); (next => rfl); (next => rfl); (next => rfl); (next => rfl))
         | fail)))
        | fail)
       | (refine arO ⟨_, .alloc _, _, _, _, _⟩ ?_; first
        | (refine ar_eff rfl rfl (eff_alloc (T := TT) rfl rfl ?_); intro kb hkb; (repeat (have hkn := (freshK_ne hkb).1; replace hkb := (freshK_ne hkb).2)); (try have hkl := freshK_look hkb); clear hkb; refine ar_nf ?_)
        | fail)
       | (refine arO ⟨_, .load _ _, _, _, _, _⟩ ?_; first
        | (refine ar_op' rfl rfl rfl rfl (opv_load_boxr (T := TT) rfl look_hd rfl rfl rfl rfl) ?_)
        | (refine ar_op' rfl rfl rfl rfl (opv_load_boxr (T := TT) rfl (look_tl ?_ look_hd) rfl rfl rfl rfl) ?_; (next => (first | assumption | (intro e; exact absurd e.symm (by assumption)))))
        | (refine ar_op' rfl rfl rfl rfl (opv_load_boxr (T := TT) rfl (look_tl ?_ (look_tl ?_ look_hd)) rfl rfl rfl rfl) ?_; (next => (first | assumption | (intro e; exact absurd e.symm (by assumption)))); (next => (first | assumption | (intro e; exact absurd e.symm (by assumption)))))
        | fail)
       | fail)
      | refine ar_seq ?_
      | (refine arE ?_; refine ar_endM [0, 2, 3] rfl ?_)
      | refine ar_region ?_
      | refine ar_block ?_
      | refine ar_skip ?_
      | refine ar_blk ?_
      | refine ar_dedup rfl ?_
      | (refine arC (.cond _ _ _) ?_; first
       | (refine ar_cond_true rfl ?_ ?_; (next => (first | rfl | (simp only [decide_eq_true_eq, beq_iff_eq, bne_iff_ne, ge_iff_le, gt_iff_lt, ne_eq, Bool.not_eq_true', decide_eq_false_iff_not]; omega))))
       | (refine ar_cond_false rfl ?_ ?_; (next => (first
        | rfl
        | (simp only [decide_eq_false_iff_not, beq_eq_false_iff_ne, bne_eq_false_iff_eq, ge_iff_le, gt_iff_lt, ne_eq, Bool.not_eq_false', decide_eq_true_eq]; omega))))
       | fail)
      | refine ar_exit ?_
      | refine stk_b_hit ?_
      | refine stk_b_miss rfl ?_
      | refine stk_c_exit ?_
      | refine stk_l_exit ?_
      | (refine arC .ret ?_; refine ar_retM [2] ?_)
      | refine stk_c_ret ?_
      | refine stk_b_ret ?_
      | refine stk_l_ret ?_
      | refine stk_nil ?_
      | fail)
    exact qretC_mk0 (resCA_struct (T := TT) rfl look_hd rfl rfl rfl rfl) ⟨rfl, rfl⟩
end Go.Proofs.Ytophpbihcfdkcaa
