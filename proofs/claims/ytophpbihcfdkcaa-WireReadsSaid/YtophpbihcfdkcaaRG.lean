/- wire.Read, walked over abstract values: a deferred closure recovers. -/
import Derived.Test.YtophpbihcfdkcaaRF
namespace Go.Proofs.Ytophpbihcfdkcaa
open Go.RowKit P
set_option linter.unusedSimpArgs false
set_option linter.unusedVariables false
attribute [local irreducible] AS.nf OpV ARun Stk QSem QSemA ACalls EffOp AppOk SrcOk Awp Aops PanK CallEnd SubS QretC PanOp DefC
set_option maxHeartbeats 8000000

/-- Where series are gathered. -/
def stR (kt : Nat) (L : List Srs) : List (Nat × List AV) := [(kt, [.sl true 2 (L.map srsRow)])]
def PrR (m : Nat) (L : List Srs) : Prop := L.length + m ≤ 20000

set_option maxRecDepth 100000 in
theorem read2_ok (kt : Nat) (L : List Srs) (v : Fld) (m : Nat) (hm : PrR (m + 1) L) (hl : v.bs.length ≤ m) (a' : List Srs) (ha : readStep L v = some a') :
    ACalls Try.prog 44 [fldV v, .v (.pointer (some ⟨kt, 0, none⟩))] (stR kt L) (fun out H' => out = .ret (.tu []) ∧ H' = stR kt a') := by
  unfold PrR at hm
  unfold fldV fldA stR
  refine acalls_enterC TT 11 [] Try.func44 (by kernel_rfl) rfl rfl rfl rfl ?_
  dsimp only [slotsOf]
  unfold readStep at ha
  by_cases h1 : v.num = 1 ∧ v.kind = 2
  · rw [if_pos h1] at ha
    obtain ⟨y, hy, rfl⟩ := Option.map_eq_some_iff.1 ha
    have hc : ACalls Try.prog 46 [.v (.string (mkB v.bs))] [] (fun out H => out = .ret (srsV y) ∧ H = []) := by
      have h := series_a v.bs (by omega)
      rw [hy] at h
      exact h
    have hro := rows_srs y
    repeat (first
      | ((first | apply ar_un | apply stk_un); (next => (first | (simp only [go_sem, Nat.reduceBEq, Nat.reduceEqDiff, reduceIte, reduceCtorEq, String.reduceEq, Nat.reduceAdd, Int.reduceToNat]; exact rfl) | exact rfl)))
      | (apply ar_op' rfl rfl rfl rfl; (next => (first
       | (refine evalE_ok (T := TT) rfl ?_; (first | exact trivial | omega | (simp [NFL] <;> omega)))
       | (apply opk ⟨_, .fieldAddr _ _ _, _, _, _, _⟩; first
        | exact opv_field_el (T := TT) rfl rfl rfl rfl rfl rfl
        | exact opv_field_box (T := TT) rfl rfl rfl rfl rfl
        | fail)
       | (apply opk ⟨_, .load _ _, _, _, _, _⟩; first | exact opv_load_el (T := TT) rfl rfl rfl | exact opv_load_els (T := TT) rfl rfl rfl rfl | fail)
       | (apply opk ⟨_, .buildSlice _ _ _, _, _, _, _⟩; first | exact opv_build_slice (T := TT) rfl rfl rfl rfl rfl rfl rfl | fail)
       | fail)))
      | (refine arO _ ?_; first
       | (refine arO ⟨_, .move _, _, _, _, _⟩ ?_; first | refine ar_move_sl rfl rfl rfl rfl ?_ | fail)
       | (refine arO ⟨_, .assign _, _, _, _, _⟩ ?_; first
        | refine ar_assign_sl rfl rfl rfl rfl ?_
        | refine ar_op rfl rfl rfl rfl (opv_const (cst_plain _) (.inr rfl)) ?_
        | fail)
       | (refine arO ⟨_, .load _ _, _, _, _, _⟩ ?_; first
        | refine ar_load_own (T := TT) rfl rfl rfl rfl look_hd rfl rfl rfl rfl ?_
        | (refine ar_load_own (T := TT) rfl rfl rfl rfl (look_tl ?_ look_hd) rfl rfl rfl rfl ?_; (next => (first | assumption | (intro e; exact absurd e.symm (by assumption)))))
        | (refine ar_load_own (T := TT) rfl rfl rfl rfl (look_tl ?_ (look_tl ?_ look_hd)) rfl rfl rfl rfl ?_; (next => (first | assumption | (intro e; exact absurd e.symm (by assumption)))); (next => (first | assumption | (intro e; exact absurd e.symm (by assumption)))))
        | fail)
       | (refine arO ⟨_, .call { callee := .builtin .append, args := _, argTypes := _ }, _, _, _, _⟩ ?_; first
        | (apply ar_effM rfl rfl; (next => (first
         | (apply effTo_append (T := TT) rfl rfl rfl rfl rfl rfl rfl rfl rfl rfl; (next => (first | exact trivial | exact rowsOne_byteA _ | assumption | (simp [RowsOne, AV.one, AV.rd, AV.cells, cst, Value.oneCell'] <;> omega))); (next => (first | omega | (simp [NFL] <;> omega))))
         | (apply effTo_append (T := TT) rfl (own_c look_hd rfl) rfl rfl rfl rfl rfl rfl rfl rfl; (next => (first | exact trivial | exact rowsOne_byteA _ | assumption | (simp [RowsOne, AV.one, AV.rd, AV.cells, cst, Value.oneCell'] <;> omega))); (next => (first | omega | (simp [NFL] <;> omega))))
         | (apply effTo_append (T := TT) rfl (own_c (look_tl (by first | assumption | (intro e; exact absurd e.symm (by assumption))) look_hd) rfl) rfl rfl rfl rfl rfl rfl rfl rfl; (next => (first | exact trivial | exact rowsOne_byteA _ | assumption | (simp [RowsOne, AV.one, AV.rd, AV.cells, cst, Value.oneCell'] <;> omega))); (next => (first | omega | (simp [NFL] <;> omega))))
         | (apply effTo_append_nil (T := TT) rfl rfl rfl rfl rfl rfl rfl rfl rfl; (next => (first | exact trivial | exact rowsOne_byteA _ | assumption | (simp [RowsOne, AV.one, AV.rd, AV.cells, cst, Value.oneCell'] <;> omega))); (next => (first | omega | (simp [NFL] <;> omega))))
         | fail)))
        | fail)
       | (refine arO ⟨_, .store _ _ _, _, _, _, _⟩ ?_; first
        | (apply ar_effM rfl rfl; (next => (first
         | (apply effTo_store_own (T := TT) rfl rfl rfl; (next => (first
          | rfl
          | exact look_hd
          | assumption
          | ((repeat (first | exact look_hd | assumption | (apply look_tl; (next => (first | assumption | (intro e; exact absurd e.symm (by assumption)) | fail))) | fail)); done)
          | fail)); (next => rfl); (next => rfl); (next => rfl))
         | (apply effTo_store (T := TT) rfl; (next => (first
          | rfl
          | exact look_hd
          | assumption
          | ((repeat (first | exact look_hd | assumption | (apply look_tl; (next => (first | assumption | (intro e; exact absurd e.symm (by assumption)) | fail))) | fail)); done)
          | fail)); (next => rfl); (next => rfl); (next => rfl); (next => rfl); (next => rfl); (next => rfl); (next => rfl); (next => rfl))
         | fail)))
        | fail)
       | (refine arO ⟨_, .box _ _, _, _, _, _⟩ ?_; first
        | (refine ar_eff rfl rfl (eff_boxB rfl rfl rfl rfl ?_); intro kb hkb; (repeat (have hkn := (freshK_ne hkb).1; replace hkb := (freshK_ne hkb).2)); (try have hkl := freshK_look hkb); clear hkb; refine ar_nf ?_)
        | fail)
       | (refine arO ⟨_, .load _ _, _, _, _, _⟩ ?_; first
        | (refine ar_op' rfl rfl rfl rfl (opv_load_boxr (T := TT) rfl look_hd rfl rfl rfl rfl) ?_)
        | (refine ar_op' rfl rfl rfl rfl (opv_load_boxr (T := TT) rfl (look_tl ?_ look_hd) rfl rfl rfl rfl) ?_; (next => (first | assumption | (intro e; exact absurd e.symm (by assumption)))))
        | (refine ar_op' rfl rfl rfl rfl (opv_load_boxr (T := TT) rfl (look_tl ?_ (look_tl ?_ look_hd)) rfl rfl rfl rfl) ?_; (next => (first | assumption | (intro e; exact absurd e.symm (by assumption)))); (next => (first | assumption | (intro e; exact absurd e.symm (by assumption)))))
        | fail)
       | (refine arO ⟨_, .call { callee := .value _, args := _, argTypes := _ }, _, _, _, _⟩ ?_; first
        | (apply ar_callM0 rfl (is_a v.num v.kind v.n 1 2 v.bs) rfl rfl; (next => (repeat (first
         | exact PArgs.nil
         | (apply PArgs.cons; (next => (first
          | exact PArg.own rfl rfl
          | exact PArg.rd rfl (Le1.refl _) rfl
          | exact PArg.rd rfl (Le1.rd _ _ _) rfl
          | exact PArg.nil rfl
          | exact PArg.rd rfl (Le1.nil _ _) rfl
          | (refine PArg.rd rfl (Le1.of_eq ?_) rfl; congr 2 <;> (first | omega | (simp; omega) | (simp [NFL]; done))))))))); (next => rfl); (next => rfl); rintro _ _ ⟨rfl, rfl⟩; refine ⟨_, rfl, ?_⟩)
        | fail)
       | fail)
      | refine ar_seq ?_
      | (refine arE ?_; refine ar_endM [0, 1, 2, 4] rfl ?_)
      | refine ar_region ?_
      | refine ar_block ?_
      | refine ar_skip ?_
      | refine ar_blk ?_
      | refine ar_dedup rfl ?_
      | (refine arC (.cond _ _ _) ?_; first
       | (refine ar_cond_true rfl ?_ ?_; (next => (first | rfl | (simp only [decide_eq_true_eq, beq_iff_eq, bne_iff_ne, ge_iff_le, gt_iff_lt, ne_eq, Bool.not_eq_true', decide_eq_false_iff_not]; omega))))
       | (refine ar_cond_false rfl ?_ ?_; (next => (first
        | rfl
        | (simp only [decide_eq_false_iff_not, beq_eq_false_iff_ne, bne_eq_false_iff_eq, ge_iff_le, gt_iff_lt, ne_eq, Bool.not_eq_false', decide_eq_true_eq]; omega))))
       | fail)
      | refine ar_exit ?_
      | refine stk_b_hit ?_
      | refine stk_b_miss rfl ?_
      | refine stk_c_exit ?_
      | refine stk_l_exit ?_
      | (refine arC .ret ?_; refine ar_retM [] ?_)
      | refine stk_c_ret ?_
      | refine stk_b_ret ?_
      | refine stk_l_ret ?_
      | refine stk_nil ?_
      | fail)
    refine ar_boxes _ rfl (look_swap2 hkn) ?_
    refine ar_nop (ar_drawA (⟨5, 0, 5, 10, kt, 0, 2, L.map srsRow, [srsRow y]⟩) mixed (body := List.dropLast _) (ow := List.getLast _ (by simp)) (List.dropLast_concat_getLast _).symm (by kernel_rfl) rfl (by first | rfl | exact own_c look_hd rfl | exact own_c (look_tl (by first | assumption | (intro e; exact absurd e.symm (by assumption))) look_hd) rfl | (simp [AS.own, AppIn.r, look_cons, own1, AS.put, AS.lay] <;> omega)) ?_)
    repeat (first
      | (apply qa_op rfl rfl rfl rfl rfl; (next => (apply opv_call hc; (next => rfl); (next => ((repeat' (first | exact LeL.refl _ | exact .refl _ | exact .nil _ _ | exact .rd _ _ _ | refine LeL.cons ?_ ?_ | exact LeL.nil | refine Le1.of_eq ?_ | rfl)))); (next => rfl))))
      | (apply qa_op rfl rfl rfl rfl rfl; (next => (first
       | (refine evalE_ok (T := TT) rfl ?_; (first | exact trivial | omega | (simp [NFL] <;> omega)))
       | (apply opk ⟨_, .fieldAddr _ _ _, _, _, _, _⟩; first
        | exact opv_field_el (T := TT) rfl rfl rfl rfl rfl rfl
        | exact opv_field_box (T := TT) rfl rfl rfl rfl rfl
        | fail)
       | (apply opk ⟨_, .load _ _, _, _, _, _⟩; first
        | exact opv_load_el (T := TT) rfl rfl rfl
        | exact opv_load_els (T := TT) rfl rfl rfl rfl
        | (apply opv_load_box (T := TT) rfl; (next => (first
         | rfl
         | exact look_hd
         | assumption
         | ((repeat (first | exact look_hd | assumption | (apply look_tl; (next => (first | assumption | (intro e; exact absurd e.symm (by assumption)) | fail))) | fail)); done)
         | fail)); (next => rfl); (next => rfl); (next => rfl); (next => rfl))
        | fail)
       | (apply opk ⟨_, .buildSlice _ _ _, _, _, _, _⟩; first | exact opv_build_slice (T := TT) rfl rfl rfl rfl rfl rfl rfl | fail)
       | fail)))
      | refine qa_src rfl rfl rfl rfl (opv_load_box (T := TT) rfl look_hd rfl rfl rfl rfl) (src_load (T := TT) rfl rfl look_hd rfl rfl rfl rfl) ?_
      | (refine qa_src rfl rfl rfl rfl (opv_load_box (T := TT) rfl (look_tl ?_ look_hd) rfl rfl rfl rfl) (src_load (T := TT) rfl rfl (look_tl ?_ look_hd) rfl rfl rfl rfl) ?_; (next => (first | assumption | (intro e; exact absurd e.symm (by assumption)))); (next => (first | assumption | (intro e; exact absurd e.symm (by assumption)))))
      | (refine qa_src rfl rfl rfl rfl (opv_load_box (T := TT) rfl (look_tl ?_ (look_tl ?_ look_hd)) rfl rfl rfl rfl) (src_load (T := TT) rfl rfl (look_tl ?_ (look_tl ?_ look_hd)) rfl rfl rfl rfl) ?_; (next => (first | assumption | (intro e; exact absurd e.symm (by assumption)))); (next => (first | assumption | (intro e; exact absurd e.symm (by assumption)))); (next => (first | assumption | (intro e; exact absurd e.symm (by assumption)))); (next => (first | assumption | (intro e; exact absurd e.symm (by assumption)))))
      | (refine qa_app rfl rfl rfl (app_ok (T := TT) rfl rfl rfl ?_ rfl rfl (adds_rel ?_) rfl ?_) ?_; (next => (first | exact .inl rfl | exact .inr ⟨_, rfl⟩)); (next => (first | exact rowsOne_byteA _ | assumption | (simp [RowsOne, AV.one, AV.rd, AV.cells, cst, Value.oneCell'] <;> omega))); (next => (first | omega | (simp [NFL] <;> omega))))
      | fail)
    refine qa_nil ⟨rfl, ?_⟩
    simp only [List.getLast_cons_cons, List.getLast_singleton]
    refine eff_nf ?_
    (apply eff_un; (next => ((first | (simp only [go_sem, Nat.reduceBEq, Nat.reduceEqDiff, reduceIte, reduceCtorEq, String.reduceEq, Nat.reduceAdd, Int.reduceToNat]; exact rfl) | exact rfl))))
    (apply effM; (next => (first
      | (apply effTo_store_own (T := TT) rfl rfl rfl; (next => (first
       | rfl
       | exact look_hd
       | assumption
       | ((repeat (first | exact look_hd | assumption | (apply look_tl; (next => (first | assumption | (intro e; exact absurd e.symm (by assumption)) | fail))) | fail)); done)
       | fail)); (next => rfl); (next => rfl); (next => rfl))
      | (apply effTo_store (T := TT) rfl; (next => (first
       | rfl
       | exact look_hd
       | assumption
       | ((repeat (first | exact look_hd | assumption | (apply look_tl; (next => (first | assumption | (intro e; exact absurd e.symm (by assumption)) | fail))) | fail)); done)
       | fail)); (next => rfl); (next => rfl); (next => rfl); (next => rfl); (next => rfl); (next => rfl); (next => rfl); (next => rfl))
      | fail)))
    refine ar_endM [0, 1, 2, 4] rfl ?_
    repeat (first
      | ((first | apply ar_un | apply stk_un); (next => (first | (simp only [go_sem, Nat.reduceBEq, Nat.reduceEqDiff, reduceIte, reduceCtorEq, String.reduceEq, Nat.reduceAdd, Int.reduceToNat]; exact rfl) | exact rfl)))
      | (apply ar_op' rfl rfl rfl rfl; (next => (first
       | (refine evalE_ok (T := TT) rfl ?_; (first | exact trivial | omega | (simp [NFL] <;> omega)))
       | (apply opk ⟨_, .fieldAddr _ _ _, _, _, _, _⟩; first
        | exact opv_field_el (T := TT) rfl rfl rfl rfl rfl rfl
        | exact opv_field_box (T := TT) rfl rfl rfl rfl rfl
        | fail)
       | (apply opk ⟨_, .load _ _, _, _, _, _⟩; first | exact opv_load_el (T := TT) rfl rfl rfl | exact opv_load_els (T := TT) rfl rfl rfl rfl | fail)
       | (apply opk ⟨_, .buildSlice _ _ _, _, _, _, _⟩; first | exact opv_build_slice (T := TT) rfl rfl rfl rfl rfl rfl rfl | fail)
       | fail)))
      | (refine arO _ ?_; first
       | (refine arO ⟨_, .move _, _, _, _, _⟩ ?_; first | refine ar_move_sl rfl rfl rfl rfl ?_ | fail)
       | (refine arO ⟨_, .assign _, _, _, _, _⟩ ?_; first
        | refine ar_assign_sl rfl rfl rfl rfl ?_
        | refine ar_op rfl rfl rfl rfl (opv_const (cst_plain _) (.inr rfl)) ?_
        | fail)
       | (refine arO ⟨_, .load _ _, _, _, _, _⟩ ?_; first
        | refine ar_load_own (T := TT) rfl rfl rfl rfl look_hd rfl rfl rfl rfl ?_
        | (refine ar_load_own (T := TT) rfl rfl rfl rfl (look_tl ?_ look_hd) rfl rfl rfl rfl ?_; (next => (first | assumption | (intro e; exact absurd e.symm (by assumption)))))
        | (refine ar_load_own (T := TT) rfl rfl rfl rfl (look_tl ?_ (look_tl ?_ look_hd)) rfl rfl rfl rfl ?_; (next => (first | assumption | (intro e; exact absurd e.symm (by assumption)))); (next => (first | assumption | (intro e; exact absurd e.symm (by assumption)))))
        | fail)
       | (refine arO ⟨_, .call { callee := .builtin .append, args := _, argTypes := _ }, _, _, _, _⟩ ?_; first
        | (apply ar_effM rfl rfl; (next => (first
         | (apply effTo_append (T := TT) rfl rfl rfl rfl rfl rfl rfl rfl rfl rfl; (next => (first | exact trivial | exact rowsOne_byteA _ | assumption | (simp [RowsOne, AV.one, AV.rd, AV.cells, cst, Value.oneCell'] <;> omega))); (next => (first | omega | (simp [NFL] <;> omega))))
         | (apply effTo_append (T := TT) rfl (own_c look_hd rfl) rfl rfl rfl rfl rfl rfl rfl rfl; (next => (first | exact trivial | exact rowsOne_byteA _ | assumption | (simp [RowsOne, AV.one, AV.rd, AV.cells, cst, Value.oneCell'] <;> omega))); (next => (first | omega | (simp [NFL] <;> omega))))
         | (apply effTo_append (T := TT) rfl (own_c (look_tl (by first | assumption | (intro e; exact absurd e.symm (by assumption))) look_hd) rfl) rfl rfl rfl rfl rfl rfl rfl rfl; (next => (first | exact trivial | exact rowsOne_byteA _ | assumption | (simp [RowsOne, AV.one, AV.rd, AV.cells, cst, Value.oneCell'] <;> omega))); (next => (first | omega | (simp [NFL] <;> omega))))
         | (apply effTo_append_nil (T := TT) rfl rfl rfl rfl rfl rfl rfl rfl rfl; (next => (first | exact trivial | exact rowsOne_byteA _ | assumption | (simp [RowsOne, AV.one, AV.rd, AV.cells, cst, Value.oneCell'] <;> omega))); (next => (first | omega | (simp [NFL] <;> omega))))
         | fail)))
        | fail)
       | (refine arO ⟨_, .store _ _ _, _, _, _, _⟩ ?_; first
        | (apply ar_effM rfl rfl; (next => (first
         | (apply effTo_store_own (T := TT) rfl rfl rfl; (next => (first
          | rfl
          | exact look_hd
          | assumption
          | ((repeat (first | exact look_hd | assumption | (apply look_tl; (next => (first | assumption | (intro e; exact absurd e.symm (by assumption)) | fail))) | fail)); done)
          | fail)); (next => rfl); (next => rfl); (next => rfl))
         | (apply effTo_store (T := TT) rfl; (next => (first
          | rfl
          | exact look_hd
          | assumption
          | ((repeat (first | exact look_hd | assumption | (apply look_tl; (next => (first | assumption | (intro e; exact absurd e.symm (by assumption)) | fail))) | fail)); done)
          | fail)); (next => rfl); (next => rfl); (next => rfl); (next => rfl); (next => rfl); (next => rfl); (next => rfl); (next => rfl))
         | fail)))
        | fail)
       | (refine arO ⟨_, .box _ _, _, _, _, _⟩ ?_; first
        | (refine ar_eff rfl rfl (eff_boxB rfl rfl rfl rfl ?_); intro kb hkb; (repeat (have hkn := (freshK_ne hkb).1; replace hkb := (freshK_ne hkb).2)); (try have hkl := freshK_look hkb); clear hkb; refine ar_nf ?_)
        | fail)
       | fail)
      | refine ar_seq ?_
      | (refine arE ?_; refine ar_endM [0, 1, 2, 4] rfl ?_)
      | refine ar_region ?_
      | refine ar_block ?_
      | refine ar_skip ?_
      | refine ar_blk ?_
      | refine ar_dedup rfl ?_
      | (refine arC (.cond _ _ _) ?_; first
       | (refine ar_cond_true rfl ?_ ?_; (next => (first | rfl | (simp only [decide_eq_true_eq, beq_iff_eq, bne_iff_ne, ge_iff_le, gt_iff_lt, ne_eq, Bool.not_eq_true', decide_eq_false_iff_not]; omega))))
       | (refine ar_cond_false rfl ?_ ?_; (next => (first
        | rfl
        | (simp only [decide_eq_false_iff_not, beq_eq_false_iff_ne, bne_eq_false_iff_eq, ge_iff_le, gt_iff_lt, ne_eq, Bool.not_eq_false', decide_eq_true_eq]; omega))))
       | fail)
      | refine ar_exit ?_
      | refine stk_b_hit ?_
      | refine stk_b_miss rfl ?_
      | refine stk_c_exit ?_
      | refine stk_l_exit ?_
      | (refine arC .ret ?_; refine ar_retM [] ?_)
      | refine stk_c_ret ?_
      | refine stk_b_ret ?_
      | refine stk_l_ret ?_
      | refine stk_nil ?_
      | fail)
    refine ar_nil (qretC_mkN _ rfl (look_lone look_hd) ⟨rfl, ?_⟩)
    simp only [List.map_append, List.map_cons, List.map_nil]
  · rw [if_neg h1] at ha
    cases ha
    repeat (first
      | ((first | apply ar_un | apply stk_un); (next => (first | (simp only [go_sem, Nat.reduceBEq, Nat.reduceEqDiff, reduceIte, reduceCtorEq, String.reduceEq, Nat.reduceAdd, Int.reduceToNat]; exact rfl) | exact rfl)))
      | (apply ar_op' rfl rfl rfl rfl; (next => (first
       | (refine evalE_ok (T := TT) rfl ?_; (first | exact trivial | omega | (simp [NFL] <;> omega)))
       | (apply opk ⟨_, .fieldAddr _ _ _, _, _, _, _⟩; first
        | exact opv_field_el (T := TT) rfl rfl rfl rfl rfl rfl
        | exact opv_field_box (T := TT) rfl rfl rfl rfl rfl
        | fail)
       | (apply opk ⟨_, .load _ _, _, _, _, _⟩; first | exact opv_load_el (T := TT) rfl rfl rfl | exact opv_load_els (T := TT) rfl rfl rfl rfl | fail)
       | (apply opk ⟨_, .buildSlice _ _ _, _, _, _, _⟩; first | exact opv_build_slice (T := TT) rfl rfl rfl rfl rfl rfl rfl | fail)
       | fail)))
      | (refine arO _ ?_; first
       | (refine arO ⟨_, .move _, _, _, _, _⟩ ?_; first | refine ar_move_sl rfl rfl rfl rfl ?_ | fail)
       | (refine arO ⟨_, .assign _, _, _, _, _⟩ ?_; first
        | refine ar_assign_sl rfl rfl rfl rfl ?_
        | refine ar_op rfl rfl rfl rfl (opv_const (cst_plain _) (.inr rfl)) ?_
        | fail)
       | (refine arO ⟨_, .load _ _, _, _, _, _⟩ ?_; first
        | refine ar_load_own (T := TT) rfl rfl rfl rfl look_hd rfl rfl rfl rfl ?_
        | (refine ar_load_own (T := TT) rfl rfl rfl rfl (look_tl ?_ look_hd) rfl rfl rfl rfl ?_; (next => (first | assumption | (intro e; exact absurd e.symm (by assumption)))))
        | (refine ar_load_own (T := TT) rfl rfl rfl rfl (look_tl ?_ (look_tl ?_ look_hd)) rfl rfl rfl rfl ?_; (next => (first | assumption | (intro e; exact absurd e.symm (by assumption)))); (next => (first | assumption | (intro e; exact absurd e.symm (by assumption)))))
        | fail)
       | (refine arO ⟨_, .call { callee := .builtin .append, args := _, argTypes := _ }, _, _, _, _⟩ ?_; first
        | (apply ar_effM rfl rfl; (next => (first
         | (apply effTo_append (T := TT) rfl rfl rfl rfl rfl rfl rfl rfl rfl rfl; (next => (first | exact trivial | exact rowsOne_byteA _ | assumption | (simp [RowsOne, AV.one, AV.rd, AV.cells, cst, Value.oneCell'] <;> omega))); (next => (first | omega | (simp [NFL] <;> omega))))
         | (apply effTo_append (T := TT) rfl (own_c look_hd rfl) rfl rfl rfl rfl rfl rfl rfl rfl; (next => (first | exact trivial | exact rowsOne_byteA _ | assumption | (simp [RowsOne, AV.one, AV.rd, AV.cells, cst, Value.oneCell'] <;> omega))); (next => (first | omega | (simp [NFL] <;> omega))))
         | (apply effTo_append (T := TT) rfl (own_c (look_tl (by first | assumption | (intro e; exact absurd e.symm (by assumption))) look_hd) rfl) rfl rfl rfl rfl rfl rfl rfl rfl; (next => (first | exact trivial | exact rowsOne_byteA _ | assumption | (simp [RowsOne, AV.one, AV.rd, AV.cells, cst, Value.oneCell'] <;> omega))); (next => (first | omega | (simp [NFL] <;> omega))))
         | (apply effTo_append_nil (T := TT) rfl rfl rfl rfl rfl rfl rfl rfl rfl; (next => (first | exact trivial | exact rowsOne_byteA _ | assumption | (simp [RowsOne, AV.one, AV.rd, AV.cells, cst, Value.oneCell'] <;> omega))); (next => (first | omega | (simp [NFL] <;> omega))))
         | fail)))
        | fail)
       | (refine arO ⟨_, .store _ _ _, _, _, _, _⟩ ?_; first
        | (apply ar_effM rfl rfl; (next => (first
         | (apply effTo_store_own (T := TT) rfl rfl rfl; (next => (first
          | rfl
          | exact look_hd
          | assumption
          | ((repeat (first | exact look_hd | assumption | (apply look_tl; (next => (first | assumption | (intro e; exact absurd e.symm (by assumption)) | fail))) | fail)); done)
          | fail)); (next => rfl); (next => rfl); (next => rfl))
         | (apply effTo_store (T := TT) rfl; (next => (first
          | rfl
          | exact look_hd
          | assumption
          | ((repeat (first | exact look_hd | assumption | (apply look_tl; (next => (first | assumption | (intro e; exact absurd e.symm (by assumption)) | fail))) | fail)); done)
          | fail)); (next => rfl); (next => rfl); (next => rfl); (next => rfl); (next => rfl); (next => rfl); (next => rfl); (next => rfl))
         | fail)))
        | fail)
       | (refine arO ⟨_, .box _ _, _, _, _, _⟩ ?_; first
        | (refine ar_eff rfl rfl (eff_boxB rfl rfl rfl rfl ?_); intro kb hkb; (repeat (have hkn := (freshK_ne hkb).1; replace hkb := (freshK_ne hkb).2)); (try have hkl := freshK_look hkb); clear hkb; refine ar_nf ?_)
        | fail)
       | (refine arO ⟨_, .load _ _, _, _, _, _⟩ ?_; first
        | (refine ar_op' rfl rfl rfl rfl (opv_load_boxr (T := TT) rfl look_hd rfl rfl rfl rfl) ?_)
        | (refine ar_op' rfl rfl rfl rfl (opv_load_boxr (T := TT) rfl (look_tl ?_ look_hd) rfl rfl rfl rfl) ?_; (next => (first | assumption | (intro e; exact absurd e.symm (by assumption)))))
        | (refine ar_op' rfl rfl rfl rfl (opv_load_boxr (T := TT) rfl (look_tl ?_ (look_tl ?_ look_hd)) rfl rfl rfl rfl) ?_; (next => (first | assumption | (intro e; exact absurd e.symm (by assumption)))); (next => (first | assumption | (intro e; exact absurd e.symm (by assumption)))))
        | fail)
       | (refine arO ⟨_, .call { callee := .value _, args := _, argTypes := _ }, _, _, _, _⟩ ?_; first
        | (apply ar_callM0 rfl (is_a v.num v.kind v.n 1 2 v.bs) rfl rfl; (next => (repeat (first
         | exact PArgs.nil
         | (apply PArgs.cons; (next => (first
          | exact PArg.own rfl rfl
          | exact PArg.rd rfl (Le1.refl _) rfl
          | exact PArg.rd rfl (Le1.rd _ _ _) rfl
          | exact PArg.nil rfl
          | exact PArg.rd rfl (Le1.nil _ _) rfl
          | (refine PArg.rd rfl (Le1.of_eq ?_) rfl; congr 2 <;> (first | omega | (simp; omega) | (simp [NFL]; done))))))))); (next => rfl); (next => rfl); rintro _ _ ⟨rfl, rfl⟩; refine ⟨_, rfl, ?_⟩)
        | fail)
       | fail)
      | refine ar_seq ?_
      | (refine arE ?_; refine ar_endM [0, 1, 2, 4] rfl ?_)
      | refine ar_region ?_
      | refine ar_block ?_
      | refine ar_skip ?_
      | refine ar_blk ?_
      | refine ar_dedup rfl ?_
      | (refine arC (.cond _ _ _) ?_; first
       | (refine ar_cond_true rfl ?_ ?_; (next => (first | rfl | (simp only [decide_eq_true_eq, beq_iff_eq, bne_iff_ne, ge_iff_le, gt_iff_lt, ne_eq, Bool.not_eq_true', decide_eq_false_iff_not]; omega))))
       | (refine ar_cond_false rfl ?_ ?_; (next => (first
        | rfl
        | (simp only [decide_eq_false_iff_not, beq_eq_false_iff_ne, bne_eq_false_iff_eq, ge_iff_le, gt_iff_lt, ne_eq, Bool.not_eq_false', decide_eq_true_eq]; omega))))
       | fail)
      | refine ar_exit ?_
      | refine stk_b_hit ?_
      | refine stk_b_miss rfl ?_
      | refine stk_c_exit ?_
      | refine stk_l_exit ?_
      | (refine arC .ret ?_; refine ar_retM [] ?_)
      | refine stk_c_ret ?_
      | refine stk_b_ret ?_
      | refine stk_l_ret ?_
      | refine stk_nil ?_
      | fail)
    exact ar_nil (qretC_mkN _ rfl (look_lone (look_tl hkn look_hd)) ⟨rfl, rfl⟩)

set_option maxRecDepth 100000 in
theorem read2_bad (kt : Nat) (L : List Srs) (v : Fld) (m : Nat) (hm : PrR (m + 1) L) (hl : v.bs.length ≤ m) (ha : readStep L v = none) :
    ACalls Try.prog 44 [fldV v, .v (.pointer (some ⟨kt, 0, none⟩))] (stR kt L) (fun out H' => out = .pan wrongV ∧ ∃ b, H' = stR kt b) := by
  unfold PrR at hm
  have hst : ∃ b, stR kt L = stR kt b := ⟨L, rfl⟩
  unfold fldV fldA
  generalize hH : stR kt L = H0 at hst
  unfold stR at hH
  subst hH
  refine acalls_enterC TT 11 [] Try.func44 (by kernel_rfl) rfl rfl rfl rfl ?_
  dsimp only [slotsOf]
  unfold readStep at ha
  by_cases h1 : v.num = 1 ∧ v.kind = 2
  · rw [if_pos h1] at ha
    have hy := Option.map_eq_none_iff.1 ha
    have hc : ACalls Try.prog 46 [.v (.string (mkB v.bs))] [] (fun out H => out = .pan wrongV ∧ H = []) := by
      have h := series_a v.bs (by omega)
      rw [hy] at h
      exact h
    repeat (first
      | ((first | apply ar_un | apply stk_un); (next => (first | (simp only [go_sem, Nat.reduceBEq, Nat.reduceEqDiff, reduceIte, reduceCtorEq, String.reduceEq, Nat.reduceAdd, Int.reduceToNat]; exact rfl) | exact rfl)))
      | (apply ar_op' rfl rfl rfl rfl; (next => (first
       | (refine evalE_ok (T := TT) rfl ?_; (first | exact trivial | omega | (simp [NFL] <;> omega)))
       | (apply opk ⟨_, .fieldAddr _ _ _, _, _, _, _⟩; first
        | exact opv_field_el (T := TT) rfl rfl rfl rfl rfl rfl
        | exact opv_field_box (T := TT) rfl rfl rfl rfl rfl
        | fail)
       | (apply opk ⟨_, .load _ _, _, _, _, _⟩; first | exact opv_load_el (T := TT) rfl rfl rfl | exact opv_load_els (T := TT) rfl rfl rfl rfl | fail)
       | (apply opk ⟨_, .buildSlice _ _ _, _, _, _, _⟩; first | exact opv_build_slice (T := TT) rfl rfl rfl rfl rfl rfl rfl | fail)
       | fail)))
      | (refine arO _ ?_; first
       | (refine arO ⟨_, .move _, _, _, _, _⟩ ?_; first | refine ar_move_sl rfl rfl rfl rfl ?_ | fail)
       | (refine arO ⟨_, .assign _, _, _, _, _⟩ ?_; first
        | refine ar_assign_sl rfl rfl rfl rfl ?_
        | refine ar_op rfl rfl rfl rfl (opv_const (cst_plain _) (.inr rfl)) ?_
        | fail)
       | (refine arO ⟨_, .load _ _, _, _, _, _⟩ ?_; first
        | refine ar_load_own (T := TT) rfl rfl rfl rfl look_hd rfl rfl rfl rfl ?_
        | (refine ar_load_own (T := TT) rfl rfl rfl rfl (look_tl ?_ look_hd) rfl rfl rfl rfl ?_; (next => (first | assumption | (intro e; exact absurd e.symm (by assumption)))))
        | (refine ar_load_own (T := TT) rfl rfl rfl rfl (look_tl ?_ (look_tl ?_ look_hd)) rfl rfl rfl rfl ?_; (next => (first | assumption | (intro e; exact absurd e.symm (by assumption)))); (next => (first | assumption | (intro e; exact absurd e.symm (by assumption)))))
        | fail)
       | (refine arO ⟨_, .call { callee := .builtin .append, args := _, argTypes := _ }, _, _, _, _⟩ ?_; first
        | (apply ar_effM rfl rfl; (next => (first
         | (apply effTo_append (T := TT) rfl rfl rfl rfl rfl rfl rfl rfl rfl rfl; (next => (first | exact trivial | exact rowsOne_byteA _ | assumption | (simp [RowsOne, AV.one, AV.rd, AV.cells, cst, Value.oneCell'] <;> omega))); (next => (first | omega | (simp [NFL] <;> omega))))
         | (apply effTo_append (T := TT) rfl (own_c look_hd rfl) rfl rfl rfl rfl rfl rfl rfl rfl; (next => (first | exact trivial | exact rowsOne_byteA _ | assumption | (simp [RowsOne, AV.one, AV.rd, AV.cells, cst, Value.oneCell'] <;> omega))); (next => (first | omega | (simp [NFL] <;> omega))))
         | (apply effTo_append (T := TT) rfl (own_c (look_tl (by first | assumption | (intro e; exact absurd e.symm (by assumption))) look_hd) rfl) rfl rfl rfl rfl rfl rfl rfl rfl; (next => (first | exact trivial | exact rowsOne_byteA _ | assumption | (simp [RowsOne, AV.one, AV.rd, AV.cells, cst, Value.oneCell'] <;> omega))); (next => (first | omega | (simp [NFL] <;> omega))))
         | (apply effTo_append_nil (T := TT) rfl rfl rfl rfl rfl rfl rfl rfl rfl; (next => (first | exact trivial | exact rowsOne_byteA _ | assumption | (simp [RowsOne, AV.one, AV.rd, AV.cells, cst, Value.oneCell'] <;> omega))); (next => (first | omega | (simp [NFL] <;> omega))))
         | fail)))
        | fail)
       | (refine arO ⟨_, .store _ _ _, _, _, _, _⟩ ?_; first
        | (apply ar_effM rfl rfl; (next => (first
         | (apply effTo_store_own (T := TT) rfl rfl rfl; (next => (first
          | rfl
          | exact look_hd
          | assumption
          | ((repeat (first | exact look_hd | assumption | (apply look_tl; (next => (first | assumption | (intro e; exact absurd e.symm (by assumption)) | fail))) | fail)); done)
          | fail)); (next => rfl); (next => rfl); (next => rfl))
         | (apply effTo_store (T := TT) rfl; (next => (first
          | rfl
          | exact look_hd
          | assumption
          | ((repeat (first | exact look_hd | assumption | (apply look_tl; (next => (first | assumption | (intro e; exact absurd e.symm (by assumption)) | fail))) | fail)); done)
          | fail)); (next => rfl); (next => rfl); (next => rfl); (next => rfl); (next => rfl); (next => rfl); (next => rfl); (next => rfl))
         | fail)))
        | fail)
       | (refine arO ⟨_, .box _ _, _, _, _, _⟩ ?_; first
        | (refine ar_eff rfl rfl (eff_boxB rfl rfl rfl rfl ?_); intro kb hkb; (repeat (have hkn := (freshK_ne hkb).1; replace hkb := (freshK_ne hkb).2)); (try have hkl := freshK_look hkb); clear hkb; refine ar_nf ?_)
        | fail)
       | (refine arO ⟨_, .load _ _, _, _, _, _⟩ ?_; first
        | (refine ar_op' rfl rfl rfl rfl (opv_load_boxr (T := TT) rfl look_hd rfl rfl rfl rfl) ?_)
        | (refine ar_op' rfl rfl rfl rfl (opv_load_boxr (T := TT) rfl (look_tl ?_ look_hd) rfl rfl rfl rfl) ?_; (next => (first | assumption | (intro e; exact absurd e.symm (by assumption)))))
        | (refine ar_op' rfl rfl rfl rfl (opv_load_boxr (T := TT) rfl (look_tl ?_ (look_tl ?_ look_hd)) rfl rfl rfl rfl) ?_; (next => (first | assumption | (intro e; exact absurd e.symm (by assumption)))); (next => (first | assumption | (intro e; exact absurd e.symm (by assumption)))))
        | fail)
       | (refine arO ⟨_, .call { callee := .value _, args := _, argTypes := _ }, _, _, _, _⟩ ?_; first
        | (apply ar_callM0 rfl (is_a v.num v.kind v.n 1 2 v.bs) rfl rfl; (next => (repeat (first
         | exact PArgs.nil
         | (apply PArgs.cons; (next => (first
          | exact PArg.own rfl rfl
          | exact PArg.rd rfl (Le1.refl _) rfl
          | exact PArg.rd rfl (Le1.rd _ _ _) rfl
          | exact PArg.nil rfl
          | exact PArg.rd rfl (Le1.nil _ _) rfl
          | (refine PArg.rd rfl (Le1.of_eq ?_) rfl; congr 2 <;> (first | omega | (simp; omega) | (simp [NFL]; done))))))))); (next => rfl); (next => rfl); rintro _ _ ⟨rfl, rfl⟩; refine ⟨_, rfl, ?_⟩)
        | fail)
       | fail)
      | refine ar_seq ?_
      | (refine arE ?_; refine ar_endM [0, 1, 2, 4] rfl ?_)
      | refine ar_region ?_
      | refine ar_block ?_
      | refine ar_skip ?_
      | refine ar_blk ?_
      | refine ar_dedup rfl ?_
      | (refine arC (.cond _ _ _) ?_; first
       | (refine ar_cond_true rfl ?_ ?_; (next => (first | rfl | (simp only [decide_eq_true_eq, beq_iff_eq, bne_iff_ne, ge_iff_le, gt_iff_lt, ne_eq, Bool.not_eq_true', decide_eq_false_iff_not]; omega))))
       | (refine ar_cond_false rfl ?_ ?_; (next => (first
        | rfl
        | (simp only [decide_eq_false_iff_not, beq_eq_false_iff_ne, bne_eq_false_iff_eq, ge_iff_le, gt_iff_lt, ne_eq, Bool.not_eq_false', decide_eq_true_eq]; omega))))
       | fail)
      | refine ar_exit ?_
      | refine stk_b_hit ?_
      | refine stk_b_miss rfl ?_
      | refine stk_c_exit ?_
      | refine stk_l_exit ?_
      | (refine arC .ret ?_; refine ar_retM [] ?_)
      | refine stk_c_ret ?_
      | refine stk_b_ret ?_
      | refine stk_l_ret ?_
      | refine stk_nil ?_
      | fail)
    refine ar_nop (ar_drawP (v := wrongV) 3 mixed rfl (by kernel_rfl) rfl ?_ ?_)
    rotate_left
    simp only [List.take_succ_cons, List.take_zero]
    repeat (first
      | (apply q_op rfl rfl rfl; (next => (first
       | (refine evalE_ok (T := TT) rfl ?_; (first | exact trivial | omega | (simp [NFL] <;> omega)))
       | (apply opk ⟨_, .fieldAddr _ _ _, _, _, _, _⟩; first
        | exact opv_field_el (T := TT) rfl rfl rfl rfl rfl rfl
        | exact opv_field_box (T := TT) rfl rfl rfl rfl rfl
        | fail)
       | (apply opk ⟨_, .load _ _, _, _, _, _⟩; first
        | exact opv_load_el (T := TT) rfl rfl rfl
        | exact opv_load_els (T := TT) rfl rfl rfl rfl
        | (apply opv_load_box (T := TT) rfl; (next => (first
         | rfl
         | exact look_hd
         | assumption
         | ((repeat (first | exact look_hd | assumption | (apply look_tl; (next => (first | assumption | (intro e; exact absurd e.symm (by assumption)) | fail))) | fail)); done)
         | fail)); (next => rfl); (next => rfl); (next => rfl); (next => rfl))
        | fail)
       | (apply opk ⟨_, .buildSlice _ _ _, _, _, _, _⟩; first | exact opv_build_slice (T := TT) rfl rfl rfl rfl rfl rfl rfl | fail)
       | fail)))
      | refine q_unwanted rfl rfl rfl ?_
      | fail)
    refine q_nil ?_
    (apply panop_call (hc); (next => rfl); (next => ((repeat' (first | exact LeL.refl _ | exact .refl _ | exact .nil _ _ | exact .rd _ _ _ | refine LeL.cons ?_ ?_ | exact LeL.nil | refine Le1.of_eq ?_ | rfl)))); (next => rfl))
    (repeat (first | refine panK_c ?_ | refine panK_b ?_ | refine panK_l ?_ | refine panK_o ?_))
    exact panK_endC _ (look_lone (look_tl hkn look_hd)) ⟨rfl, hst⟩
  · rw [if_neg h1] at ha; cases ha

theorem read_do (kt : Nat) : DoOk (stR kt) readStep PrR 44 [.v (.pointer (some ⟨kt, 0, none⟩))] where
  cap := rfl
  keys := fun a b k h => by
    simp only [stR, look_cons, look_nil] at h ⊢
    by_cases e : k = kt
    · rw [if_pos e] at h; cases h
    · rw [if_neg e]
  mono := fun m m' a h hm => by unfold PrR at h ⊢; omega
  good := fun a v m a' hp hl hv h => by
    refine ⟨?_, read2_ok kt a v m hp hl a' h⟩
    unfold PrR at hp ⊢
    unfold readStep at h
    split at h
    · obtain ⟨y, hy, rfl⟩ := Option.map_eq_some_iff.1 h
      simp; omega
    · cases h; omega
  bad := fun a v m hp hl _ h => read2_bad kt a v m hp hl h

set_option maxRecDepth 100000 in
theorem read1_ret (k2 k3 : Nat) (c2 c3 : AV) (hne : k2 ≠ k3) : DefC Try.prog 42 [.v (.pointer (some ⟨k2, 0, none⟩)), .v (.pointer (some ⟨k3, 0, none⟩))] [(k2, [c2]), (k3, [c3])] .returning .returning (fun out H' => out = .ret (.tu []) ∧ look H' k2 = some [c2] ∧ look H' k3 = some [c3]) := by
  unfold DefC
  refine callsD_rec Try.func42 rfl rfl rfl (fun X => .v .nilIface) rfl rfl rec_ret ?_
  dsimp only [slotsOf, List.drop_succ_cons, List.drop_zero]
  repeat (first
    | ((first | apply ar_un | apply stk_un); (next => (first | (simp only [go_sem, Nat.reduceBEq, Nat.reduceEqDiff, reduceIte, reduceCtorEq, String.reduceEq, Nat.reduceAdd, Int.reduceToNat]; exact rfl) | exact rfl)))
    | (apply ar_op' rfl rfl rfl rfl; (next => (first
     | (refine evalE_ok (T := TT) rfl ?_; (first | exact trivial | omega | (simp [NFL] <;> omega)))
     | (apply opk ⟨_, .move _, _, _, _, _⟩; first | exact opv_const (cst_plain _) (.inl rfl) | fail)
     | (apply opk ⟨_, .typeAssert _ _ _ _, _, _, _, _⟩; first | exact opv_tassert_hit (T := TT) rfl rfl rfl rfl | exact opv_tassert_nil (T := TT) rfl rfl rfl rfl | fail)
     | fail)))
    | (refine arO _ ?_; first
     | (refine arO ⟨_, .move _, _, _, _, _⟩ ?_; first | refine ar_move_sl rfl rfl rfl rfl ?_ | fail)
     | (refine arO ⟨_, .assign _, _, _, _, _⟩ ?_; first
      | refine ar_assign_sl rfl rfl rfl rfl ?_
      | refine ar_op rfl rfl rfl rfl (opv_const (cst_plain _) (.inr rfl)) ?_
      | fail)
     | (refine arO ⟨_, .store _ _ _, _, _, _, _⟩ ?_; first
      | (apply ar_effM rfl rfl; (next => (first
       | (apply effTo_store_own (T := TT) rfl rfl rfl; (next => (first
        | rfl
        | exact look_hd
        | assumption
        | ((repeat (first | exact look_hd | assumption | (apply look_tl; (next => (first | assumption | (intro e; exact absurd e.symm (by assumption)) | fail))) | fail)); done)
        | fail)); (next => rfl); (next => rfl); (next => rfl))
       | (apply effTo_store (T := TT) rfl; (next => (first
        | rfl
        | exact look_hd
        | assumption
        | ((repeat (first | exact look_hd | assumption | (apply look_tl; (next => (first | assumption | (intro e; exact absurd e.symm (by assumption)) | fail))) | fail)); done)
        | fail)); (next => rfl); (next => rfl); (next => rfl); (next => rfl); (next => rfl); (next => rfl); (next => rfl); (next => rfl))
       | fail)))
      | fail)
     | (refine arO ⟨_, .alloc _, _, _, _, _⟩ ?_; first
      | (refine ar_eff rfl rfl (eff_alloc (T := TT) rfl rfl ?_); intro kb hkb; (repeat (have hkn := (freshK_ne hkb).1; replace hkb := (freshK_ne hkb).2)); (try have hkl := freshK_look hkb); clear hkb; refine ar_nf ?_)
      | fail)
     | fail)
    | refine ar_seq ?_
    | (refine arE ?_; refine ar_endM [0, 1, 3, 9] rfl ?_)
    | refine ar_region ?_
    | refine ar_block ?_
    | refine ar_skip ?_
    | refine ar_blk ?_
    | refine ar_dedup rfl ?_
    | (refine arC (.cond _ _ _) ?_; first
     | (refine ar_cond_true rfl ?_ ?_; (next => (first | rfl | (simp only [decide_eq_true_eq, beq_iff_eq, bne_iff_ne, ge_iff_le, gt_iff_lt, ne_eq, Bool.not_eq_true', decide_eq_false_iff_not]; omega))))
     | (refine ar_cond_false rfl ?_ ?_; (next => (first
      | rfl
      | (simp only [decide_eq_false_iff_not, beq_eq_false_iff_ne, bne_eq_false_iff_eq, ge_iff_le, gt_iff_lt, ne_eq, Bool.not_eq_false', decide_eq_true_eq]; omega))))
     | fail)
    | refine ar_exit ?_
    | refine stk_b_hit ?_
    | refine stk_b_miss rfl ?_
    | refine stk_c_exit ?_
    | refine stk_l_exit ?_
    | (refine arC .ret ?_; refine ar_retM [] ?_)
    | refine stk_c_ret ?_
    | refine stk_b_ret ?_
    | refine stk_l_ret ?_
    | refine stk_nil ?_
    | fail)
  rename_i hkn2
  exact ar_nil ⟨_, rfl, rfl, look_tl hkn2 look_hd, look_tl hkn (look_tl (fun e => hne e.symm) look_hd)⟩

set_option maxRecDepth 100000 in
theorem read1_pan (k2 k3 : Nat) (L : List (List AV)) (n : Int) (hne : k2 ≠ k3) : DefC Try.prog 42 [.v (.pointer (some ⟨k2, 0, none⟩)), .v (.pointer (some ⟨k3, 0, none⟩))] [(k2, [.sl true 2 L]), (k3, [.v (.int .i64 n)])] (.panicking [⟨wrongV, false, false⟩]) (.panicking [⟨wrongV, true, false⟩]) (fun out H' => out = .ret (.tu []) ∧ look H' k2 = some [.v (.slice none 0 0)] ∧ look H' k3 = some [.v (.int .i64 1)]) := by
  unfold DefC
  refine callsD_rec (ru := .ifc 68 (.ag [])) Try.func42 rfl rfl rfl (fun X => .ifc _ _ _ (.ag [] #[] rfl (fun i u x hu => by simp at hu))) rfl rfl (rec_pan wrongV) ?_
  dsimp only [slotsOf, List.drop_succ_cons, List.drop_zero]
  repeat (first
    | ((first | apply ar_un | apply stk_un); (next => (first | (simp only [go_sem, Nat.reduceBEq, Nat.reduceEqDiff, reduceIte, reduceCtorEq, String.reduceEq, Nat.reduceAdd, Int.reduceToNat]; exact rfl) | exact rfl)))
    | (apply ar_op' rfl rfl rfl rfl; (next => (first
     | (refine evalE_ok (T := TT) rfl ?_; (first | exact trivial | omega | (simp [NFL] <;> omega)))
     | (apply opk ⟨_, .move _, _, _, _, _⟩; first | exact opv_const (cst_plain _) (.inl rfl) | fail)
     | (apply opk ⟨_, .typeAssert _ _ _ _, _, _, _, _⟩; first | exact opv_tassert_hit (T := TT) rfl rfl rfl rfl | exact opv_tassert_nil (T := TT) rfl rfl rfl rfl | fail)
     | fail)))
    | (refine arO _ ?_; first
     | (refine arO ⟨_, .move _, _, _, _, _⟩ ?_; first | refine ar_move_sl rfl rfl rfl rfl ?_ | fail)
     | (refine arO ⟨_, .assign _, _, _, _, _⟩ ?_; first
      | refine ar_assign_sl rfl rfl rfl rfl ?_
      | refine ar_op rfl rfl rfl rfl (opv_const (cst_plain _) (.inr rfl)) ?_
      | fail)
     | (refine arO ⟨_, .store _ _ _, _, _, _, _⟩ ?_; first
      | (apply ar_effM rfl rfl; (next => (first
       | (apply effTo_store_own (T := TT) rfl rfl rfl; (next => (first
        | rfl
        | exact look_hd
        | assumption
        | ((repeat (first | exact look_hd | assumption | (apply look_tl; (next => (first | assumption | (intro e; exact absurd e.symm (by assumption)) | fail))) | fail)); done)
        | fail)); (next => rfl); (next => rfl); (next => rfl))
       | (apply effTo_store (T := TT) rfl; (next => (first
        | rfl
        | exact look_hd
        | assumption
        | ((repeat (first | exact look_hd | assumption | (apply look_tl; (next => (first | assumption | (intro e; exact absurd e.symm (by assumption)) | fail))) | fail)); done)
        | fail)); (next => rfl); (next => rfl); (next => rfl); (next => rfl); (next => rfl); (next => rfl); (next => rfl); (next => rfl))
       | fail)))
      | fail)
     | (refine arO ⟨_, .alloc _, _, _, _, _⟩ ?_; first
      | (refine ar_eff rfl rfl (eff_alloc (T := TT) rfl rfl ?_); intro kb hkb; (repeat (have hkn := (freshK_ne hkb).1; replace hkb := (freshK_ne hkb).2)); (try have hkl := freshK_look hkb); clear hkb; refine ar_nf ?_)
      | fail)
     | fail)
    | refine ar_seq ?_
    | (refine arE ?_; refine ar_endM [0, 1, 3, 9] rfl ?_)
    | refine ar_region ?_
    | refine ar_block ?_
    | refine ar_skip ?_
    | refine ar_blk ?_
    | refine ar_dedup rfl ?_
    | (refine arC (.cond _ _ _) ?_; first
     | (refine ar_cond_true rfl ?_ ?_; (next => (first | rfl | (simp only [decide_eq_true_eq, beq_iff_eq, bne_iff_ne, ge_iff_le, gt_iff_lt, ne_eq, Bool.not_eq_true', decide_eq_false_iff_not]; omega))))
     | (refine ar_cond_false rfl ?_ ?_; (next => (first
      | rfl
      | (simp only [decide_eq_false_iff_not, beq_eq_false_iff_ne, bne_eq_false_iff_eq, ge_iff_le, gt_iff_lt, ne_eq, Bool.not_eq_false', decide_eq_true_eq]; omega))))
     | fail)
    | refine ar_exit ?_
    | refine stk_b_hit ?_
    | refine stk_b_miss rfl ?_
    | refine stk_c_exit ?_
    | refine stk_l_exit ?_
    | (refine arC .ret ?_; refine ar_retM [] ?_)
    | refine stk_c_ret ?_
    | refine stk_b_ret ?_
    | refine stk_l_ret ?_
    | refine stk_nil ?_
    | fail)
  rename_i hkn2
  exact ar_nil ⟨_, rfl, rfl, look_tl hne look_hd, look_hd⟩

theorem look_two {R : List (Nat × List AV)} {a b : Nat} {ca cb : List AV} (h1 : look R a = some ca) (h2 : look R b = some cb) : ∀ k cs, look [(a, ca), (b, cb)] k = some cs → look R k = some cs := fun k cs hk => by
  simp only [look_cons, look_nil] at hk
  by_cases e : k = a
  · subst e; rw [if_pos rfl] at hk; cases hk; exact h1
  · rw [if_neg e] at hk
    by_cases e2 : k = b
    · subst e2; rw [if_pos rfl] at hk; cases hk; exact h2
    · rw [if_neg e2] at hk; cases hk
theorem subT {t t' : List (Nat × AV)} (h : ∀ p ∈ t', look t p.1 = some p.2) : ∀ s u, look t' s = some u → look t s = some u := fun s u hu => h (s, u) (look_mem hu)
/-- What Read answers: series, and what is wrong. -/
def readR (s : List UInt8) : List Srs × Nat :=
  if 20000 < s.length then ([], 2)
  else match readB s with
    | none => ([], 1)
    | some L => if checkB (L.map toSr) = 0 then (L, 0) else ([], checkB (L.map toSr))
def readV (r : List Srs × Nat) : AV := .tu [.sl false 2 (r.1.map srsRow), .v (.int .i64 (r.2 : Nat))]

/-- The two results, where they lie. -/
theorem res_read {o : Bool} {t : List (Nat × AV)} {H : List (Nat × List AV)} {k2 k3 : Nat} {L : List Srs} {n : Nat} (h2 : look t 2 = some (.v (.pointer (some ⟨k2, 0, none⟩)))) (h3 : look t 3 = some (.v (.pointer (some ⟨k3, 0, none⟩)))) (hk2 : look H k2 = some [.sl o 2 (L.map srsRow)]) (hk3 : look H k3 = some [.v (.int .i64 n)]) : resCA TT t H [.cell 2 30, .cell 3 24] = some (readV (L, n)) :=
  resCA_two (resC1_one (T := TT) h2 hk2 rfl rfl rfl) (resC1_one (T := TT) h3 hk3 rfl rfl rfl)

set_option maxRecDepth 100000 in
theorem read_a (s : List UInt8) (hs : s.length ≤ 1000000000000000) : ACalls Try.prog 28 [.v (.string (mkB s))] [] (fun out H => out = .ret (readV (readR s)) ∧ H = []) := by
  refine acalls_defer (pre := [_, _]) (g := 42) TT 18 [.cell 2 30, .cell 3 24] Try.func28 (by kernel_rfl) rfl rfl rfl rfl ⟨_, Try.func42, by kernel_rfl, rfl⟩ ?_
  dsimp only [slotsOf, List.map_cons, List.map_nil]
  by_cases h20 : 20000 < s.length
  · have hr : readR s = ([], 2) := by unfold readR; rw [if_pos h20]
    rw [hr]
    repeat (first
      | ((first | apply ar_un | apply stk_un); (next => (first | (simp only [go_sem, Nat.reduceBEq, Nat.reduceEqDiff, reduceIte, reduceCtorEq, String.reduceEq, Nat.reduceAdd, Int.reduceToNat]; exact rfl) | exact rfl)))
      | (apply ar_op' rfl rfl rfl rfl; (next => (first
       | (refine evalE_ok (T := TT) rfl ?_; (first | exact trivial | omega | (simp [NFL] <;> omega)))
       | (apply opk ⟨_, .move _, _, _, _, _⟩; first | exact opv_const (cst_plain _) (.inl rfl) | fail)
       | (apply opk ⟨_, .binOp .neq _ _ _ _, _, _, _, _⟩; first
        | (refine opv_cmp_t rfl rfl rfl ?_; (next => (first | exact rfl | (simp only [cmpP]; omega) | (simp only [cmpP]; simp [NFL] <;> omega))))
        | (refine opv_cmp_f rfl rfl rfl ?_; (next => (first | exact rfl | (simp only [cmpP]; omega) | (simp only [cmpP]; simp [NFL] <;> omega))))
        | exact opv_bin rfl rfl rfl
        | (refine opv_sne_t rfl rfl rfl ?_; (next => (first | rfl | assumption)))
        | (refine opv_sne_f rfl rfl rfl ?_; (next => (first | rfl | assumption)))
        | exact opv_str rfl rfl rfl
        | fail)
       | (apply opk ⟨_, .binOp .gtr _ _ _ _, _, _, _, _⟩; first
        | (refine opv_cmp_t rfl rfl rfl ?_; (next => (first | exact rfl | (simp only [cmpP]; omega) | (simp only [cmpP]; simp [NFL] <;> omega))))
        | (refine opv_cmp_f rfl rfl rfl ?_; (next => (first | exact rfl | (simp only [cmpP]; omega) | (simp only [cmpP]; simp [NFL] <;> omega))))
        | exact opv_bin rfl rfl rfl
        | exact opv_str rfl rfl rfl
        | fail)
       | (apply opk ⟨_, .call { callee := .builtin .len, args := _, argTypes := _ }, _, _, _, _⟩; first
        | exact opv_len_str (T := TT) rfl rfl rfl
        | exact opv_len_sl (T := TT) rfl rfl rfl
        | exact opv_len_nil (T := TT) rfl rfl rfl
        | fail)
       | (apply opk ⟨_, .load _ _, _, _, _, _⟩; first | exact opv_load_el (T := TT) rfl rfl rfl | exact opv_load_els (T := TT) rfl rfl rfl rfl | fail)
       | fail)))
      | (refine arO _ ?_; first
       | (refine arO ⟨_, .move _, _, _, _, _⟩ ?_; first | refine ar_move_sl rfl rfl rfl rfl ?_ | fail)
       | (refine arO ⟨_, .assign _, _, _, _, _⟩ ?_; first
        | refine ar_assign_sl rfl rfl rfl rfl ?_
        | refine ar_op rfl rfl rfl rfl (opv_const (cst_plain _) (.inr rfl)) ?_
        | fail)
       | (refine arO ⟨_, .load _ _, _, _, _, _⟩ ?_; first
        | refine ar_load_own (T := TT) rfl rfl rfl rfl look_hd rfl rfl rfl rfl ?_
        | (refine ar_load_own (T := TT) rfl rfl rfl rfl (look_tl ?_ look_hd) rfl rfl rfl rfl ?_; (next => (first | assumption | (intro e; exact absurd e.symm (by assumption)))))
        | (refine ar_load_own (T := TT) rfl rfl rfl rfl (look_tl ?_ (look_tl ?_ look_hd)) rfl rfl rfl rfl ?_; (next => (first | assumption | (intro e; exact absurd e.symm (by assumption)))); (next => (first | assumption | (intro e; exact absurd e.symm (by assumption)))))
        | fail)
       | (refine arO ⟨_, .store _ _ _, _, _, _, _⟩ ?_; first
        | (apply ar_effM rfl rfl; (next => (first
         | (apply effTo_store_own (T := TT) rfl rfl rfl; (next => (first
          | rfl
          | exact look_hd
          | assumption
          | ((repeat (first | exact look_hd | assumption | (apply look_tl; (next => (first | assumption | (intro e; exact absurd e.symm (by assumption)) | fail))) | fail)); done)
          | fail)); (next => rfl); (next => rfl); (next => rfl))
         | (apply effTo_store (T := TT) rfl; (next => (first
          | rfl
          | exact look_hd
          | assumption
          | ((repeat (first | exact look_hd | assumption | (apply look_tl; (next => (first | assumption | (intro e; exact absurd e.symm (by assumption)) | fail))) | fail)); done)
          | fail)); (next => rfl); (next => rfl); (next => rfl); (next => rfl); (next => rfl); (next => rfl); (next => rfl); (next => rfl))
         | fail)))
        | fail)
       | (refine arO ⟨_, .alloc _, _, _, _, _⟩ ?_; first
        | (refine ar_eff rfl rfl (eff_alloc (T := TT) rfl rfl ?_); intro kb hkb; (repeat (have hkn := (freshK_ne hkb).1; replace hkb := (freshK_ne hkb).2)); (try have hkl := freshK_look hkb); clear hkb; refine ar_nf ?_)
        | fail)
       | fail)
      | refine ar_seq ?_
      | (refine arE ?_; refine ar_endM [0, 2, 3, 4, 7, 15] rfl ?_)
      | refine ar_region ?_
      | refine ar_block ?_
      | refine ar_skip ?_
      | refine ar_blk ?_
      | refine ar_dedup rfl ?_
      | (refine arC (.cond _ _ _) ?_; first
       | (refine ar_cond_true rfl ?_ ?_; (next => (first | rfl | (simp only [decide_eq_true_eq, beq_iff_eq, bne_iff_ne, ge_iff_le, gt_iff_lt, ne_eq, Bool.not_eq_true', decide_eq_false_iff_not]; omega))))
       | (refine ar_cond_false rfl ?_ ?_; (next => (first
        | rfl
        | (simp only [decide_eq_false_iff_not, beq_eq_false_iff_ne, bne_eq_false_iff_eq, ge_iff_le, gt_iff_lt, ne_eq, Bool.not_eq_false', decide_eq_true_eq]; omega))))
       | fail)
      | refine ar_exit ?_
      | refine stk_b_hit ?_
      | refine stk_b_miss rfl ?_
      | refine stk_c_exit ?_
      | refine stk_l_exit ?_
      | fail
      | refine stk_c_ret ?_
      | refine stk_b_ret ?_
      | refine stk_l_ret ?_
      | refine stk_nil ?_
      | fail)
    rename_i kr hkr
    refine ar_subO rfl (SubS.of_le (σ' := ⟨18, [(2, .v (.pointer (some ⟨kr, 0, none⟩))), (3, .v (.pointer (some ⟨kb, 0, none⟩)))], [(kr, [.sl true 2 (([] : List Srs).map srsRow)]), (kb, [.v (.int .i64 (2 : Nat))])], []⟩) ⟨rfl, ?_, ?_, rfl⟩) ?_
    · (repeat' (first
      | exact trivial
      | exact LeL.refl _
      | exact .refl _
      | refine ⟨⟨_, rfl, ?_⟩, ?_⟩
      | refine ⟨⟨_, look_hd, ?_⟩, ?_⟩
      | refine ⟨⟨_, look_tl (by first | assumption | (intro e; exact absurd e.symm (by assumption))) look_hd, ?_⟩, ?_⟩
      | refine ⟨⟨_, look_tl (by first | assumption | (intro e; exact absurd e.symm (by assumption))) (look_tl (by first | assumption | (intro e; exact absurd e.symm (by assumption))) look_hd), ?_⟩, ?_⟩
      | refine ⟨⟨_, look_tl (by first | assumption | (intro e; exact absurd e.symm (by assumption))) (look_tl (by first | assumption | (intro e; exact absurd e.symm (by assumption))) (look_tl (by first | assumption | (intro e; exact absurd e.symm (by assumption))) look_hd)), ?_⟩, ?_⟩
      | refine ⟨⟨_, look_tl (by first | assumption | (intro e; exact absurd e.symm (by assumption))) (look_tl (by first | assumption | (intro e; exact absurd e.symm (by assumption))) (look_tl (by first | assumption | (intro e; exact absurd e.symm (by assumption))) (look_tl (by first | assumption | (intro e; exact absurd e.symm (by assumption))) look_hd))), ?_⟩, ?_⟩
      | exact .nil _ _
      | exact .rd _ _ _
      | refine LeL.cons ?_ ?_
      | exact LeL.nil
      | refine Le1.of_eq ?_))
    · (repeat' (first
      | exact trivial
      | exact LeL.refl _
      | exact .refl _
      | refine ⟨⟨_, rfl, ?_⟩, ?_⟩
      | refine ⟨⟨_, look_hd, ?_⟩, ?_⟩
      | refine ⟨⟨_, look_tl (by first | assumption | (intro e; exact absurd e.symm (by assumption))) look_hd, ?_⟩, ?_⟩
      | refine ⟨⟨_, look_tl (by first | assumption | (intro e; exact absurd e.symm (by assumption))) (look_tl (by first | assumption | (intro e; exact absurd e.symm (by assumption))) look_hd), ?_⟩, ?_⟩
      | refine ⟨⟨_, look_tl (by first | assumption | (intro e; exact absurd e.symm (by assumption))) (look_tl (by first | assumption | (intro e; exact absurd e.symm (by assumption))) (look_tl (by first | assumption | (intro e; exact absurd e.symm (by assumption))) look_hd)), ?_⟩, ?_⟩
      | refine ⟨⟨_, look_tl (by first | assumption | (intro e; exact absurd e.symm (by assumption))) (look_tl (by first | assumption | (intro e; exact absurd e.symm (by assumption))) (look_tl (by first | assumption | (intro e; exact absurd e.symm (by assumption))) (look_tl (by first | assumption | (intro e; exact absurd e.symm (by assumption))) look_hd))), ?_⟩, ?_⟩
      | exact .nil _ _
      | exact .rd _ _ _
      | refine LeL.cons ?_ ?_
      | exact LeL.nil
      | refine Le1.of_eq ?_))
    refine ar_ret ?_
    (repeat (first | refine stk_c_ret ?_ | refine stk_b_ret ?_))
    exact stk_nil ⟨_, [], res_read (L := []) (n := 2) rfl rfl look_hd (look_tl (by first | exact hkn | exact fun e => hkn e.symm) look_hd), fun k cs h => by simp [look_nil] at h, rfl, rfl⟩
  · have hf := fun kt => fields_a (read_do kt) s (by omega) [] (show PrR s.length [] by unfold PrR; simp; omega)
    obtain ⟨r, hrr⟩ : ∃ r, runF readStep s [] = r := ⟨_, rfl⟩
    have hrb : readB s = r := hrr
    rw [hrr] at hf
    repeat (first
      | ((first | apply ar_un | apply stk_un); (next => (first | (simp only [go_sem, Nat.reduceBEq, Nat.reduceEqDiff, reduceIte, reduceCtorEq, String.reduceEq, Nat.reduceAdd, Int.reduceToNat]; exact rfl) | exact rfl)))
      | (apply ar_op' rfl rfl rfl rfl; (next => (first
       | (refine evalE_ok (T := TT) rfl ?_; (first | exact trivial | omega | (simp [NFL] <;> omega)))
       | (apply opk ⟨_, .move _, _, _, _, _⟩; first | exact opv_const (cst_plain _) (.inl rfl) | fail)
       | (apply opk ⟨_, .binOp .neq _ _ _ _, _, _, _, _⟩; first
        | (refine opv_cmp_t rfl rfl rfl ?_; (next => (first | exact rfl | (simp only [cmpP]; omega) | (simp only [cmpP]; simp [NFL] <;> omega))))
        | (refine opv_cmp_f rfl rfl rfl ?_; (next => (first | exact rfl | (simp only [cmpP]; omega) | (simp only [cmpP]; simp [NFL] <;> omega))))
        | exact opv_bin rfl rfl rfl
        | (refine opv_sne_t rfl rfl rfl ?_; (next => (first | rfl | assumption)))
        | (refine opv_sne_f rfl rfl rfl ?_; (next => (first | rfl | assumption)))
        | exact opv_str rfl rfl rfl
        | fail)
       | (apply opk ⟨_, .binOp .gtr _ _ _ _, _, _, _, _⟩; first
        | (refine opv_cmp_t rfl rfl rfl ?_; (next => (first | exact rfl | (simp only [cmpP]; omega) | (simp only [cmpP]; simp [NFL] <;> omega))))
        | (refine opv_cmp_f rfl rfl rfl ?_; (next => (first | exact rfl | (simp only [cmpP]; omega) | (simp only [cmpP]; simp [NFL] <;> omega))))
        | exact opv_bin rfl rfl rfl
        | exact opv_str rfl rfl rfl
        | fail)
       | (apply opk ⟨_, .call { callee := .builtin .len, args := _, argTypes := _ }, _, _, _, _⟩; first
        | exact opv_len_str (T := TT) rfl rfl rfl
        | exact opv_len_sl (T := TT) rfl rfl rfl
        | exact opv_len_nil (T := TT) rfl rfl rfl
        | fail)
       | (apply opk ⟨_, .load _ _, _, _, _, _⟩; first | exact opv_load_el (T := TT) rfl rfl rfl | exact opv_load_els (T := TT) rfl rfl rfl rfl | fail)
       | fail)))
      | (refine arO _ ?_; first
       | (refine arO ⟨_, .move _, _, _, _, _⟩ ?_; first | refine ar_move_sl rfl rfl rfl rfl ?_ | fail)
       | (refine arO ⟨_, .assign _, _, _, _, _⟩ ?_; first
        | refine ar_assign_sl rfl rfl rfl rfl ?_
        | refine ar_op rfl rfl rfl rfl (opv_const (cst_plain _) (.inr rfl)) ?_
        | fail)
       | (refine arO ⟨_, .load _ _, _, _, _, _⟩ ?_; first
        | refine ar_load_own (T := TT) rfl rfl rfl rfl look_hd rfl rfl rfl rfl ?_
        | (refine ar_load_own (T := TT) rfl rfl rfl rfl (look_tl ?_ look_hd) rfl rfl rfl rfl ?_; (next => (first | assumption | (intro e; exact absurd e.symm (by assumption)))))
        | (refine ar_load_own (T := TT) rfl rfl rfl rfl (look_tl ?_ (look_tl ?_ look_hd)) rfl rfl rfl rfl ?_; (next => (first | assumption | (intro e; exact absurd e.symm (by assumption)))); (next => (first | assumption | (intro e; exact absurd e.symm (by assumption)))))
        | fail)
       | (refine arO ⟨_, .store _ _ _, _, _, _, _⟩ ?_; first
        | (apply ar_effM rfl rfl; (next => (first
         | (apply effTo_store_own (T := TT) rfl rfl rfl; (next => (first
          | rfl
          | exact look_hd
          | assumption
          | ((repeat (first | exact look_hd | assumption | (apply look_tl; (next => (first | assumption | (intro e; exact absurd e.symm (by assumption)) | fail))) | fail)); done)
          | fail)); (next => rfl); (next => rfl); (next => rfl))
         | (apply effTo_store (T := TT) rfl; (next => (first
          | rfl
          | exact look_hd
          | assumption
          | ((repeat (first | exact look_hd | assumption | (apply look_tl; (next => (first | assumption | (intro e; exact absurd e.symm (by assumption)) | fail))) | fail)); done)
          | fail)); (next => rfl); (next => rfl); (next => rfl); (next => rfl); (next => rfl); (next => rfl); (next => rfl); (next => rfl))
         | fail)))
        | fail)
       | (refine arO ⟨_, .alloc _, _, _, _, _⟩ ?_; first
        | (refine ar_eff rfl rfl (eff_alloc (T := TT) rfl rfl ?_); intro kb hkb; (repeat (have hkn := (freshK_ne hkb).1; replace hkb := (freshK_ne hkb).2)); (try have hkl := freshK_look hkb); clear hkb; refine ar_nf ?_)
        | fail)
       | fail)
      | refine ar_seq ?_
      | (refine arE ?_; refine ar_endM [0, 2, 3, 4, 7, 15] rfl ?_)
      | refine ar_region ?_
      | refine ar_block ?_
      | refine ar_skip ?_
      | refine ar_blk ?_
      | refine ar_dedup rfl ?_
      | (refine arC (.cond _ _ _) ?_; first
       | (refine ar_cond_true rfl ?_ ?_; (next => (first | rfl | (simp only [decide_eq_true_eq, beq_iff_eq, bne_iff_ne, ge_iff_le, gt_iff_lt, ne_eq, Bool.not_eq_true', decide_eq_false_iff_not]; omega))))
       | (refine ar_cond_false rfl ?_ ?_; (next => (first
        | rfl
        | (simp only [decide_eq_false_iff_not, beq_eq_false_iff_ne, bne_eq_false_iff_eq, ge_iff_le, gt_iff_lt, ne_eq, Bool.not_eq_false', decide_eq_true_eq]; omega))))
       | fail)
      | refine ar_exit ?_
      | refine stk_b_hit ?_
      | refine stk_b_miss rfl ?_
      | refine stk_c_exit ?_
      | refine stk_l_exit ?_
      | (refine arC .ret ?_; refine ar_retM [2, 3] ?_)
      | refine stk_c_ret ?_
      | refine stk_b_ret ?_
      | refine stk_l_ret ?_
      | refine stk_nil ?_
      | fail)
    rename_i kr hkr
    refine ar_nil ?_
    refine ⟨[.pointer (some ⟨kr, 0, none⟩), .pointer (some ⟨kb, 0, none⟩)], rfl, rfl, ?_⟩
    refine ar_subO rfl (SubS.of_le (σ' := ⟨18, [(0, .v (.string (mkB s))), (2, .v (.pointer (some ⟨kr, 0, none⟩))), (3, .v (.pointer (some ⟨kb, 0, none⟩))), (8, .fn 42 [.v (.pointer (some ⟨kr, 0, none⟩)), .v (.pointer (some ⟨kb, 0, none⟩))])], [(kr, [.sl true 2 (([] : List Srs).map srsRow)]), (kb, [.v (.int .i64 0)])], []⟩) ⟨rfl, ?_, ?_, rfl⟩) ?_
    · (repeat' (first
      | exact trivial
      | exact LeL.refl _
      | exact .refl _
      | refine ⟨⟨_, rfl, ?_⟩, ?_⟩
      | refine ⟨⟨_, look_hd, ?_⟩, ?_⟩
      | refine ⟨⟨_, look_tl (by first | assumption | (intro e; exact absurd e.symm (by assumption))) look_hd, ?_⟩, ?_⟩
      | refine ⟨⟨_, look_tl (by first | assumption | (intro e; exact absurd e.symm (by assumption))) (look_tl (by first | assumption | (intro e; exact absurd e.symm (by assumption))) look_hd), ?_⟩, ?_⟩
      | refine ⟨⟨_, look_tl (by first | assumption | (intro e; exact absurd e.symm (by assumption))) (look_tl (by first | assumption | (intro e; exact absurd e.symm (by assumption))) (look_tl (by first | assumption | (intro e; exact absurd e.symm (by assumption))) look_hd)), ?_⟩, ?_⟩
      | refine ⟨⟨_, look_tl (by first | assumption | (intro e; exact absurd e.symm (by assumption))) (look_tl (by first | assumption | (intro e; exact absurd e.symm (by assumption))) (look_tl (by first | assumption | (intro e; exact absurd e.symm (by assumption))) (look_tl (by first | assumption | (intro e; exact absurd e.symm (by assumption))) look_hd))), ?_⟩, ?_⟩
      | exact .nil _ _
      | exact .rd _ _ _
      | refine LeL.cons ?_ ?_
      | exact LeL.nil
      | refine Le1.of_eq ?_))
    · (repeat' (first
      | exact trivial
      | exact LeL.refl _
      | exact .refl _
      | refine ⟨⟨_, rfl, ?_⟩, ?_⟩
      | refine ⟨⟨_, look_hd, ?_⟩, ?_⟩
      | refine ⟨⟨_, look_tl (by first | assumption | (intro e; exact absurd e.symm (by assumption))) look_hd, ?_⟩, ?_⟩
      | refine ⟨⟨_, look_tl (by first | assumption | (intro e; exact absurd e.symm (by assumption))) (look_tl (by first | assumption | (intro e; exact absurd e.symm (by assumption))) look_hd), ?_⟩, ?_⟩
      | refine ⟨⟨_, look_tl (by first | assumption | (intro e; exact absurd e.symm (by assumption))) (look_tl (by first | assumption | (intro e; exact absurd e.symm (by assumption))) (look_tl (by first | assumption | (intro e; exact absurd e.symm (by assumption))) look_hd)), ?_⟩, ?_⟩
      | refine ⟨⟨_, look_tl (by first | assumption | (intro e; exact absurd e.symm (by assumption))) (look_tl (by first | assumption | (intro e; exact absurd e.symm (by assumption))) (look_tl (by first | assumption | (intro e; exact absurd e.symm (by assumption))) (look_tl (by first | assumption | (intro e; exact absurd e.symm (by assumption))) look_hd))), ?_⟩, ?_⟩
      | exact .nil _ _
      | exact .rd _ _ _
      | refine LeL.cons ?_ ?_
      | exact LeL.nil
      | refine Le1.of_eq ?_))
    repeat (first
      | ((first | apply ar_un | apply stk_un); (next => (first | (simp only [go_sem, Nat.reduceBEq, Nat.reduceEqDiff, reduceIte, reduceCtorEq, String.reduceEq, Nat.reduceAdd, Int.reduceToNat]; exact rfl) | exact rfl)))
      | (apply ar_op' rfl rfl rfl rfl; (next => (first
       | (refine evalE_ok (T := TT) rfl ?_; (first | exact trivial | omega | (simp [NFL] <;> omega)))
       | (apply opk ⟨_, .move _, _, _, _, _⟩; first | exact opv_const (cst_plain _) (.inl rfl) | fail)
       | (apply opk ⟨_, .binOp .neq _ _ _ _, _, _, _, _⟩; first
        | (refine opv_cmp_t rfl rfl rfl ?_; (next => (first | exact rfl | (simp only [cmpP]; omega) | (simp only [cmpP]; simp [NFL] <;> omega))))
        | (refine opv_cmp_f rfl rfl rfl ?_; (next => (first | exact rfl | (simp only [cmpP]; omega) | (simp only [cmpP]; simp [NFL] <;> omega))))
        | exact opv_bin rfl rfl rfl
        | (refine opv_sne_t rfl rfl rfl ?_; (next => (first | rfl | assumption)))
        | (refine opv_sne_f rfl rfl rfl ?_; (next => (first | rfl | assumption)))
        | exact opv_str rfl rfl rfl
        | fail)
       | (apply opk ⟨_, .binOp .gtr _ _ _ _, _, _, _, _⟩; first
        | (refine opv_cmp_t rfl rfl rfl ?_; (next => (first | exact rfl | (simp only [cmpP]; omega) | (simp only [cmpP]; simp [NFL] <;> omega))))
        | (refine opv_cmp_f rfl rfl rfl ?_; (next => (first | exact rfl | (simp only [cmpP]; omega) | (simp only [cmpP]; simp [NFL] <;> omega))))
        | exact opv_bin rfl rfl rfl
        | exact opv_str rfl rfl rfl
        | fail)
       | (apply opk ⟨_, .call { callee := .builtin .len, args := _, argTypes := _ }, _, _, _, _⟩; first
        | exact opv_len_str (T := TT) rfl rfl rfl
        | exact opv_len_sl (T := TT) rfl rfl rfl
        | exact opv_len_nil (T := TT) rfl rfl rfl
        | fail)
       | (apply opk ⟨_, .load _ _, _, _, _, _⟩; first | exact opv_load_el (T := TT) rfl rfl rfl | exact opv_load_els (T := TT) rfl rfl rfl rfl | fail)
       | fail)))
      | (refine arO _ ?_; first
       | (refine arO ⟨_, .move _, _, _, _, _⟩ ?_; first | refine ar_move_sl rfl rfl rfl rfl ?_ | fail)
       | (refine arO ⟨_, .assign _, _, _, _, _⟩ ?_; first
        | refine ar_assign_sl rfl rfl rfl rfl ?_
        | refine ar_op rfl rfl rfl rfl (opv_const (cst_plain _) (.inr rfl)) ?_
        | fail)
       | (refine arO ⟨_, .load _ _, _, _, _, _⟩ ?_; first
        | refine ar_load_own (T := TT) rfl rfl rfl rfl look_hd rfl rfl rfl rfl ?_
        | (refine ar_load_own (T := TT) rfl rfl rfl rfl (look_tl ?_ look_hd) rfl rfl rfl rfl ?_; (next => (first | assumption | (intro e; exact absurd e.symm (by assumption)))))
        | (refine ar_load_own (T := TT) rfl rfl rfl rfl (look_tl ?_ (look_tl ?_ look_hd)) rfl rfl rfl rfl ?_; (next => (first | assumption | (intro e; exact absurd e.symm (by assumption)))); (next => (first | assumption | (intro e; exact absurd e.symm (by assumption)))))
        | fail)
       | (refine arO ⟨_, .store _ _ _, _, _, _, _⟩ ?_; first
        | (apply ar_effM rfl rfl; (next => (first
         | (apply effTo_store_own (T := TT) rfl rfl rfl; (next => (first
          | rfl
          | exact look_hd
          | assumption
          | ((repeat (first | exact look_hd | assumption | (apply look_tl; (next => (first | assumption | (intro e; exact absurd e.symm (by assumption)) | fail))) | fail)); done)
          | fail)); (next => rfl); (next => rfl); (next => rfl))
         | (apply effTo_store (T := TT) rfl; (next => (first
          | rfl
          | exact look_hd
          | assumption
          | ((repeat (first | exact look_hd | assumption | (apply look_tl; (next => (first | assumption | (intro e; exact absurd e.symm (by assumption)) | fail))) | fail)); done)
          | fail)); (next => rfl); (next => rfl); (next => rfl); (next => rfl); (next => rfl); (next => rfl); (next => rfl); (next => rfl))
         | fail)))
        | fail)
       | (refine arO ⟨_, .alloc _, _, _, _, _⟩ ?_; first
        | (refine ar_eff rfl rfl (eff_alloc (T := TT) rfl rfl ?_); intro kb hkb; (repeat (have hkn := (freshK_ne hkb).1; replace hkb := (freshK_ne hkb).2)); (try have hkl := freshK_look hkb); clear hkb; refine ar_nf ?_)
        | fail)
       | fail)
      | refine ar_seq ?_
      | (refine arE ?_; refine ar_endM [0, 2, 3, 4, 7, 15] rfl ?_)
      | refine ar_region ?_
      | refine ar_block ?_
      | refine ar_skip ?_
      | refine ar_blk ?_
      | refine ar_dedup rfl ?_
      | (refine arC (.cond _ _ _) ?_; first
       | (refine ar_cond_true rfl ?_ ?_; (next => (first | rfl | (simp only [decide_eq_true_eq, beq_iff_eq, bne_iff_ne, ge_iff_le, gt_iff_lt, ne_eq, Bool.not_eq_true', decide_eq_false_iff_not]; omega))))
       | (refine ar_cond_false rfl ?_ ?_; (next => (first
        | rfl
        | (simp only [decide_eq_false_iff_not, beq_eq_false_iff_ne, bne_eq_false_iff_eq, ge_iff_le, gt_iff_lt, ne_eq, Bool.not_eq_false', decide_eq_true_eq]; omega))))
       | fail)
      | refine ar_exit ?_
      | refine stk_b_hit ?_
      | refine stk_b_miss rfl ?_
      | refine stk_c_exit ?_
      | refine stk_l_exit ?_
      | (refine arC .ret ?_; refine ar_retM [2, 3] ?_)
      | refine stk_c_ret ?_
      | refine stk_b_ret ?_
      | refine stk_l_ret ?_
      | refine stk_nil ?_
      | fail)
    have hne : kr ≠ kb := hkn
    rcases r with _ | L
    · have hR : readR s = ([], 1) := by unfold readR; rw [if_neg h20, hrb]
      rw [hR]
      refine ar_callXP (Hp := stR kr []) (Hr := [(kb, [.v (.int .i64 0)])]) rfl (hf kr) rfl rfl (PArgs.cons (PArg.rd rfl (Le1.refl _) rfl) (PArgs.cons (PArg.rd rfl (Le1.refl _) rfl) PArgs.nil)) rfl rfl (look_lone look_hd) (look_one (look_tl (by first | exact hkn | exact fun e => hkn e.symm) look_hd) (look_sole (by first | exact hkn | exact fun e => hkn e.symm))) rfl ?_
      rintro _ _ ⟨rfl, b', rfl⟩
      refine callEnd_pan ?_
      (repeat (first | refine panK_c ?_ | refine panK_b ?_ | refine panK_l ?_ | refine panK_o ?_))
      refine panK_endD [(2, .v (.pointer (some ⟨kr, 0, none⟩))), (3, .v (.pointer (some ⟨kb, 0, none⟩)))] [(kr, [.sl true 2 (b'.map srsRow)]), (kb, [.v (.int .i64 0)])] (subT (by simp only [List.forall_mem_cons]; exact ⟨rfl, rfl, by simp⟩)) (fun _ _ h => h) ?_
      · refine (read1_pan kr kb (b'.map srsRow) 0 hkn).conv fun out H' ⟨e1, e2, e3⟩ => ⟨[(kr, [.sl true 2 (([] : List Srs).map srsRow)]), (kb, [.v (.int .i64 (1 : Nat))])], fun F X tm t ht hsim => ?_, .tu [], _, [], e1, res_read (L := []) (n := 1) rfl rfl look_hd (look_tl (by first | exact hkn | exact fun e => hkn e.symm) look_hd), fun k cs h => by simp [look_nil] at h, rfl, rfl⟩
        rcases ht with rfl | ⟨u, hu, rfl⟩
        · refine hsim.le ⟨rfl, trivial, ⟨⟨_, e2, ?_⟩, ⟨_, e3, ?_⟩, trivial⟩, rfl⟩
          · (repeat' (first
            | exact trivial
            | exact LeL.refl _
            | exact .refl _
            | refine ⟨⟨_, rfl, ?_⟩, ?_⟩
            | refine ⟨⟨_, look_hd, ?_⟩, ?_⟩
            | refine ⟨⟨_, look_tl (by first | assumption | (intro e; exact absurd e.symm (by assumption))) look_hd, ?_⟩, ?_⟩
            | refine ⟨⟨_, look_tl (by first | assumption | (intro e; exact absurd e.symm (by assumption))) (look_tl (by first | assumption | (intro e; exact absurd e.symm (by assumption))) look_hd), ?_⟩, ?_⟩
            | refine ⟨⟨_, look_tl (by first | assumption | (intro e; exact absurd e.symm (by assumption))) (look_tl (by first | assumption | (intro e; exact absurd e.symm (by assumption))) (look_tl (by first | assumption | (intro e; exact absurd e.symm (by assumption))) look_hd)), ?_⟩, ?_⟩
            | refine ⟨⟨_, look_tl (by first | assumption | (intro e; exact absurd e.symm (by assumption))) (look_tl (by first | assumption | (intro e; exact absurd e.symm (by assumption))) (look_tl (by first | assumption | (intro e; exact absurd e.symm (by assumption))) (look_tl (by first | assumption | (intro e; exact absurd e.symm (by assumption))) look_hd))), ?_⟩, ?_⟩
            | exact .nil _ _
            | exact .rd _ _ _
            | refine LeL.cons ?_ ?_
            | exact LeL.nil
            | refine Le1.of_eq ?_))
          · (repeat' (first
            | exact trivial
            | exact LeL.refl _
            | exact .refl _
            | refine ⟨⟨_, rfl, ?_⟩, ?_⟩
            | refine ⟨⟨_, look_hd, ?_⟩, ?_⟩
            | refine ⟨⟨_, look_tl (by first | assumption | (intro e; exact absurd e.symm (by assumption))) look_hd, ?_⟩, ?_⟩
            | refine ⟨⟨_, look_tl (by first | assumption | (intro e; exact absurd e.symm (by assumption))) (look_tl (by first | assumption | (intro e; exact absurd e.symm (by assumption))) look_hd), ?_⟩, ?_⟩
            | refine ⟨⟨_, look_tl (by first | assumption | (intro e; exact absurd e.symm (by assumption))) (look_tl (by first | assumption | (intro e; exact absurd e.symm (by assumption))) (look_tl (by first | assumption | (intro e; exact absurd e.symm (by assumption))) look_hd)), ?_⟩, ?_⟩
            | refine ⟨⟨_, look_tl (by first | assumption | (intro e; exact absurd e.symm (by assumption))) (look_tl (by first | assumption | (intro e; exact absurd e.symm (by assumption))) (look_tl (by first | assumption | (intro e; exact absurd e.symm (by assumption))) (look_tl (by first | assumption | (intro e; exact absurd e.symm (by assumption))) look_hd))), ?_⟩, ?_⟩
            | exact .nil _ _
            | exact .rd _ _ _
            | refine LeL.cons ?_ ?_
            | exact LeL.nil
            | refine Le1.of_eq ?_))
        · refine hsim.le ⟨rfl, ⟨⟨_, look_hd, .refl _⟩, trivial⟩, ⟨⟨_, e2, ?_⟩, ⟨_, e3, ?_⟩, trivial⟩, rfl⟩
          · (repeat' (first
            | exact trivial
            | exact LeL.refl _
            | exact .refl _
            | refine ⟨⟨_, rfl, ?_⟩, ?_⟩
            | refine ⟨⟨_, look_hd, ?_⟩, ?_⟩
            | refine ⟨⟨_, look_tl (by first | assumption | (intro e; exact absurd e.symm (by assumption))) look_hd, ?_⟩, ?_⟩
            | refine ⟨⟨_, look_tl (by first | assumption | (intro e; exact absurd e.symm (by assumption))) (look_tl (by first | assumption | (intro e; exact absurd e.symm (by assumption))) look_hd), ?_⟩, ?_⟩
            | refine ⟨⟨_, look_tl (by first | assumption | (intro e; exact absurd e.symm (by assumption))) (look_tl (by first | assumption | (intro e; exact absurd e.symm (by assumption))) (look_tl (by first | assumption | (intro e; exact absurd e.symm (by assumption))) look_hd)), ?_⟩, ?_⟩
            | refine ⟨⟨_, look_tl (by first | assumption | (intro e; exact absurd e.symm (by assumption))) (look_tl (by first | assumption | (intro e; exact absurd e.symm (by assumption))) (look_tl (by first | assumption | (intro e; exact absurd e.symm (by assumption))) (look_tl (by first | assumption | (intro e; exact absurd e.symm (by assumption))) look_hd))), ?_⟩, ?_⟩
            | exact .nil _ _
            | exact .rd _ _ _
            | refine LeL.cons ?_ ?_
            | exact LeL.nil
            | refine Le1.of_eq ?_))
          · (repeat' (first
            | exact trivial
            | exact LeL.refl _
            | exact .refl _
            | refine ⟨⟨_, rfl, ?_⟩, ?_⟩
            | refine ⟨⟨_, look_hd, ?_⟩, ?_⟩
            | refine ⟨⟨_, look_tl (by first | assumption | (intro e; exact absurd e.symm (by assumption))) look_hd, ?_⟩, ?_⟩
            | refine ⟨⟨_, look_tl (by first | assumption | (intro e; exact absurd e.symm (by assumption))) (look_tl (by first | assumption | (intro e; exact absurd e.symm (by assumption))) look_hd), ?_⟩, ?_⟩
            | refine ⟨⟨_, look_tl (by first | assumption | (intro e; exact absurd e.symm (by assumption))) (look_tl (by first | assumption | (intro e; exact absurd e.symm (by assumption))) (look_tl (by first | assumption | (intro e; exact absurd e.symm (by assumption))) look_hd)), ?_⟩, ?_⟩
            | refine ⟨⟨_, look_tl (by first | assumption | (intro e; exact absurd e.symm (by assumption))) (look_tl (by first | assumption | (intro e; exact absurd e.symm (by assumption))) (look_tl (by first | assumption | (intro e; exact absurd e.symm (by assumption))) (look_tl (by first | assumption | (intro e; exact absurd e.symm (by assumption))) look_hd))), ?_⟩, ?_⟩
            | exact .nil _ _
            | exact .rd _ _ _
            | refine LeL.cons ?_ ?_
            | exact LeL.nil
            | refine Le1.of_eq ?_))
    · have hg : GoodL L := read_good (by omega) hrb
      refine ar_callXP (Hp := stR kr []) (Hr := [(kb, [.v (.int .i64 0)])]) rfl (hf kr) rfl rfl (PArgs.cons (PArg.rd rfl (Le1.refl _) rfl) (PArgs.cons (PArg.rd rfl (Le1.refl _) rfl) PArgs.nil)) rfl rfl (look_lone look_hd) (look_one (look_tl (by first | exact hkn | exact fun e => hkn e.symm) look_hd) (look_sole (by first | exact hkn | exact fun e => hkn e.symm))) rfl ?_
      rintro _ _ ⟨rfl, rfl⟩
      refine callEnd_ret ?_
      unfold stR
      by_cases he : checkB (L.map toSr) = 0
      · have hR : readR s = (L, 0) := by unfold readR; rw [if_neg h20, hrb]; simp only [if_pos he]
        rw [hR]
        repeat (first
          | ((first | apply ar_un | apply stk_un); (next => (first | (simp only [go_sem, Nat.reduceBEq, Nat.reduceEqDiff, reduceIte, reduceCtorEq, String.reduceEq, Nat.reduceAdd, Int.reduceToNat]; exact rfl) | exact rfl)))
          | (apply ar_op' rfl rfl rfl rfl; (next => (first
           | (refine evalE_ok (T := TT) rfl ?_; (first | exact trivial | omega | (simp [NFL] <;> omega)))
           | (apply opk ⟨_, .move _, _, _, _, _⟩; first | exact opv_const (cst_plain _) (.inl rfl) | fail)
           | (apply opk ⟨_, .binOp .neq _ _ _ _, _, _, _, _⟩; first
            | (refine opv_cmp_t rfl rfl rfl ?_; (next => (first | exact rfl | (simp only [cmpP]; omega) | (simp only [cmpP]; simp [NFL] <;> omega))))
            | (refine opv_cmp_f rfl rfl rfl ?_; (next => (first | exact rfl | (simp only [cmpP]; omega) | (simp only [cmpP]; simp [NFL] <;> omega))))
            | exact opv_bin rfl rfl rfl
            | (refine opv_sne_t rfl rfl rfl ?_; (next => (first | rfl | assumption)))
            | (refine opv_sne_f rfl rfl rfl ?_; (next => (first | rfl | assumption)))
            | exact opv_str rfl rfl rfl
            | fail)
           | (apply opk ⟨_, .binOp .gtr _ _ _ _, _, _, _, _⟩; first
            | (refine opv_cmp_t rfl rfl rfl ?_; (next => (first | exact rfl | (simp only [cmpP]; omega) | (simp only [cmpP]; simp [NFL] <;> omega))))
            | (refine opv_cmp_f rfl rfl rfl ?_; (next => (first | exact rfl | (simp only [cmpP]; omega) | (simp only [cmpP]; simp [NFL] <;> omega))))
            | exact opv_bin rfl rfl rfl
            | exact opv_str rfl rfl rfl
            | fail)
           | (apply opk ⟨_, .call { callee := .builtin .len, args := _, argTypes := _ }, _, _, _, _⟩; first
            | exact opv_len_str (T := TT) rfl rfl rfl
            | exact opv_len_sl (T := TT) rfl rfl rfl
            | exact opv_len_nil (T := TT) rfl rfl rfl
            | fail)
           | (apply opk ⟨_, .load _ _, _, _, _, _⟩; first | exact opv_load_el (T := TT) rfl rfl rfl | exact opv_load_els (T := TT) rfl rfl rfl rfl | fail)
           | fail)))
          | (refine arO _ ?_; first
           | (refine arO ⟨_, .move _, _, _, _, _⟩ ?_; first | refine ar_move_sl rfl rfl rfl rfl ?_ | fail)
           | (refine arO ⟨_, .assign _, _, _, _, _⟩ ?_; first
            | refine ar_assign_sl rfl rfl rfl rfl ?_
            | refine ar_op rfl rfl rfl rfl (opv_const (cst_plain _) (.inr rfl)) ?_
            | fail)
           | (refine arO ⟨_, .load _ _, _, _, _, _⟩ ?_; first
            | refine ar_load_own (T := TT) rfl rfl rfl rfl look_hd rfl rfl rfl rfl ?_
            | (refine ar_load_own (T := TT) rfl rfl rfl rfl (look_tl ?_ look_hd) rfl rfl rfl rfl ?_; (next => (first | assumption | (intro e; exact absurd e.symm (by assumption)))))
            | (refine ar_load_own (T := TT) rfl rfl rfl rfl (look_tl ?_ (look_tl ?_ look_hd)) rfl rfl rfl rfl ?_; (next => (first | assumption | (intro e; exact absurd e.symm (by assumption)))); (next => (first | assumption | (intro e; exact absurd e.symm (by assumption)))))
            | fail)
           | (refine arO ⟨_, .store _ _ _, _, _, _, _⟩ ?_; first
            | (apply ar_effM rfl rfl; (next => (first
             | (apply effTo_store_own (T := TT) rfl rfl rfl; (next => (first
              | rfl
              | exact look_hd
              | assumption
              | ((repeat (first | exact look_hd | assumption | (apply look_tl; (next => (first | assumption | (intro e; exact absurd e.symm (by assumption)) | fail))) | fail)); done)
              | fail)); (next => rfl); (next => rfl); (next => rfl))
             | (apply effTo_store (T := TT) rfl; (next => (first
              | rfl
              | exact look_hd
              | assumption
              | ((repeat (first | exact look_hd | assumption | (apply look_tl; (next => (first | assumption | (intro e; exact absurd e.symm (by assumption)) | fail))) | fail)); done)
              | fail)); (next => rfl); (next => rfl); (next => rfl); (next => rfl); (next => rfl); (next => rfl); (next => rfl); (next => rfl))
             | fail)))
            | fail)
           | (refine arO ⟨_, .alloc _, _, _, _, _⟩ ?_; first
            | (refine ar_eff rfl rfl (eff_alloc (T := TT) rfl rfl ?_); intro kb hkb; (repeat (have hkn := (freshK_ne hkb).1; replace hkb := (freshK_ne hkb).2)); (try have hkl := freshK_look hkb); clear hkb; refine ar_nf ?_)
            | fail)
           | (refine arO ⟨_, .call { callee := .value _, args := _, argTypes := _ }, _, _, _, _⟩ ?_; first
            | (apply ar_callM0 rfl (check_a L hg) rfl rfl; (next => (repeat (first
             | exact PArgs.nil
             | (apply PArgs.cons; (next => (first
              | exact PArg.own rfl rfl
              | exact PArg.rd rfl (Le1.refl _) rfl
              | exact PArg.rd rfl (Le1.rd _ _ _) rfl
              | exact PArg.nil rfl
              | exact PArg.rd rfl (Le1.nil _ _) rfl
              | (refine PArg.rd rfl (Le1.of_eq ?_) rfl; congr 2 <;> (first | omega | (simp; omega) | (simp [NFL]; done))))))))); (next => rfl); (next => rfl); rintro _ _ ⟨rfl, rfl⟩; refine ⟨_, rfl, ?_⟩)
            | fail)
           | fail)
          | refine ar_seq ?_
          | (refine arE ?_; refine ar_endM [0, 2, 3, 4, 7, 15] rfl ?_)
          | refine ar_region ?_
          | refine ar_block ?_
          | refine ar_skip ?_
          | refine ar_blk ?_
          | refine ar_dedup rfl ?_
          | (refine arC (.cond _ _ _) ?_; first
           | (refine ar_cond_true rfl ?_ ?_; (next => (first | rfl | (simp only [decide_eq_true_eq, beq_iff_eq, bne_iff_ne, ge_iff_le, gt_iff_lt, ne_eq, Bool.not_eq_true', decide_eq_false_iff_not]; omega))))
           | (refine ar_cond_false rfl ?_ ?_; (next => (first
            | rfl
            | (simp only [decide_eq_false_iff_not, beq_eq_false_iff_ne, bne_eq_false_iff_eq, ge_iff_le, gt_iff_lt, ne_eq, Bool.not_eq_false', decide_eq_true_eq]; omega))))
           | fail)
          | refine ar_exit ?_
          | refine stk_b_hit ?_
          | refine stk_b_miss rfl ?_
          | refine stk_c_exit ?_
          | refine stk_l_exit ?_
          | fail
          | refine stk_c_ret ?_
          | refine stk_b_ret ?_
          | refine stk_l_ret ?_
          | refine stk_nil ?_
          | fail)
        refine ar_ret ?_
        (repeat (first | refine stk_c_ret ?_ | refine stk_b_ret ?_))
        refine stk_nil (((read1_ret kr kb (.sl false 2 (L.map srsRow)) (.v (.int .i64 0)) hkn).sub (look_two (by first | exact look_hd | exact look_tl hkn look_hd | exact look_tl (fun e => hkn e.symm) look_hd) (by first | exact look_hd | exact look_tl hkn look_hd | exact look_tl (fun e => hkn e.symm) look_hd))).conv fun out H' ⟨e1, e2, e3⟩ => ⟨[(kr, [.sl false 2 (L.map srsRow)]), (kb, [.v (.int .i64 (0 : Nat))])], fun F X tm t ht hsim => ?_, .tu [], _, [], e1, res_read (L := L) (n := 0) rfl rfl look_hd (look_tl (by first | exact hkn | exact fun e => hkn e.symm) look_hd), fun k cs h => by simp [look_nil] at h, rfl, rfl⟩)
        rcases ht with rfl | ⟨u, hu, rfl⟩
        · refine hsim.le ⟨rfl, trivial, ⟨⟨_, e2, ?_⟩, ⟨_, e3, ?_⟩, trivial⟩, rfl⟩
          · (repeat' (first
            | exact trivial
            | exact LeL.refl _
            | exact .refl _
            | refine ⟨⟨_, rfl, ?_⟩, ?_⟩
            | refine ⟨⟨_, look_hd, ?_⟩, ?_⟩
            | refine ⟨⟨_, look_tl (by first | assumption | (intro e; exact absurd e.symm (by assumption))) look_hd, ?_⟩, ?_⟩
            | refine ⟨⟨_, look_tl (by first | assumption | (intro e; exact absurd e.symm (by assumption))) (look_tl (by first | assumption | (intro e; exact absurd e.symm (by assumption))) look_hd), ?_⟩, ?_⟩
            | refine ⟨⟨_, look_tl (by first | assumption | (intro e; exact absurd e.symm (by assumption))) (look_tl (by first | assumption | (intro e; exact absurd e.symm (by assumption))) (look_tl (by first | assumption | (intro e; exact absurd e.symm (by assumption))) look_hd)), ?_⟩, ?_⟩
            | refine ⟨⟨_, look_tl (by first | assumption | (intro e; exact absurd e.symm (by assumption))) (look_tl (by first | assumption | (intro e; exact absurd e.symm (by assumption))) (look_tl (by first | assumption | (intro e; exact absurd e.symm (by assumption))) (look_tl (by first | assumption | (intro e; exact absurd e.symm (by assumption))) look_hd))), ?_⟩, ?_⟩
            | exact .nil _ _
            | exact .rd _ _ _
            | refine LeL.cons ?_ ?_
            | exact LeL.nil
            | refine Le1.of_eq ?_))
          · (repeat' (first
            | exact trivial
            | exact LeL.refl _
            | exact .refl _
            | refine ⟨⟨_, rfl, ?_⟩, ?_⟩
            | refine ⟨⟨_, look_hd, ?_⟩, ?_⟩
            | refine ⟨⟨_, look_tl (by first | assumption | (intro e; exact absurd e.symm (by assumption))) look_hd, ?_⟩, ?_⟩
            | refine ⟨⟨_, look_tl (by first | assumption | (intro e; exact absurd e.symm (by assumption))) (look_tl (by first | assumption | (intro e; exact absurd e.symm (by assumption))) look_hd), ?_⟩, ?_⟩
            | refine ⟨⟨_, look_tl (by first | assumption | (intro e; exact absurd e.symm (by assumption))) (look_tl (by first | assumption | (intro e; exact absurd e.symm (by assumption))) (look_tl (by first | assumption | (intro e; exact absurd e.symm (by assumption))) look_hd)), ?_⟩, ?_⟩
            | refine ⟨⟨_, look_tl (by first | assumption | (intro e; exact absurd e.symm (by assumption))) (look_tl (by first | assumption | (intro e; exact absurd e.symm (by assumption))) (look_tl (by first | assumption | (intro e; exact absurd e.symm (by assumption))) (look_tl (by first | assumption | (intro e; exact absurd e.symm (by assumption))) look_hd))), ?_⟩, ?_⟩
            | exact .nil _ _
            | exact .rd _ _ _
            | refine LeL.cons ?_ ?_
            | exact LeL.nil
            | refine Le1.of_eq ?_))
        · refine hsim.le ⟨rfl, ⟨⟨_, look_hd, .refl _⟩, trivial⟩, ⟨⟨_, e2, ?_⟩, ⟨_, e3, ?_⟩, trivial⟩, rfl⟩
          · (repeat' (first
            | exact trivial
            | exact LeL.refl _
            | exact .refl _
            | refine ⟨⟨_, rfl, ?_⟩, ?_⟩
            | refine ⟨⟨_, look_hd, ?_⟩, ?_⟩
            | refine ⟨⟨_, look_tl (by first | assumption | (intro e; exact absurd e.symm (by assumption))) look_hd, ?_⟩, ?_⟩
            | refine ⟨⟨_, look_tl (by first | assumption | (intro e; exact absurd e.symm (by assumption))) (look_tl (by first | assumption | (intro e; exact absurd e.symm (by assumption))) look_hd), ?_⟩, ?_⟩
            | refine ⟨⟨_, look_tl (by first | assumption | (intro e; exact absurd e.symm (by assumption))) (look_tl (by first | assumption | (intro e; exact absurd e.symm (by assumption))) (look_tl (by first | assumption | (intro e; exact absurd e.symm (by assumption))) look_hd)), ?_⟩, ?_⟩
            | refine ⟨⟨_, look_tl (by first | assumption | (intro e; exact absurd e.symm (by assumption))) (look_tl (by first | assumption | (intro e; exact absurd e.symm (by assumption))) (look_tl (by first | assumption | (intro e; exact absurd e.symm (by assumption))) (look_tl (by first | assumption | (intro e; exact absurd e.symm (by assumption))) look_hd))), ?_⟩, ?_⟩
            | exact .nil _ _
            | exact .rd _ _ _
            | refine LeL.cons ?_ ?_
            | exact LeL.nil
            | refine Le1.of_eq ?_))
          · (repeat' (first
            | exact trivial
            | exact LeL.refl _
            | exact .refl _
            | refine ⟨⟨_, rfl, ?_⟩, ?_⟩
            | refine ⟨⟨_, look_hd, ?_⟩, ?_⟩
            | refine ⟨⟨_, look_tl (by first | assumption | (intro e; exact absurd e.symm (by assumption))) look_hd, ?_⟩, ?_⟩
            | refine ⟨⟨_, look_tl (by first | assumption | (intro e; exact absurd e.symm (by assumption))) (look_tl (by first | assumption | (intro e; exact absurd e.symm (by assumption))) look_hd), ?_⟩, ?_⟩
            | refine ⟨⟨_, look_tl (by first | assumption | (intro e; exact absurd e.symm (by assumption))) (look_tl (by first | assumption | (intro e; exact absurd e.symm (by assumption))) (look_tl (by first | assumption | (intro e; exact absurd e.symm (by assumption))) look_hd)), ?_⟩, ?_⟩
            | refine ⟨⟨_, look_tl (by first | assumption | (intro e; exact absurd e.symm (by assumption))) (look_tl (by first | assumption | (intro e; exact absurd e.symm (by assumption))) (look_tl (by first | assumption | (intro e; exact absurd e.symm (by assumption))) (look_tl (by first | assumption | (intro e; exact absurd e.symm (by assumption))) look_hd))), ?_⟩, ?_⟩
            | exact .nil _ _
            | exact .rd _ _ _
            | refine LeL.cons ?_ ?_
            | exact LeL.nil
            | refine Le1.of_eq ?_))
      · have hR : readR s = ([], checkB (L.map toSr)) := by unfold readR; rw [if_neg h20, hrb]; simp only [if_neg he]
        rw [hR]
        repeat (first
          | ((first | apply ar_un | apply stk_un); (next => (first | (simp only [go_sem, Nat.reduceBEq, Nat.reduceEqDiff, reduceIte, reduceCtorEq, String.reduceEq, Nat.reduceAdd, Int.reduceToNat]; exact rfl) | exact rfl)))
          | (apply ar_op' rfl rfl rfl rfl; (next => (first
           | (refine evalE_ok (T := TT) rfl ?_; (first | exact trivial | omega | (simp [NFL] <;> omega)))
           | (apply opk ⟨_, .move _, _, _, _, _⟩; first | exact opv_const (cst_plain _) (.inl rfl) | fail)
           | (apply opk ⟨_, .binOp .neq _ _ _ _, _, _, _, _⟩; first
            | (refine opv_cmp_t rfl rfl rfl ?_; (next => (first | exact rfl | (simp only [cmpP]; omega) | (simp only [cmpP]; simp [NFL] <;> omega))))
            | (refine opv_cmp_f rfl rfl rfl ?_; (next => (first | exact rfl | (simp only [cmpP]; omega) | (simp only [cmpP]; simp [NFL] <;> omega))))
            | exact opv_bin rfl rfl rfl
            | (refine opv_sne_t rfl rfl rfl ?_; (next => (first | rfl | assumption)))
            | (refine opv_sne_f rfl rfl rfl ?_; (next => (first | rfl | assumption)))
            | exact opv_str rfl rfl rfl
            | fail)
           | (apply opk ⟨_, .binOp .gtr _ _ _ _, _, _, _, _⟩; first
            | (refine opv_cmp_t rfl rfl rfl ?_; (next => (first | exact rfl | (simp only [cmpP]; omega) | (simp only [cmpP]; simp [NFL] <;> omega))))
            | (refine opv_cmp_f rfl rfl rfl ?_; (next => (first | exact rfl | (simp only [cmpP]; omega) | (simp only [cmpP]; simp [NFL] <;> omega))))
            | exact opv_bin rfl rfl rfl
            | exact opv_str rfl rfl rfl
            | fail)
           | (apply opk ⟨_, .call { callee := .builtin .len, args := _, argTypes := _ }, _, _, _, _⟩; first
            | exact opv_len_str (T := TT) rfl rfl rfl
            | exact opv_len_sl (T := TT) rfl rfl rfl
            | exact opv_len_nil (T := TT) rfl rfl rfl
            | fail)
           | (apply opk ⟨_, .load _ _, _, _, _, _⟩; first | exact opv_load_el (T := TT) rfl rfl rfl | exact opv_load_els (T := TT) rfl rfl rfl rfl | fail)
           | fail)))
          | (refine arO _ ?_; first
           | (refine arO ⟨_, .move _, _, _, _, _⟩ ?_; first | refine ar_move_sl rfl rfl rfl rfl ?_ | fail)
           | (refine arO ⟨_, .assign _, _, _, _, _⟩ ?_; first
            | refine ar_assign_sl rfl rfl rfl rfl ?_
            | refine ar_op rfl rfl rfl rfl (opv_const (cst_plain _) (.inr rfl)) ?_
            | fail)
           | (refine arO ⟨_, .load _ _, _, _, _, _⟩ ?_; first
            | refine ar_load_own (T := TT) rfl rfl rfl rfl look_hd rfl rfl rfl rfl ?_
            | (refine ar_load_own (T := TT) rfl rfl rfl rfl (look_tl ?_ look_hd) rfl rfl rfl rfl ?_; (next => (first | assumption | (intro e; exact absurd e.symm (by assumption)))))
            | (refine ar_load_own (T := TT) rfl rfl rfl rfl (look_tl ?_ (look_tl ?_ look_hd)) rfl rfl rfl rfl ?_; (next => (first | assumption | (intro e; exact absurd e.symm (by assumption)))); (next => (first | assumption | (intro e; exact absurd e.symm (by assumption)))))
            | fail)
           | (refine arO ⟨_, .store _ _ _, _, _, _, _⟩ ?_; first
            | (apply ar_effM rfl rfl; (next => (first
             | (apply effTo_store_own (T := TT) rfl rfl rfl; (next => (first
              | rfl
              | exact look_hd
              | assumption
              | ((repeat (first | exact look_hd | assumption | (apply look_tl; (next => (first | assumption | (intro e; exact absurd e.symm (by assumption)) | fail))) | fail)); done)
              | fail)); (next => rfl); (next => rfl); (next => rfl))
             | (apply effTo_store (T := TT) rfl; (next => (first
              | rfl
              | exact look_hd
              | assumption
              | ((repeat (first | exact look_hd | assumption | (apply look_tl; (next => (first | assumption | (intro e; exact absurd e.symm (by assumption)) | fail))) | fail)); done)
              | fail)); (next => rfl); (next => rfl); (next => rfl); (next => rfl); (next => rfl); (next => rfl); (next => rfl); (next => rfl))
             | fail)))
            | fail)
           | (refine arO ⟨_, .alloc _, _, _, _, _⟩ ?_; first
            | (refine ar_eff rfl rfl (eff_alloc (T := TT) rfl rfl ?_); intro kb hkb; (repeat (have hkn := (freshK_ne hkb).1; replace hkb := (freshK_ne hkb).2)); (try have hkl := freshK_look hkb); clear hkb; refine ar_nf ?_)
            | fail)
           | (refine arO ⟨_, .call { callee := .value _, args := _, argTypes := _ }, _, _, _, _⟩ ?_; first
            | (apply ar_callM0 rfl (check_a L hg) rfl rfl; (next => (repeat (first
             | exact PArgs.nil
             | (apply PArgs.cons; (next => (first
              | exact PArg.own rfl rfl
              | exact PArg.rd rfl (Le1.refl _) rfl
              | exact PArg.rd rfl (Le1.rd _ _ _) rfl
              | exact PArg.nil rfl
              | exact PArg.rd rfl (Le1.nil _ _) rfl
              | (refine PArg.rd rfl (Le1.of_eq ?_) rfl; congr 2 <;> (first | omega | (simp; omega) | (simp [NFL]; done))))))))); (next => rfl); (next => rfl); rintro _ _ ⟨rfl, rfl⟩; refine ⟨_, rfl, ?_⟩)
            | fail)
           | fail)
          | refine ar_seq ?_
          | (refine arE ?_; refine ar_endM [0, 2, 3, 4, 7, 15] rfl ?_)
          | refine ar_region ?_
          | refine ar_block ?_
          | refine ar_skip ?_
          | refine ar_blk ?_
          | refine ar_dedup rfl ?_
          | (refine arC (.cond _ _ _) ?_; first
           | (refine ar_cond_true rfl ?_ ?_; (next => (first | rfl | (simp only [decide_eq_true_eq, beq_iff_eq, bne_iff_ne, ge_iff_le, gt_iff_lt, ne_eq, Bool.not_eq_true', decide_eq_false_iff_not]; omega))))
           | (refine ar_cond_false rfl ?_ ?_; (next => (first
            | rfl
            | (simp only [decide_eq_false_iff_not, beq_eq_false_iff_ne, bne_eq_false_iff_eq, ge_iff_le, gt_iff_lt, ne_eq, Bool.not_eq_false', decide_eq_true_eq]; omega))))
           | fail)
          | refine ar_exit ?_
          | refine stk_b_hit ?_
          | refine stk_b_miss rfl ?_
          | refine stk_c_exit ?_
          | refine stk_l_exit ?_
          | fail
          | refine stk_c_ret ?_
          | refine stk_b_ret ?_
          | refine stk_l_ret ?_
          | refine stk_nil ?_
          | fail)
        refine ar_ret ?_
        (repeat (first | refine stk_c_ret ?_ | refine stk_b_ret ?_))
        refine stk_nil (((read1_ret kr kb (.v (.slice none 0 0)) (.v (.int .i64 (checkB (L.map toSr) : Nat))) hkn).sub (look_two (by first | exact look_hd | exact look_tl hkn look_hd | exact look_tl (fun e => hkn e.symm) look_hd) (by first | exact look_hd | exact look_tl hkn look_hd | exact look_tl (fun e => hkn e.symm) look_hd))).conv fun out H' ⟨e1, e2, e3⟩ => ⟨[(kr, [.sl true 2 (([] : List Srs).map srsRow)]), (kb, [.v (.int .i64 (checkB (L.map toSr) : Nat))])], fun F X tm t ht hsim => ?_, .tu [], _, [], e1, res_read (L := ([] : List Srs)) (n := checkB (L.map toSr)) rfl rfl look_hd (look_tl (by first | exact hkn | exact fun e => hkn e.symm) look_hd), fun k cs h => by simp [look_nil] at h, rfl, rfl⟩)
        rcases ht with rfl | ⟨u, hu, rfl⟩
        · refine hsim.le ⟨rfl, trivial, ⟨⟨_, e2, ?_⟩, ⟨_, e3, ?_⟩, trivial⟩, rfl⟩
          · (repeat' (first
            | exact trivial
            | exact LeL.refl _
            | exact .refl _
            | refine ⟨⟨_, rfl, ?_⟩, ?_⟩
            | refine ⟨⟨_, look_hd, ?_⟩, ?_⟩
            | refine ⟨⟨_, look_tl (by first | assumption | (intro e; exact absurd e.symm (by assumption))) look_hd, ?_⟩, ?_⟩
            | refine ⟨⟨_, look_tl (by first | assumption | (intro e; exact absurd e.symm (by assumption))) (look_tl (by first | assumption | (intro e; exact absurd e.symm (by assumption))) look_hd), ?_⟩, ?_⟩
            | refine ⟨⟨_, look_tl (by first | assumption | (intro e; exact absurd e.symm (by assumption))) (look_tl (by first | assumption | (intro e; exact absurd e.symm (by assumption))) (look_tl (by first | assumption | (intro e; exact absurd e.symm (by assumption))) look_hd)), ?_⟩, ?_⟩
            | refine ⟨⟨_, look_tl (by first | assumption | (intro e; exact absurd e.symm (by assumption))) (look_tl (by first | assumption | (intro e; exact absurd e.symm (by assumption))) (look_tl (by first | assumption | (intro e; exact absurd e.symm (by assumption))) (look_tl (by first | assumption | (intro e; exact absurd e.symm (by assumption))) look_hd))), ?_⟩, ?_⟩
            | exact .nil _ _
            | exact .rd _ _ _
            | refine LeL.cons ?_ ?_
            | exact LeL.nil
            | refine Le1.of_eq ?_))
          · (repeat' (first
            | exact trivial
            | exact LeL.refl _
            | exact .refl _
            | refine ⟨⟨_, rfl, ?_⟩, ?_⟩
            | refine ⟨⟨_, look_hd, ?_⟩, ?_⟩
            | refine ⟨⟨_, look_tl (by first | assumption | (intro e; exact absurd e.symm (by assumption))) look_hd, ?_⟩, ?_⟩
            | refine ⟨⟨_, look_tl (by first | assumption | (intro e; exact absurd e.symm (by assumption))) (look_tl (by first | assumption | (intro e; exact absurd e.symm (by assumption))) look_hd), ?_⟩, ?_⟩
            | refine ⟨⟨_, look_tl (by first | assumption | (intro e; exact absurd e.symm (by assumption))) (look_tl (by first | assumption | (intro e; exact absurd e.symm (by assumption))) (look_tl (by first | assumption | (intro e; exact absurd e.symm (by assumption))) look_hd)), ?_⟩, ?_⟩
            | refine ⟨⟨_, look_tl (by first | assumption | (intro e; exact absurd e.symm (by assumption))) (look_tl (by first | assumption | (intro e; exact absurd e.symm (by assumption))) (look_tl (by first | assumption | (intro e; exact absurd e.symm (by assumption))) (look_tl (by first | assumption | (intro e; exact absurd e.symm (by assumption))) look_hd))), ?_⟩, ?_⟩
            | exact .nil _ _
            | exact .rd _ _ _
            | refine LeL.cons ?_ ?_
            | exact LeL.nil
            | refine Le1.of_eq ?_))
        · refine hsim.le ⟨rfl, ⟨⟨_, look_hd, .refl _⟩, trivial⟩, ⟨⟨_, e2, ?_⟩, ⟨_, e3, ?_⟩, trivial⟩, rfl⟩
          · (repeat' (first
            | exact trivial
            | exact LeL.refl _
            | exact .refl _
            | refine ⟨⟨_, rfl, ?_⟩, ?_⟩
            | refine ⟨⟨_, look_hd, ?_⟩, ?_⟩
            | refine ⟨⟨_, look_tl (by first | assumption | (intro e; exact absurd e.symm (by assumption))) look_hd, ?_⟩, ?_⟩
            | refine ⟨⟨_, look_tl (by first | assumption | (intro e; exact absurd e.symm (by assumption))) (look_tl (by first | assumption | (intro e; exact absurd e.symm (by assumption))) look_hd), ?_⟩, ?_⟩
            | refine ⟨⟨_, look_tl (by first | assumption | (intro e; exact absurd e.symm (by assumption))) (look_tl (by first | assumption | (intro e; exact absurd e.symm (by assumption))) (look_tl (by first | assumption | (intro e; exact absurd e.symm (by assumption))) look_hd)), ?_⟩, ?_⟩
            | refine ⟨⟨_, look_tl (by first | assumption | (intro e; exact absurd e.symm (by assumption))) (look_tl (by first | assumption | (intro e; exact absurd e.symm (by assumption))) (look_tl (by first | assumption | (intro e; exact absurd e.symm (by assumption))) (look_tl (by first | assumption | (intro e; exact absurd e.symm (by assumption))) look_hd))), ?_⟩, ?_⟩
            | exact .nil _ _
            | exact .rd _ _ _
            | refine LeL.cons ?_ ?_
            | exact LeL.nil
            | refine Le1.of_eq ?_))
          · (repeat' (first
            | exact trivial
            | exact LeL.refl _
            | exact .refl _
            | refine ⟨⟨_, rfl, ?_⟩, ?_⟩
            | refine ⟨⟨_, look_hd, ?_⟩, ?_⟩
            | refine ⟨⟨_, look_tl (by first | assumption | (intro e; exact absurd e.symm (by assumption))) look_hd, ?_⟩, ?_⟩
            | refine ⟨⟨_, look_tl (by first | assumption | (intro e; exact absurd e.symm (by assumption))) (look_tl (by first | assumption | (intro e; exact absurd e.symm (by assumption))) look_hd), ?_⟩, ?_⟩
            | refine ⟨⟨_, look_tl (by first | assumption | (intro e; exact absurd e.symm (by assumption))) (look_tl (by first | assumption | (intro e; exact absurd e.symm (by assumption))) (look_tl (by first | assumption | (intro e; exact absurd e.symm (by assumption))) look_hd)), ?_⟩, ?_⟩
            | refine ⟨⟨_, look_tl (by first | assumption | (intro e; exact absurd e.symm (by assumption))) (look_tl (by first | assumption | (intro e; exact absurd e.symm (by assumption))) (look_tl (by first | assumption | (intro e; exact absurd e.symm (by assumption))) (look_tl (by first | assumption | (intro e; exact absurd e.symm (by assumption))) look_hd))), ?_⟩, ?_⟩
            | exact .nil _ _
            | exact .rd _ _ _
            | refine LeL.cons ?_ ?_
            | exact LeL.nil
            | refine Le1.of_eq ?_))
end Go.Proofs.Ytophpbihcfdkcaa
