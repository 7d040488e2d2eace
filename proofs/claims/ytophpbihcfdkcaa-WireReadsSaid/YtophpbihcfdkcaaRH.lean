/- The reference's comparisons of labels, samples, series, walked over abstract values. -/
import Derived.Test.YtophpbihcfdkcaaRF
import Derived.Laws.StructEq
namespace Go.Proofs.Ytophpbihcfdkcaa
open Go.RowKit P
set_option linter.unusedSimpArgs false
set_option linter.unusedVariables false
attribute [local irreducible] AS.nf OpV ARun Stk QSem QSemA ACalls EffOp AppOk SrcOk Awp Aops
set_option maxHeartbeats 8000000

theorem neq_label (a b a' b' : ByteArray) (w : World) : (binOp .neq 48 (.agg #[.string a, .string b]) (.agg #[.string a', .string b'])).run Try.prog w = .ok (.bool (!(a.toList == a'.toList && b.toList == b'.toList))) w := by
  rw [run_neq_struct, run_equalIn_agg w 9999 48 _ _ (by kernel_rfl) Try.stoodInHeld48]
  have hf : (Try.prog.fieldsOf 48).toList = [{ name := "Name", type := 9, offset := 0, embedded := false, tag := "", pkgPath := "", byteOffset := 0 }, { name := "Value", type := 9, offset := 1, embedded := false, tag := "", pkgPath := "", byteOffset := 16 }] := by kernel_rfl
  rw [hf]
  simp [go_sem, Op.eqFields, part, run_equalIn_string, Try.underlying9]
  by_cases h1 : a.toList = a'.toList <;> by_cases h2 : b.toList = b'.toList <;> simp [h1, h2]
theorem neq_sample (a b a' b' : Int) (w : World) : (binOp .neq 56 (.agg #[.int .i64 a, .int .u64 b]) (.agg #[.int .i64 a', .int .u64 b'])).run Try.prog w = .ok (.bool (!(a == a' && b == b'))) w := by
  rw [run_neq_struct, run_equalIn_agg w 9999 56 _ _ (by kernel_rfl) Try.stoodInHeld56]
  have hf : (Try.prog.fieldsOf 56).toList = [{ name := "Time", type := 3, offset := 0, embedded := false, tag := "", pkgPath := "", byteOffset := 0 }, { name := "Bits", type := 22, offset := 1, embedded := false, tag := "", pkgPath := "", byteOffset := 8 }] := by kernel_rfl
  rw [hf]
  simp [go_sem, Op.eqFields, part, run_equalIn_int, Try.underlying3, Try.underlying22]
  by_cases h1 : a = a' <;> by_cases h2 : b = b' <;> simp [h1, h2]
section
variable {P : Program} {σ : AS} {T : Tys P} {t yt ty e : TypeId} {x y : Operand} {pos : String} {af : Array Edge} {g : Option (Nat × Bool)} {dd : Option Tmp}
theorem rel_ag2 {X : GW} {p q v : Value} (h : Rel X (.ag [.v p, .v q]) v) : v = .agg #[p, q] := by
  cases h with
  | ag _ xs hl hr =>
    have h2 : xs.size = 2 := by simpa using hl.symm
    congr 1
    apply Array.ext
    · simpa using h2
    · intro i h1 h3
      have hxi : xs[i]? = some xs[i] := Array.getElem?_eq_getElem h1
      match i, h1, h3, hxi with
      | 0, h1, _, hxi => exact rel_v (hr 0 (.v p) _ rfl hxi)
      | 1, h1, _, hxi => exact rel_v (hr 1 (.v q) _ rfl hxi)
      | i + 2, h1, _, _ => omega
theorem opv_neq_struct {p q p' q' : Value} {r : Bool} (hrun : ∀ w, (binOp .neq t (.agg #[p, q]) (.agg #[p', q'])).run P w = .ok (.bool r) w) (hg : P.eqGuardType P.depth t = false) (hx : opV σ x = some (.ag [.v p, .v q])) (hy : opV σ y = some (.ag [.v p', .v q'])) : OpV P ⟨dd, .binOp .neq t x y yt, ty, pos, af, g⟩ σ (.v (.bool r)) := by
  refine opv_same rfl fun F X ac hs => ⟨.bool r, ?_, .v _⟩
  have h1 := rel_ag2 (opV_rel hs (by simp [Op.operands]) hx)
  have h2 := rel_ag2 (opV_rel hs (by simp [Op.operands]) hy)
  simp only [execOp, h1, h2]
  refine run_val ?_
  simp [run_eqGuard_agg, hg, hrun]
theorem opv_indexaddr_map {α : Type} (row : α → List AV) (l : List α) (j : Nat) (z : α) {k : IntKind} {o : Bool} {sz : Nat} {i : Int} {by_ : Nat} (hz : l[j]? = some z) (hx : opV σ x = some (.sl o sz (l.map row))) (hy : opV σ y = some (.v (.int k i))) (hi : i = j) (h0 : look T.ty t = some (.slice e)) (hsz : look T.sz e = some (sz, by_)) : OpV P ⟨dd, .indexAddr t x y, ty, pos, af, g⟩ σ (.el (row z)) := by
  subst hi
  have hj := (List.getElem?_eq_some_iff.1 hz).1
  refine opv_eq (opv_indexaddr (T := T) hx hy h0 hsz (by omega) (by simp; omega)) ?_
  congr 1
  simp [List.getD_eq_getElem?_getD, hz]
end
theorem lblEq (y y' : Lbl) : (!((mkB y.1).toList == (mkB y'.1).toList && (mkB y.2).toList == (mkB y'.2).toList)) = !decide (y = y') := by
  obtain ⟨a, b⟩ := y; obtain ⟨a', b'⟩ := y'
  simp only [toList_bs, bsOf_mkB]
  by_cases h1 : a = a' <;> by_cases h2 : b = b' <;> simp [h1, h2]
theorem smpEq (y y' : Smp) : (!(y.1 == y'.1 && (y.2 : Int) == (y'.2 : Int))) = !decide (y = y') := by
  obtain ⟨a, b⟩ := y; obtain ⟨a', b'⟩ := y'
  by_cases h1 : a = a'
  · by_cases h2 : b = b'
    · simp [h1, h2]
    · have : ¬ ((b : Int) = b') := by omega
      simp [h1, h2, this]
  · simp [h1]
section
variable {σ : AS} {yt ty : TypeId} {x y : Operand} {pos : String} {af : Array Edge} {g : Option (Nat × Bool)} {dd : Option Tmp}
theorem opv_neq_label (z z' : Lbl) (hx : opV σ x = some (.ag (lblRow z))) (hy : opV σ y = some (.ag (lblRow z'))) : OpV Try.prog ⟨dd, .binOp .neq 48 x y yt, ty, pos, af, g⟩ σ (.v (.bool (!decide (z = z')))) := by
  rw [← lblEq]
  exact opv_neq_struct (neq_label _ _ _ _) Try.eqGuardType48 hx hy
theorem opv_neq_sample (z z' : Smp) (hx : opV σ x = some (.ag (smpRow z))) (hy : opV σ y = some (.ag (smpRow z'))) : OpV Try.prog ⟨dd, .binOp .neq 56 x y yt, ty, pos, af, g⟩ σ (.v (.bool (!decide (z = z')))) := by
  rw [← smpEq]
  exact opv_neq_struct (neq_sample _ _ _ _) Try.eqGuardType56 hx hy
end
theorem take_ne {α : Type} {l l' : List α} {k : Nat} (h1 : k < l.length) (h2 : k < l'.length) (h : l[k] ≠ l'[k]) : l ≠ l' := fun e => by subst e; exact h rfl
theorem take_eq_succ {α : Type} {l l' : List α} {k : Nat} (h1 : k < l.length) (h2 : k < l'.length) (h0 : l.take k = l'.take k) (h : l[k] = l'[k]) : l.take (k + 1) = l'.take (k + 1) := by
  rw [List.take_succ_eq_append_getElem h1, List.take_succ_eq_append_getElem h2, h0, h]

set_option maxRecDepth 100000 in
theorem sameLabels_a (l l' : List Lbl) (hl : l.length ≤ 20000) (hl' : l'.length ≤ 20000) : ACalls Try.prog 48 [.sl false 2 (l.map lblRow), .sl false 2 (l'.map lblRow)] [] (fun out H => out = .ret (.v (.bool (decide (l = l')))) ∧ H = []) := by
  refine acalls_enter _ 26 [.tmp 4] Try.func48 (by kernel_rfl) rfl rfl rfl rfl ?_
  dsimp only [slotsOf]
  have hm : (l.map lblRow).length = l.length := List.length_map ..
  have hm' : (l'.map lblRow).length = l'.length := List.length_map ..
  by_cases hlen : l.length = l'.length
  · repeat (first
    | ((first | apply ar_un); (next => (first | (simp only [go_sem, Nat.reduceBEq, Nat.reduceEqDiff, reduceIte, reduceCtorEq, String.reduceEq, Nat.reduceAdd, Int.reduceToNat]; exact rfl))))
    | ((first | apply ar_op' rfl rfl rfl rfl); (next => (first
     | (refine evalE_ok (T := TT) rfl ?_; (first | exact trivial))
     | (apply opk ⟨_, .binOp .neq _ _ _ _, _, _, _, _⟩; first | (refine opv_cmp_f rfl rfl rfl ?_; (next => (first | (simp only [cmpP]; omega)))) | fail)
     | (apply opk ⟨_, .call { callee := .builtin .len, args := _, argTypes := _ }, _, _, _, _⟩; first | exact opv_len_sl (T := TT) rfl rfl rfl | fail)
     | fail)))
    | (refine arO _ ?_; first | (refine arO ⟨_, .move _, _, _, _, _⟩ ?_; first | refine ar_move_sl rfl rfl rfl rfl ?_ | fail) | fail)
    | refine ar_seq ?_
    | (refine arE ?_; refine ar_endM [0, 1, 4, 5, 10, 14, 25] rfl ?_)
    | refine ar_region ?_
    | refine ar_block ?_
    | refine ar_skip ?_
    | (refine arC (.cond _ _ _) ?_; first | (refine ar_cond_false rfl ?_ ?_; (next => (first | rfl))) | fail)
    | fail)
    refine ar_loop (fun y : Nat => ⟨26, [(0, .sl false 2 (l.map lblRow)), (1, .sl false 2 (l'.map lblRow)), (4, .v (.bool false)), (5, .v (.int .i64 y))], [], []⟩) (fun y => y ≤ l.length ∧ l.take y = l'.take y) (fun y => l.length - y) 0 ⟨rfl, ?_, ?_, rfl⟩ ⟨Nat.zero_le _, rfl⟩ ?_
    · (repeat' (first | exact trivial | exact .refl _ | refine ⟨⟨_, rfl, ?_⟩, ?_⟩))
    · (repeat' (first | exact trivial))
    rintro k ⟨hk, ht⟩
    (try dsimp only)
    by_cases hkl : k = l.length
    · have he : l = l' := by rw [List.take_of_length_le (by omega), List.take_of_length_le (by omega)] at ht; exact ht
      repeat (first
        | ((first | apply ar_un | apply stk_un); (next => (first | (simp only [go_sem, Nat.reduceBEq, Nat.reduceEqDiff, reduceIte, reduceCtorEq, String.reduceEq, Nat.reduceAdd, Int.reduceToNat]; exact rfl))))
        | (refine arC .ret ?_; refine ar_retM0 [4] ?_)
        | ((first | apply ar_op' rfl rfl rfl rfl); (next => (first
         | (refine evalE_ok (T := TT) rfl ?_; (first | exact trivial))
         | (apply opk ⟨_, .binOp .lss _ _ _ _, _, _, _, _⟩; first | (refine opv_cmp_f rfl rfl rfl ?_; (next => (first | (simp only [cmpP]; omega)))) | fail)
         | (apply opk ⟨_, .call { callee := .builtin .len, args := _, argTypes := _ }, _, _, _, _⟩; first | exact opv_len_sl (T := TT) rfl rfl rfl | fail)
         | fail)))
        | (refine arO _ ?_; first | (refine arO ⟨_, .move _, _, _, _, _⟩ ?_; first | refine ar_move_sl rfl rfl rfl rfl ?_ | fail) | fail)
        | refine ar_seq ?_
        | (refine arE ?_; refine ar_endM [0, 1, 4, 5, 10, 14, 25] rfl ?_)
        | refine ar_region ?_
        | (refine arC (.cond _ _ _) ?_; first | (refine ar_cond_false rfl ?_ ?_; (next => (first | rfl))) | fail)
        | refine ar_exit ?_
        | refine stk_b_hit ?_
        | refine stk_c_exit ?_
        | refine stk_l_exit ?_
        | refine stk_nil ?_
        | fail)
      first | exact qret_mk rfl (⟨by simp [he], rfl⟩) | (trace_state; exact qret_mk rfl (⟨by simp [he], rfl⟩))
    · have h1 : k < l.length := by omega
      have h2 : k < l'.length := by omega
      have hz : l[k]? = some l[k] := List.getElem?_eq_getElem h1
      have hz' : l'[k]? = some l'[k] := List.getElem?_eq_getElem h2
      by_cases hyy : l[k] = l'[k]
      · repeat (first
        | ((first | apply ar_un); (next => (first | (simp only [go_sem, Nat.reduceBEq, Nat.reduceEqDiff, reduceIte, reduceCtorEq, String.reduceEq, Nat.reduceAdd, Int.reduceToNat]; exact rfl))))
        | ((first | apply ar_op' rfl rfl rfl rfl | apply q_op rfl rfl rfl); (next => (first
         | exact opv_indexaddr_map (T := TT) lblRow l k l[k] hz rfl rfl rfl rfl rfl
         | exact opv_indexaddr_map (T := TT) lblRow l' k l'[k] hz' rfl rfl rfl rfl rfl
         | exact opv_neq_label l[k] l'[k] rfl rfl
         | fail)))
        | ((first | apply ar_op' rfl rfl rfl rfl | apply q_op rfl rfl rfl); (next => (first
         | (refine evalE_ok (T := TT) rfl ?_; (first | exact trivial | omega))
         | (apply opk ⟨_, .binOp .lss _ _ _ _, _, _, _, _⟩; first | (refine opv_cmp_t rfl rfl rfl ?_; (next => (first | (simp only [cmpP]; omega)))) | fail)
         | (apply opk ⟨_, .call { callee := .builtin .len, args := _, argTypes := _ }, _, _, _, _⟩; first | exact opv_len_sl (T := TT) rfl rfl rfl | fail)
         | (apply opk ⟨_, .load _ _, _, _, _, _⟩; first | exact opv_load_els (T := TT) rfl rfl rfl rfl | fail)
         | fail)))
        | (refine arO _ ?_; first | (refine arO ⟨_, .move _, _, _, _, _⟩ ?_; first | refine ar_move_sl rfl rfl rfl rfl ?_ | fail) | fail)
        | (apply q_op rfl rfl rfl; (next => (first | exact opv_move_rd rfl (.inl rfl) | fail)))
        | refine ar_seq ?_
        | (refine arE ?_; refine ar_endM [0, 1, 4, 5, 10, 14, 25] rfl ?_)
        | refine ar_region ?_
        | refine ar_block ?_
        | refine ar_skip ?_
        | refine ar_blk ?_
        | (refine arC (.cond _ _ _) ?_; first
         | (refine ar_cond_true rfl ?_ ?_; (next => (first | rfl)))
         | (refine ar_cond_false rfl ?_ ?_; (next => (first
          | (simp only [decide_eq_false_iff_not, beq_eq_false_iff_ne, bne_eq_false_iff_eq, ge_iff_le, gt_iff_lt, ne_eq, Bool.not_eq_false', decide_eq_true_eq]; omega))))
         | fail)
        | (refine arC (.region _ _ true) ?_; refine ar_nop (ar_draw mixed (by kernel_rfl) rfl ?_))
        | (refine q_nil ?_; refine ar_endM [0, 1, 4, 5, 10, 14, 25] rfl ?_)
        | fail)
        refine ar_back ⟨k + 1, ⟨rfl, ?_, ?_, rfl⟩, ⟨by omega, take_eq_succ h1 h2 ht hyy⟩, by omega⟩
        · (repeat' (first | exact trivial | exact .refl _ | refine ⟨⟨_, rfl, ?_⟩, ?_⟩))
        · (repeat' (first | exact trivial))
      · have hne : ¬ l = l' := take_ne h1 h2 hyy
        repeat (first
          | ((first | apply ar_un | apply stk_un); (next => (first | (simp only [go_sem, Nat.reduceBEq, Nat.reduceEqDiff, reduceIte, reduceCtorEq, String.reduceEq, Nat.reduceAdd, Int.reduceToNat]; exact rfl))))
          | (refine arC .ret ?_; refine ar_retM0 [4] ?_)
          | ((first | apply ar_op' rfl rfl rfl rfl | apply q_op rfl rfl rfl); (next => (first
           | exact opv_indexaddr_map (T := TT) lblRow l k l[k] hz rfl rfl rfl rfl rfl
           | exact opv_indexaddr_map (T := TT) lblRow l' k l'[k] hz' rfl rfl rfl rfl rfl
           | exact opv_neq_label l[k] l'[k] rfl rfl
           | fail)))
          | ((first | apply ar_op' rfl rfl rfl rfl | apply q_op rfl rfl rfl); (next => (first
           | (refine evalE_ok (T := TT) rfl ?_; (first | exact trivial))
           | (apply opk ⟨_, .binOp .lss _ _ _ _, _, _, _, _⟩; first | (refine opv_cmp_t rfl rfl rfl ?_; (next => (first | (simp only [cmpP]; omega)))) | fail)
           | (apply opk ⟨_, .call { callee := .builtin .len, args := _, argTypes := _ }, _, _, _, _⟩; first | exact opv_len_sl (T := TT) rfl rfl rfl | fail)
           | (apply opk ⟨_, .load _ _, _, _, _, _⟩; first | exact opv_load_els (T := TT) rfl rfl rfl rfl | fail)
           | fail)))
          | (refine arO _ ?_; first | (refine arO ⟨_, .move _, _, _, _, _⟩ ?_; first | refine ar_move_sl rfl rfl rfl rfl ?_ | fail) | fail)
          | (apply q_op rfl rfl rfl; (next => (first | exact opv_move_rd rfl (.inl rfl) | fail)))
          | refine ar_seq ?_
          | (refine arE ?_; refine ar_endM [0, 1, 4, 5, 10, 14, 25] rfl ?_)
          | refine ar_region ?_
          | refine ar_block ?_
          | refine ar_skip ?_
          | (refine arC (.cond _ _ _) ?_; first
           | (refine ar_cond_true rfl ?_ ?_; (next => (first | rfl | (simp only [decide_eq_true_eq, beq_iff_eq, bne_iff_ne, ge_iff_le, gt_iff_lt, ne_eq, Bool.not_eq_true', decide_eq_false_iff_not]; omega))))
           | fail)
          | refine stk_c_ret ?_
          | refine stk_b_ret ?_
          | refine stk_l_ret ?_
          | refine stk_nil ?_
          | (refine arC (.region _ _ true) ?_; refine ar_nop (ar_draw mixed (by kernel_rfl) rfl ?_))
          | (refine q_nil ?_; refine ar_endM [0, 1, 4, 5, 10, 14, 25] rfl ?_)
          | fail)
        first | exact qret_mk rfl (⟨by simp [hne], rfl⟩) | (trace_state; exact qret_mk rfl (⟨by simp [hne], rfl⟩))
  · have hne : ¬ l = l' := fun e => hlen (by rw [e])
    repeat (first
      | ((first | apply ar_un | apply stk_un); (next => (first | (simp only [go_sem, Nat.reduceBEq, Nat.reduceEqDiff, reduceIte, reduceCtorEq, String.reduceEq, Nat.reduceAdd, Int.reduceToNat]; exact rfl))))
      | (refine arC .ret ?_; refine ar_retM0 [4] ?_)
      | ((first | apply ar_op' rfl rfl rfl rfl); (next => (first
       | (refine evalE_ok (T := TT) rfl ?_; (first | exact trivial))
       | (apply opk ⟨_, .binOp .neq _ _ _ _, _, _, _, _⟩; first | (refine opv_cmp_t rfl rfl rfl ?_; (next => (first | (simp only [cmpP]; omega)))) | fail)
       | (apply opk ⟨_, .call { callee := .builtin .len, args := _, argTypes := _ }, _, _, _, _⟩; first | exact opv_len_sl (T := TT) rfl rfl rfl | fail)
       | fail)))
      | (refine arO _ ?_; first | (refine arO ⟨_, .move _, _, _, _, _⟩ ?_; first | refine ar_move_sl rfl rfl rfl rfl ?_ | fail) | fail)
      | refine ar_seq ?_
      | (refine arE ?_; refine ar_endM [0, 1, 4, 5, 10, 14, 25] rfl ?_)
      | refine ar_region ?_
      | (refine arC (.cond _ _ _) ?_; first | (refine ar_cond_true rfl ?_ ?_; (next => (first | rfl))) | fail)
      | refine stk_c_ret ?_
      | refine stk_nil ?_
      | fail)
    first | exact qret_mk rfl (⟨by simp [hne], rfl⟩) | (trace_state; exact qret_mk rfl (⟨by simp [hne], rfl⟩))

set_option maxRecDepth 100000 in
theorem sameSamples_a (l l' : List Smp) (hl : l.length ≤ 20000) (hl' : l'.length ≤ 20000) : ACalls Try.prog 49 [.sl false 2 (l.map smpRow), .sl false 2 (l'.map smpRow)] [] (fun out H => out = .ret (.v (.bool (decide (l = l')))) ∧ H = []) := by
  refine acalls_enter _ 26 [.tmp 4] Try.func49 (by kernel_rfl) rfl rfl rfl rfl ?_
  dsimp only [slotsOf]
  have hm : (l.map smpRow).length = l.length := List.length_map ..
  have hm' : (l'.map smpRow).length = l'.length := List.length_map ..
  by_cases hlen : l.length = l'.length
  · repeat (first
    | ((first | apply ar_un); (next => (first | (simp only [go_sem, Nat.reduceBEq, Nat.reduceEqDiff, reduceIte, reduceCtorEq, String.reduceEq, Nat.reduceAdd, Int.reduceToNat]; exact rfl))))
    | ((first | apply ar_op' rfl rfl rfl rfl); (next => (first
     | (refine evalE_ok (T := TT) rfl ?_; (first | exact trivial))
     | (apply opk ⟨_, .binOp .neq _ _ _ _, _, _, _, _⟩; first | (refine opv_cmp_f rfl rfl rfl ?_; (next => (first | (simp only [cmpP]; omega)))) | fail)
     | (apply opk ⟨_, .call { callee := .builtin .len, args := _, argTypes := _ }, _, _, _, _⟩; first | exact opv_len_sl (T := TT) rfl rfl rfl | fail)
     | fail)))
    | (refine arO _ ?_; first | (refine arO ⟨_, .move _, _, _, _, _⟩ ?_; first | refine ar_move_sl rfl rfl rfl rfl ?_ | fail) | fail)
    | refine ar_seq ?_
    | (refine arE ?_; refine ar_endM [0, 1, 4, 5, 10, 14, 25] rfl ?_)
    | refine ar_region ?_
    | refine ar_block ?_
    | refine ar_skip ?_
    | (refine arC (.cond _ _ _) ?_; first | (refine ar_cond_false rfl ?_ ?_; (next => (first | rfl))) | fail)
    | fail)
    refine ar_loop (fun y : Nat => ⟨26, [(0, .sl false 2 (l.map smpRow)), (1, .sl false 2 (l'.map smpRow)), (4, .v (.bool false)), (5, .v (.int .i64 y))], [], []⟩) (fun y => y ≤ l.length ∧ l.take y = l'.take y) (fun y => l.length - y) 0 ⟨rfl, ?_, ?_, rfl⟩ ⟨Nat.zero_le _, rfl⟩ ?_
    · (repeat' (first | exact trivial | exact .refl _ | refine ⟨⟨_, rfl, ?_⟩, ?_⟩))
    · (repeat' (first | exact trivial))
    rintro k ⟨hk, ht⟩
    (try dsimp only)
    by_cases hkl : k = l.length
    · have he : l = l' := by rw [List.take_of_length_le (by omega), List.take_of_length_le (by omega)] at ht; exact ht
      repeat (first
        | ((first | apply ar_un | apply stk_un); (next => (first | (simp only [go_sem, Nat.reduceBEq, Nat.reduceEqDiff, reduceIte, reduceCtorEq, String.reduceEq, Nat.reduceAdd, Int.reduceToNat]; exact rfl))))
        | (refine arC .ret ?_; refine ar_retM0 [4] ?_)
        | ((first | apply ar_op' rfl rfl rfl rfl); (next => (first
         | (refine evalE_ok (T := TT) rfl ?_; (first | exact trivial))
         | (apply opk ⟨_, .binOp .lss _ _ _ _, _, _, _, _⟩; first | (refine opv_cmp_f rfl rfl rfl ?_; (next => (first | (simp only [cmpP]; omega)))) | fail)
         | (apply opk ⟨_, .call { callee := .builtin .len, args := _, argTypes := _ }, _, _, _, _⟩; first | exact opv_len_sl (T := TT) rfl rfl rfl | fail)
         | fail)))
        | (refine arO _ ?_; first | (refine arO ⟨_, .move _, _, _, _, _⟩ ?_; first | refine ar_move_sl rfl rfl rfl rfl ?_ | fail) | fail)
        | refine ar_seq ?_
        | (refine arE ?_; refine ar_endM [0, 1, 4, 5, 10, 14, 25] rfl ?_)
        | refine ar_region ?_
        | (refine arC (.cond _ _ _) ?_; first | (refine ar_cond_false rfl ?_ ?_; (next => (first | rfl))) | fail)
        | refine ar_exit ?_
        | refine stk_b_hit ?_
        | refine stk_c_exit ?_
        | refine stk_l_exit ?_
        | refine stk_nil ?_
        | fail)
      first | exact qret_mk rfl (⟨by simp [he], rfl⟩) | (trace_state; exact qret_mk rfl (⟨by simp [he], rfl⟩))
    · have h1 : k < l.length := by omega
      have h2 : k < l'.length := by omega
      have hz : l[k]? = some l[k] := List.getElem?_eq_getElem h1
      have hz' : l'[k]? = some l'[k] := List.getElem?_eq_getElem h2
      by_cases hyy : l[k] = l'[k]
      · repeat (first
        | ((first | apply ar_un); (next => (first | (simp only [go_sem, Nat.reduceBEq, Nat.reduceEqDiff, reduceIte, reduceCtorEq, String.reduceEq, Nat.reduceAdd, Int.reduceToNat]; exact rfl))))
        | ((first | apply ar_op' rfl rfl rfl rfl | apply q_op rfl rfl rfl); (next => (first
         | exact opv_indexaddr_map (T := TT) smpRow l k l[k] hz rfl rfl rfl rfl rfl
         | exact opv_indexaddr_map (T := TT) smpRow l' k l'[k] hz' rfl rfl rfl rfl rfl
         | exact opv_neq_sample l[k] l'[k] rfl rfl
         | fail)))
        | ((first | apply ar_op' rfl rfl rfl rfl | apply q_op rfl rfl rfl); (next => (first
         | (refine evalE_ok (T := TT) rfl ?_; (first | exact trivial | omega))
         | (apply opk ⟨_, .binOp .lss _ _ _ _, _, _, _, _⟩; first | (refine opv_cmp_t rfl rfl rfl ?_; (next => (first | (simp only [cmpP]; omega)))) | fail)
         | (apply opk ⟨_, .call { callee := .builtin .len, args := _, argTypes := _ }, _, _, _, _⟩; first | exact opv_len_sl (T := TT) rfl rfl rfl | fail)
         | (apply opk ⟨_, .load _ _, _, _, _, _⟩; first | exact opv_load_els (T := TT) rfl rfl rfl rfl | fail)
         | fail)))
        | (refine arO _ ?_; first | (refine arO ⟨_, .move _, _, _, _, _⟩ ?_; first | refine ar_move_sl rfl rfl rfl rfl ?_ | fail) | fail)
        | (apply q_op rfl rfl rfl; (next => (first | exact opv_move_rd rfl (.inl rfl) | fail)))
        | refine ar_seq ?_
        | (refine arE ?_; refine ar_endM [0, 1, 4, 5, 10, 14, 25] rfl ?_)
        | refine ar_region ?_
        | refine ar_block ?_
        | refine ar_skip ?_
        | refine ar_blk ?_
        | (refine arC (.cond _ _ _) ?_; first
         | (refine ar_cond_true rfl ?_ ?_; (next => (first | rfl)))
         | (refine ar_cond_false rfl ?_ ?_; (next => (first
          | (simp only [decide_eq_false_iff_not, beq_eq_false_iff_ne, bne_eq_false_iff_eq, ge_iff_le, gt_iff_lt, ne_eq, Bool.not_eq_false', decide_eq_true_eq]; omega))))
         | fail)
        | (refine arC (.region _ _ true) ?_; refine ar_nop (ar_draw mixed (by kernel_rfl) rfl ?_))
        | (refine q_nil ?_; refine ar_endM [0, 1, 4, 5, 10, 14, 25] rfl ?_)
        | fail)
        refine ar_back ⟨k + 1, ⟨rfl, ?_, ?_, rfl⟩, ⟨by omega, take_eq_succ h1 h2 ht hyy⟩, by omega⟩
        · (repeat' (first | exact trivial | exact .refl _ | refine ⟨⟨_, rfl, ?_⟩, ?_⟩))
        · (repeat' (first | exact trivial))
      · have hne : ¬ l = l' := take_ne h1 h2 hyy
        repeat (first
          | ((first | apply ar_un | apply stk_un); (next => (first | (simp only [go_sem, Nat.reduceBEq, Nat.reduceEqDiff, reduceIte, reduceCtorEq, String.reduceEq, Nat.reduceAdd, Int.reduceToNat]; exact rfl))))
          | (refine arC .ret ?_; refine ar_retM0 [4] ?_)
          | ((first | apply ar_op' rfl rfl rfl rfl | apply q_op rfl rfl rfl); (next => (first
           | exact opv_indexaddr_map (T := TT) smpRow l k l[k] hz rfl rfl rfl rfl rfl
           | exact opv_indexaddr_map (T := TT) smpRow l' k l'[k] hz' rfl rfl rfl rfl rfl
           | exact opv_neq_sample l[k] l'[k] rfl rfl
           | fail)))
          | ((first | apply ar_op' rfl rfl rfl rfl | apply q_op rfl rfl rfl); (next => (first
           | (refine evalE_ok (T := TT) rfl ?_; (first | exact trivial))
           | (apply opk ⟨_, .binOp .lss _ _ _ _, _, _, _, _⟩; first | (refine opv_cmp_t rfl rfl rfl ?_; (next => (first | (simp only [cmpP]; omega)))) | fail)
           | (apply opk ⟨_, .call { callee := .builtin .len, args := _, argTypes := _ }, _, _, _, _⟩; first | exact opv_len_sl (T := TT) rfl rfl rfl | fail)
           | (apply opk ⟨_, .load _ _, _, _, _, _⟩; first | exact opv_load_els (T := TT) rfl rfl rfl rfl | fail)
           | fail)))
          | (refine arO _ ?_; first | (refine arO ⟨_, .move _, _, _, _, _⟩ ?_; first | refine ar_move_sl rfl rfl rfl rfl ?_ | fail) | fail)
          | (apply q_op rfl rfl rfl; (next => (first | exact opv_move_rd rfl (.inl rfl) | fail)))
          | refine ar_seq ?_
          | (refine arE ?_; refine ar_endM [0, 1, 4, 5, 10, 14, 25] rfl ?_)
          | refine ar_region ?_
          | refine ar_block ?_
          | refine ar_skip ?_
          | (refine arC (.cond _ _ _) ?_; first
           | (refine ar_cond_true rfl ?_ ?_; (next => (first | rfl | (simp only [decide_eq_true_eq, beq_iff_eq, bne_iff_ne, ge_iff_le, gt_iff_lt, ne_eq, Bool.not_eq_true', decide_eq_false_iff_not]; omega))))
           | fail)
          | refine stk_c_ret ?_
          | refine stk_b_ret ?_
          | refine stk_l_ret ?_
          | refine stk_nil ?_
          | (refine arC (.region _ _ true) ?_; refine ar_nop (ar_draw mixed (by kernel_rfl) rfl ?_))
          | (refine q_nil ?_; refine ar_endM [0, 1, 4, 5, 10, 14, 25] rfl ?_)
          | fail)
        first | exact qret_mk rfl (⟨by simp [hne], rfl⟩) | (trace_state; exact qret_mk rfl (⟨by simp [hne], rfl⟩))
  · have hne : ¬ l = l' := fun e => hlen (by rw [e])
    repeat (first
      | ((first | apply ar_un | apply stk_un); (next => (first | (simp only [go_sem, Nat.reduceBEq, Nat.reduceEqDiff, reduceIte, reduceCtorEq, String.reduceEq, Nat.reduceAdd, Int.reduceToNat]; exact rfl))))
      | (refine arC .ret ?_; refine ar_retM0 [4] ?_)
      | ((first | apply ar_op' rfl rfl rfl rfl); (next => (first
       | (refine evalE_ok (T := TT) rfl ?_; (first | exact trivial))
       | (apply opk ⟨_, .binOp .neq _ _ _ _, _, _, _, _⟩; first | (refine opv_cmp_t rfl rfl rfl ?_; (next => (first | (simp only [cmpP]; omega)))) | fail)
       | (apply opk ⟨_, .call { callee := .builtin .len, args := _, argTypes := _ }, _, _, _, _⟩; first | exact opv_len_sl (T := TT) rfl rfl rfl | fail)
       | fail)))
      | (refine arO _ ?_; first | (refine arO ⟨_, .move _, _, _, _, _⟩ ?_; first | refine ar_move_sl rfl rfl rfl rfl ?_ | fail) | fail)
      | refine ar_seq ?_
      | (refine arE ?_; refine ar_endM [0, 1, 4, 5, 10, 14, 25] rfl ?_)
      | refine ar_region ?_
      | (refine arC (.cond _ _ _) ?_; first | (refine ar_cond_true rfl ?_ ?_; (next => (first | rfl))) | fail)
      | refine stk_c_ret ?_
      | refine stk_nil ?_
      | fail)
    first | exact qret_mk rfl (⟨by simp [hne], rfl⟩) | (trace_state; exact qret_mk rfl (⟨by simp [hne], rfl⟩))

def SmallSrs (y : Srs) : Prop := y.1.length ≤ 20000 ∧ y.2.length ≤ 20000
set_option maxRecDepth 100000 in
theorem sameSeries_a (l l' : List Srs) (hl : l.length ≤ 20000) (hl' : l'.length ≤ 20000) (hs : ∀ y ∈ l, SmallSrs y) (hs' : ∀ y ∈ l', SmallSrs y) : ACalls Try.prog 30 [.sl false 2 (l.map srsRow), .sl false 2 (l'.map srsRow)] [] (fun out H => out = .ret (.v (.bool (decide (l = l')))) ∧ H = []) := by
  refine acalls_enter _ 43 [.tmp 4] Try.func30 (by kernel_rfl) rfl rfl rfl rfl ?_
  dsimp only [slotsOf]
  have hm : (l.map srsRow).length = l.length := List.length_map ..
  have hm' : (l'.map srsRow).length = l'.length := List.length_map ..
  by_cases hlen : l.length = l'.length
  · repeat (first
    | ((first | apply ar_un); (next => (first | (simp only [go_sem, Nat.reduceBEq, Nat.reduceEqDiff, reduceIte, reduceCtorEq, String.reduceEq, Nat.reduceAdd, Int.reduceToNat]; exact rfl))))
    | ((first | apply ar_op' rfl rfl rfl rfl); (next => (first
     | (refine evalE_ok (T := TT) rfl ?_; (first | exact trivial))
     | (apply opk ⟨_, .binOp .neq _ _ _ _, _, _, _, _⟩; first | (refine opv_cmp_f rfl rfl rfl ?_; (next => (first | (simp only [cmpP]; omega)))) | fail)
     | (apply opk ⟨_, .call { callee := .builtin .len, args := _, argTypes := _ }, _, _, _, _⟩; first | exact opv_len_sl (T := TT) rfl rfl rfl | fail)
     | fail)))
    | (refine arO _ ?_; first | (refine arO ⟨_, .move _, _, _, _, _⟩ ?_; first | refine ar_move_sl rfl rfl rfl rfl ?_ | fail) | fail)
    | refine ar_seq ?_
    | (refine arE ?_; refine ar_endM [0, 1, 4, 5, 10, 14, 42] rfl ?_)
    | refine ar_region ?_
    | refine ar_block ?_
    | refine ar_skip ?_
    | (refine arC (.cond _ _ _) ?_; first | (refine ar_cond_false rfl ?_ ?_; (next => (first | rfl))) | fail)
    | fail)
    refine ar_loop (fun y : Nat => ⟨43, [(0, .sl false 2 (l.map srsRow)), (1, .sl false 2 (l'.map srsRow)), (4, .v (.bool false)), (5, .v (.int .i64 y))], [], []⟩) (fun y => y ≤ l.length ∧ l.take y = l'.take y) (fun y => l.length - y) 0 ⟨rfl, ?_, ?_, rfl⟩ ⟨Nat.zero_le _, rfl⟩ ?_
    · (repeat' (first | exact trivial | exact .refl _ | refine ⟨⟨_, rfl, ?_⟩, ?_⟩))
    · (repeat' (first | exact trivial))
    rintro k ⟨hk, ht⟩
    (try dsimp only)
    by_cases hkl : k = l.length
    · have he : l = l' := by rw [List.take_of_length_le (by omega), List.take_of_length_le (by omega)] at ht; exact ht
      repeat (first
        | ((first | apply ar_un | apply stk_un); (next => (first | (simp only [go_sem, Nat.reduceBEq, Nat.reduceEqDiff, reduceIte, reduceCtorEq, String.reduceEq, Nat.reduceAdd, Int.reduceToNat]; exact rfl))))
        | (refine arC .ret ?_; refine ar_retM0 [4] ?_)
        | ((first | apply ar_op' rfl rfl rfl rfl); (next => (first
         | (refine evalE_ok (T := TT) rfl ?_; (first | exact trivial))
         | (apply opk ⟨_, .binOp .lss _ _ _ _, _, _, _, _⟩; first | (refine opv_cmp_f rfl rfl rfl ?_; (next => (first | (simp only [cmpP]; omega)))) | fail)
         | (apply opk ⟨_, .call { callee := .builtin .len, args := _, argTypes := _ }, _, _, _, _⟩; first | exact opv_len_sl (T := TT) rfl rfl rfl | fail)
         | fail)))
        | (refine arO _ ?_; first | (refine arO ⟨_, .move _, _, _, _, _⟩ ?_; first | refine ar_move_sl rfl rfl rfl rfl ?_ | fail) | fail)
        | refine ar_seq ?_
        | (refine arE ?_; refine ar_endM [0, 1, 4, 5, 10, 14, 42] rfl ?_)
        | refine ar_region ?_
        | (refine arC (.cond _ _ _) ?_; first | (refine ar_cond_false rfl ?_ ?_; (next => (first | rfl))) | fail)
        | refine ar_exit ?_
        | refine stk_b_hit ?_
        | refine stk_c_exit ?_
        | refine stk_l_exit ?_
        | refine stk_nil ?_
        | fail)
      first | exact qret_mk rfl (⟨by simp [he], rfl⟩) | (trace_state; exact qret_mk rfl (⟨by simp [he], rfl⟩))
    · have h1 : k < l.length := by omega
      have h2 : k < l'.length := by omega
      have hz : l[k]? = some l[k] := List.getElem?_eq_getElem h1
      have hz' : l'[k]? = some l'[k] := List.getElem?_eq_getElem h2
      have hc1 := sameLabels_a l[k].1 l'[k].1 (hs _ (List.getElem_mem h1)).1 (hs' _ (List.getElem_mem h2)).1
      have hc2 := sameSamples_a l[k].2 l'[k].2 (hs _ (List.getElem_mem h1)).2 (hs' _ (List.getElem_mem h2)).2
      by_cases hy1 : l[k].1 = l'[k].1
      · rw [decide_eq_true hy1] at hc1
        by_cases hy2 : l[k].2 = l'[k].2
        · rw [decide_eq_true hy2] at hc2
          repeat (first
            | ((first | apply ar_un); (next => (first | (simp only [go_sem, Nat.reduceBEq, Nat.reduceEqDiff, reduceIte, reduceCtorEq, String.reduceEq, Nat.reduceAdd, Int.reduceToNat]; exact rfl))))
            | ((first | apply ar_op' rfl rfl rfl rfl | apply q_op rfl rfl rfl); (next => (first
             | exact opv_indexaddr_map (T := TT) srsRow l k l[k] hz rfl rfl rfl rfl rfl
             | exact opv_indexaddr_map (T := TT) srsRow l' k l'[k] hz' rfl rfl rfl rfl rfl
             | (apply opv_call hc1; (next => rfl); (next => ((repeat' (first | exact LeL.refl _)))); (next => rfl))
             | (apply opv_call hc2; (next => rfl); (next => ((repeat' (first | exact LeL.refl _)))); (next => rfl))
             | fail)))
            | ((first | apply ar_op' rfl rfl rfl rfl | apply q_op rfl rfl rfl); (next => (first
             | (refine evalE_ok (T := TT) rfl ?_; (first | exact trivial | omega))
             | (apply opk ⟨_, .binOp .lss _ _ _ _, _, _, _, _⟩; first | (refine opv_cmp_t rfl rfl rfl ?_; (next => (first | (simp only [cmpP]; omega)))) | fail)
             | (apply opk ⟨_, .call { callee := .builtin .len, args := _, argTypes := _ }, _, _, _, _⟩; first | exact opv_len_sl (T := TT) rfl rfl rfl | fail)
             | (apply opk ⟨_, .fieldAddr _ _ _, _, _, _, _⟩; first | exact opv_field_el (T := TT) rfl rfl rfl rfl rfl rfl | fail)
             | (apply opk ⟨_, .load _ _, _, _, _, _⟩; first | exact opv_load_el (T := TT) rfl rfl rfl | fail)
             | (apply opk ⟨_, .pick _ _ _, _, _, _, _⟩; first | (refine opv_pickf rfl ?_ rfl; (next => (first | rfl))) | fail)
             | fail)))
            | (refine arO _ ?_; first | (refine arO ⟨_, .move _, _, _, _, _⟩ ?_; first | refine ar_move_sl rfl rfl rfl rfl ?_ | fail) | fail)
            | (apply q_op rfl rfl rfl; (next => (first | exact opv_move_rd rfl (.inl rfl) | fail)))
            | refine ar_seq ?_
            | (refine arE ?_; refine ar_endM [0, 1, 4, 5, 10, 14, 42] rfl ?_)
            | refine ar_region ?_
            | refine ar_block ?_
            | refine ar_skip ?_
            | refine ar_blk ?_
            | (refine arC (.cond _ _ _) ?_; first | (refine ar_cond_true rfl ?_ ?_; (next => (first | rfl))) | (refine ar_cond_false rfl ?_ ?_; (next => (first | rfl))) | fail)
            | (refine arC (.region _ _ true) ?_; refine ar_nop (ar_draw mixed (by kernel_rfl) rfl ?_))
            | (refine q_nil ?_; refine ar_endM [0, 1, 4, 5, 10, 14, 42] rfl ?_)
            | fail)
          refine ar_back ⟨k + 1, ⟨rfl, ?_, ?_, rfl⟩, ⟨by omega, take_eq_succ h1 h2 ht (Prod.ext hy1 hy2)⟩, by omega⟩
          · (repeat' (first | exact trivial | exact .refl _ | refine ⟨⟨_, rfl, ?_⟩, ?_⟩))
          · (repeat' (first | exact trivial))
        · have hne : ¬ l = l' := take_ne h1 h2 (fun e => hy2 (by rw [e]))
          rw [decide_eq_false hy2] at hc2
          repeat (first
            | ((first | apply ar_un | apply stk_un); (next => (first | (simp only [go_sem, Nat.reduceBEq, Nat.reduceEqDiff, reduceIte, reduceCtorEq, String.reduceEq, Nat.reduceAdd, Int.reduceToNat]; exact rfl))))
            | (refine arC .ret ?_; refine ar_retM0 [4] ?_)
            | ((first | apply ar_op' rfl rfl rfl rfl | apply q_op rfl rfl rfl); (next => (first
             | exact opv_indexaddr_map (T := TT) srsRow l k l[k] hz rfl rfl rfl rfl rfl
             | exact opv_indexaddr_map (T := TT) srsRow l' k l'[k] hz' rfl rfl rfl rfl rfl
             | (apply opv_call hc1; (next => rfl); (next => ((repeat' (first | exact LeL.refl _)))); (next => rfl))
             | (apply opv_call hc2; (next => rfl); (next => ((repeat' (first | exact LeL.refl _)))); (next => rfl))
             | fail)))
            | ((first | apply ar_op' rfl rfl rfl rfl | apply q_op rfl rfl rfl); (next => (first
             | (refine evalE_ok (T := TT) rfl ?_; (first | exact trivial))
             | (apply opk ⟨_, .binOp .lss _ _ _ _, _, _, _, _⟩; first | (refine opv_cmp_t rfl rfl rfl ?_; (next => (first | (simp only [cmpP]; omega)))) | fail)
             | (apply opk ⟨_, .call { callee := .builtin .len, args := _, argTypes := _ }, _, _, _, _⟩; first | exact opv_len_sl (T := TT) rfl rfl rfl | fail)
             | (apply opk ⟨_, .fieldAddr _ _ _, _, _, _, _⟩; first | exact opv_field_el (T := TT) rfl rfl rfl rfl rfl rfl | fail)
             | (apply opk ⟨_, .load _ _, _, _, _, _⟩; first | exact opv_load_el (T := TT) rfl rfl rfl | fail)
             | (apply opk ⟨_, .pick _ _ _, _, _, _, _⟩; first | (refine opv_pickf rfl ?_ rfl; (next => (first | rfl))) | fail)
             | fail)))
            | (refine arO _ ?_; first | (refine arO ⟨_, .move _, _, _, _, _⟩ ?_; first | refine ar_move_sl rfl rfl rfl rfl ?_ | fail) | fail)
            | (apply q_op rfl rfl rfl; (next => (first | exact opv_move_rd rfl (.inl rfl) | fail)))
            | refine ar_seq ?_
            | (refine arE ?_; refine ar_endM [0, 1, 4, 5, 10, 14, 42] rfl ?_)
            | refine ar_region ?_
            | refine ar_block ?_
            | refine ar_skip ?_
            | (refine arC (.cond _ _ _) ?_; first | (refine ar_cond_true rfl ?_ ?_; (next => (first | rfl))) | fail)
            | refine stk_c_ret ?_
            | refine stk_b_ret ?_
            | refine stk_l_ret ?_
            | refine stk_nil ?_
            | (refine arC (.region _ _ true) ?_; refine ar_nop (ar_draw mixed (by kernel_rfl) rfl ?_))
            | (refine q_nil ?_; refine ar_endM [0, 1, 4, 5, 10, 14, 42] rfl ?_)
            | fail)
          first | exact qret_mk rfl (⟨by simp [hne], rfl⟩) | (trace_state; exact qret_mk rfl (⟨by simp [hne], rfl⟩))
      · have hne : ¬ l = l' := take_ne h1 h2 (fun e => hy1 (by rw [e]))
        rw [decide_eq_false hy1] at hc1
        repeat (first
          | ((first | apply ar_un | apply stk_un); (next => (first | (simp only [go_sem, Nat.reduceBEq, Nat.reduceEqDiff, reduceIte, reduceCtorEq, String.reduceEq, Nat.reduceAdd, Int.reduceToNat]; exact rfl))))
          | (refine arC .ret ?_; refine ar_retM0 [4] ?_)
          | ((first | apply ar_op' rfl rfl rfl rfl | apply q_op rfl rfl rfl); (next => (first
           | exact opv_indexaddr_map (T := TT) srsRow l k l[k] hz rfl rfl rfl rfl rfl
           | exact opv_indexaddr_map (T := TT) srsRow l' k l'[k] hz' rfl rfl rfl rfl rfl
           | (apply opv_call hc1; (next => rfl); (next => ((repeat' (first | exact LeL.refl _)))); (next => rfl))
           | fail)))
          | ((first | apply ar_op' rfl rfl rfl rfl | apply q_op rfl rfl rfl); (next => (first
           | (refine evalE_ok (T := TT) rfl ?_; (first | exact trivial))
           | (apply opk ⟨_, .binOp .lss _ _ _ _, _, _, _, _⟩; first | (refine opv_cmp_t rfl rfl rfl ?_; (next => (first | (simp only [cmpP]; omega)))) | fail)
           | (apply opk ⟨_, .call { callee := .builtin .len, args := _, argTypes := _ }, _, _, _, _⟩; first | exact opv_len_sl (T := TT) rfl rfl rfl | fail)
           | (apply opk ⟨_, .fieldAddr _ _ _, _, _, _, _⟩; first | exact opv_field_el (T := TT) rfl rfl rfl rfl rfl rfl | fail)
           | (apply opk ⟨_, .load _ _, _, _, _, _⟩; first | exact opv_load_el (T := TT) rfl rfl rfl | fail)
           | (apply opk ⟨_, .pick _ _ _, _, _, _, _⟩; first | (refine opv_pickt rfl ?_ rfl; (next => (first | rfl))) | fail)
           | fail)))
          | (refine arO _ ?_; first | (refine arO ⟨_, .move _, _, _, _, _⟩ ?_; first | refine ar_move_sl rfl rfl rfl rfl ?_ | fail) | fail)
          | (apply q_op rfl rfl rfl; (next => (first | exact opv_move_rd rfl (.inl rfl) | fail)))
          | refine ar_seq ?_
          | (refine arE ?_; refine ar_endM [0, 1, 4, 5, 10, 14, 42] rfl ?_)
          | refine ar_region ?_
          | refine ar_block ?_
          | refine ar_skip ?_
          | (refine arC (.cond _ _ _) ?_; first | (refine ar_cond_true rfl ?_ ?_; (next => (first | rfl))) | fail)
          | refine stk_c_ret ?_
          | refine stk_b_ret ?_
          | refine stk_l_ret ?_
          | refine stk_nil ?_
          | (refine arC (.region _ _ true) ?_; refine ar_nop (ar_draw mixed (by kernel_rfl) rfl ?_))
          | refine q_unwanted rfl rfl rfl ?_
          | (refine q_nil ?_; refine ar_endM [0, 1, 4, 5, 10, 14, 42] rfl ?_)
          | fail)
        first | exact qret_mk rfl (⟨by simp [hne], rfl⟩) | (trace_state; exact qret_mk rfl (⟨by simp [hne], rfl⟩))
  · have hne : ¬ l = l' := fun e => hlen (by rw [e])
    repeat (first
      | ((first | apply ar_un | apply stk_un); (next => (first | (simp only [go_sem, Nat.reduceBEq, Nat.reduceEqDiff, reduceIte, reduceCtorEq, String.reduceEq, Nat.reduceAdd, Int.reduceToNat]; exact rfl))))
      | (refine arC .ret ?_; refine ar_retM0 [4] ?_)
      | ((first | apply ar_op' rfl rfl rfl rfl); (next => (first
       | (refine evalE_ok (T := TT) rfl ?_; (first | exact trivial))
       | (apply opk ⟨_, .binOp .neq _ _ _ _, _, _, _, _⟩; first | (refine opv_cmp_t rfl rfl rfl ?_; (next => (first | (simp only [cmpP]; omega)))) | fail)
       | (apply opk ⟨_, .call { callee := .builtin .len, args := _, argTypes := _ }, _, _, _, _⟩; first | exact opv_len_sl (T := TT) rfl rfl rfl | fail)
       | fail)))
      | (refine arO _ ?_; first | (refine arO ⟨_, .move _, _, _, _, _⟩ ?_; first | refine ar_move_sl rfl rfl rfl rfl ?_ | fail) | fail)
      | refine ar_seq ?_
      | (refine arE ?_; refine ar_endM [0, 1, 4, 5, 10, 14, 42] rfl ?_)
      | refine ar_region ?_
      | (refine arC (.cond _ _ _) ?_; first | (refine ar_cond_true rfl ?_ ?_; (next => (first | rfl))) | fail)
      | refine stk_c_ret ?_
      | refine stk_nil ?_
      | fail)
    first | exact qret_mk rfl (⟨by simp [hne], rfl⟩) | (trace_state; exact qret_mk rfl (⟨by simp [hne], rfl⟩))
end Go.Proofs.Ytophpbihcfdkcaa
