/- The reference's ReadOf, walked over abstract values. -/
import Derived.Test.YtophpbihcfdkcaaRI
import Derived.Test.YtophpbihcfdkcaaRG
import Derived.Test.YtophpbihcfdkcaaRU
namespace Go.Proofs.Ytophpbihcfdkcaa
open Go.RowKit P
set_option linter.unusedSimpArgs false
set_option linter.unusedVariables false
attribute [go_sem] fldRow
attribute [local irreducible] AS.nf OpV ARun Stk QSem QSemA ACalls EffOp AppOk SrcOk Awp Aops
set_option maxHeartbeats 32000000

theorem foldF_append {α : Type} {step : α → Fld → Option α} : ∀ (l1 l2 : List Fld) (a : α), foldF step (l1 ++ l2) a = (foldF step l1 a).bind (foldF step l2)
  | [], l2, a => rfl
  | f :: l1, l2, a => by
    simp only [List.cons_append, foldF]
    cases step a f with
    | none => rfl
    | some b => exact foldF_append l1 l2 b
theorem foldF_snoc {α : Type} {step : α → Fld → Option α} {l : List Fld} {i : Nat} {a b : α} {v : Fld} (h : foldF step (l.take i) a = some b) (hv : l[i]? = some v) : foldF step (l.take (i + 1)) a = step b v := by
  obtain ⟨hi, rfl⟩ := List.getElem?_eq_some_iff.1 hv
  rw [List.take_succ_eq_append_getElem hi, foldF_append, h]
  simp only [Option.bind_some, foldF]
  cases step b l[i] <;> rfl
theorem foldF_stop {α : Type} {step : α → Fld → Option α} {l : List Fld} {i : Nat} {a b : α} {v : Fld} (h : foldF step (l.take i) a = some b) (hv : l[i]? = some v) (hs : step b v = none) : foldF step l a = none := by
  rw [← List.take_append_drop (i + 1) l, foldF_append, foldF_snoc h hv, hs]; rfl
theorem foldF_all {α : Type} {step : α → Fld → Option α} {l : List Fld} {i : Nat} {a b : α} (h : foldF step (l.take i) a = some b) (hi : l.length ≤ i) : foldF step l a = some b := by rwa [List.take_of_length_le hi] at h
theorem flds_num : ∀ (n : Nat) (s : List UInt8) (l : List Fld), s.length ≤ n → flds s = some l → ∀ f ∈ l, 1 ≤ f.num
  | n, s, l, hn, h => by
    by_cases hs : s = []
    · subst hs; rw [flds_nil] at h; cases h; intro f hf; cases hf
    · cases hf : fldAt s with
      | none => rw [flds_none hs hf] at h; cases h
      | some p =>
        obtain ⟨f, r⟩ := p
        rw [flds_some hf] at h
        obtain ⟨h1, h2, h3, h4⟩ := fldAt_lt hf
        obtain ⟨l', hl', rfl⟩ := Option.map_eq_some_iff.1 h
        have hnum : 1 ≤ f.num := by
          obtain ⟨key, k, e, hrd⟩ : ∃ key k e, rd s = (key, k, e) := ⟨_, _, _, rfl⟩
          by_cases he : e = 0
          · subst he
            obtain ⟨n2, k2, e2, hrd2⟩ : ∃ n2 k2 e2, rd (s.drop k) = (n2, k2, e2) := ⟨_, _, _, rfl⟩
            rcases fld_cases s key k n2 k2 e2 hrd hrd2 with ⟨hb, _⟩ | ⟨c0, c1, ⟨_, _, hx⟩ | ⟨_, _, hx⟩ | ⟨_, _, _, hx⟩ | ⟨_, _, hx⟩⟩
            · rw [hf] at hb; cases hb
            all_goals (rw [hf] at hx; cases hx; show 1 ≤ key / 8; omega)
          · unfold fldAt at hf; rw [hrd, if_pos he] at hf; cases hf
        cases n with
        | zero => omega
        | succ n =>
          intro g hg
          rcases List.mem_cons.1 hg with rfl | hg
          · exact hnum
          · exact flds_num n r l' (by omega) hl' g hg
/-- What is known of the fields of a text. -/
theorem flds_facts {s : List UInt8} {l : List Fld} (h : flds s = some l) (hs : s.length ≤ 20000) : l.length ≤ 20000 ∧ ∀ (i : Nat) f, l[i]? = some f → FldOk f ∧ f.bs.length ≤ 20000 ∧ 1 ≤ f.num := by
  obtain ⟨h1, h2⟩ := flds_good s.length s l (Nat.le_refl _) h
  refine ⟨by omega, fun i f hf => ?_⟩
  have hm := List.mem_of_getElem? hf
  exact ⟨(h2 f hm).1, by have := (h2 f hm).2; omega, flds_num s.length s l (Nat.le_refl _) h f hm⟩
theorem readStep_skip {L : List Srs} {v : Fld} (h : ¬ (v.num = 1 ∧ v.kind = 2)) : readStep L v = some L := by unfold readStep; rw [if_neg h]
theorem readStep_bad {L : List Srs} {v : Fld} (h : v.num = 1 ∧ v.kind = 2) (hf : flds v.bs = none) : readStep L v = none := by unfold readStep; rw [if_pos h]; unfold seriesB runF; rw [hf]; rfl
theorem readStep_stop {L : List Srs} {v : Fld} {inn : List Fld} (h : v.num = 1 ∧ v.kind = 2) (hf : flds v.bs = some inn) (hs : foldF seriesStep inn ([], []) = none) : readStep L v = none := by unfold readStep; rw [if_pos h]; unfold seriesB runF; rw [hf]; simp only; rw [hs]; rfl
theorem readStep_add {L : List Srs} {v : Fld} {inn : List Fld} {x : Srs} (h : v.num = 1 ∧ v.kind = 2) (hf : flds v.bs = some inn) (hs : foldF seriesStep inn ([], []) = some x) : readStep L v = some (L ++ [x]) := by unfold readStep; rw [if_pos h]; unfold seriesB runF; rw [hf]; simp only; rw [hs]; rfl
theorem seriesStep_skip {x : Srs} {f : Fld} (h : ¬ f.kind = 2 ∨ 2 < f.num) : seriesStep x f = some x := by unfold seriesStep; rw [if_neg (by omega), if_neg (by omega)]
theorem seriesStep_bad {x : Srs} {f : Fld} (h : f.kind = 2 ∧ f.num ≤ 2 ∧ 1 ≤ f.num) (hf : flds f.bs = none) : seriesStep x f = none := by
  unfold seriesStep
  by_cases h1 : f.num = 1
  · rw [if_pos ⟨h1, h.1⟩]; unfold labelB runF; rw [hf]; rfl
  · rw [if_neg (by omega), if_pos (by omega)]; unfold sampleB runF; rw [hf]; rfl
theorem seriesStep_label {x : Srs} {f : Fld} {l : List Fld} {y : Lbl} (h : f.kind = 2) (h1 : f.num = 1) (hf : flds f.bs = some l) (hs : foldF labelStep l ([], []) = some y) : seriesStep x f = some (x.1 ++ [y], x.2) := by
  unfold seriesStep; rw [if_pos ⟨h1, h⟩]; unfold labelB runF; rw [hf]; simp only; rw [hs]; rfl
theorem seriesStep_sample {x : Srs} {f : Fld} {l : List Fld} {y : Smp} (h : f.kind = 2) (h1 : f.num = 2) (hf : flds f.bs = some l) (hs : foldF sampleStep l (0, 0) = some y) : seriesStep x f = some (x.1, x.2 ++ [y]) := by
  unfold seriesStep; rw [if_neg (by omega), if_pos ⟨h1, h⟩]; unfold sampleB runF; rw [hf]; simp only; rw [hs]; rfl
theorem readB_none {s : List UInt8} (h : flds s = none) : readB s = none := by unfold readB runF; rw [h]
theorem readB_flds {s : List UInt8} {top : List Fld} (h : flds s = some top) : readB s = foldF readStep top [] := by unfold readB runF; rw [h]

theorem fieldsOf_none {s : List UInt8} (hs : s.length ≤ 20000) (h : flds s = none) : ACalls Try.prog 47 [.v (.string (mkB s))] [] (fun out H => out = .ret (.tu [.v (.slice none 0 0), .v (.bool false)]) ∧ H = []) := by
  have := fieldsOf_a s hs; rw [h] at this; exact this
theorem fieldsOf_some {s : List UInt8} {l : List Fld} (hs : s.length ≤ 20000) (h : flds s = some l) : ACalls Try.prog 47 [.v (.string (mkB s))] [] (fun out H => out = .ret (.tu [.sl false 4 (l.map fldRow), .v (.bool true)]) ∧ H = []) := by
  have := fieldsOf_a s hs; rw [h] at this; exact this

def refU (r : List Srs × Nat) : AV := if r.2 = 0 then .tu [.sl false 2 (r.1.map srsRow), .v (.int .i64 0)] else .tu [.v (.slice none 0 0), .v (.int .i64 (r.2 : Nat))]
theorem refU_err {L : List Srs} {e : Nat} (h : ¬ e = 0) : refU (L, e) = .tu [.v (.slice none 0 0), .v (.int .i64 (e : Nat))] := by unfold refU; rw [if_neg h]
theorem leN_drop (l : List UInt8) (i : Nat) (h : i < l.length) : leN (l.drop i) = (l.getD i 0).toNat + 256 * leN (l.drop (i + 1)) := by
  rw [List.drop_eq_getElem_cons h]; simp [leN, h]
theorem q_un {P : Program} {l rest : List Oper} {K : AS → Prop} {σ σ' : AS} (h : σ = σ') (hn : QSem P l K rest σ') : QSem P l K rest σ := h ▸ hn
theorem labelStep_1 {x : Lbl} {g : Fld} (h : g.num = 1) (h2 : g.kind = 2) : labelStep x g = some (g.bs, x.2) := by unfold labelStep; rw [if_pos ⟨h, h2⟩]
theorem labelStep_2 {x : Lbl} {g : Fld} (h : g.num = 2) (h2 : g.kind = 2) : labelStep x g = some (x.1, g.bs) := by unfold labelStep; rw [if_neg (by omega), if_pos ⟨h, h2⟩]
theorem labelStep_x {x : Lbl} {g : Fld} (h : ¬ (g.num = 1 ∧ g.kind = 2)) (h2 : ¬ (g.num = 2 ∧ g.kind = 2)) : labelStep x g = some x := by unfold labelStep; rw [if_neg h, if_neg h2]
theorem sampleStep_1 {x : Smp} {g : Fld} (h : g.num = 1) (h2 : g.kind = 1) : sampleStep x g = some (x.1, leN g.bs) := by unfold sampleStep; rw [if_pos ⟨h, h2⟩]
theorem sampleStep_s {x : Smp} {g : Fld} (h : g.num = 2) (h2 : g.kind = 0) (h3 : g.n < 9223372036854775808) : sampleStep x g = some ((g.n : Int), x.2) := by unfold sampleStep; rw [if_neg (by omega), if_pos ⟨h, h2⟩]; unfold sg; rw [if_pos h3]
theorem sampleStep_b {x : Smp} {g : Fld} (h : g.num = 2) (h2 : g.kind = 0) (h3 : ¬ g.n < 9223372036854775808) : sampleStep x g = some ((g.n : Int) - 18446744073709551616, x.2) := by unfold sampleStep; rw [if_neg (by omega), if_pos ⟨h, h2⟩]; unfold sg; rw [if_neg h3]
theorem sampleStep_x {x : Smp} {g : Fld} (h : ¬ (g.num = 1 ∧ g.kind = 1)) (h2 : ¬ (g.num = 2 ∧ g.kind = 0)) : sampleStep x g = some x := by unfold sampleStep; rw [if_neg h, if_neg h2]
theorem rowsOne_lbl (x : Lbl) : RowsOne [lblRow x] := by
  intro r hr u hu
  simp only [List.mem_singleton] at hr; subst hr
  simp only [lblRow, List.mem_cons, List.not_mem_nil, or_false] at hu
  rcases hu with rfl | rfl <;> rfl
theorem rowsOne_smp (x : Smp) : RowsOne [smpRow x] := by
  intro r hr u hu
  simp only [List.mem_singleton] at hr; subst hr
  simp only [smpRow, List.mem_cons, List.not_mem_nil, or_false] at hu
  rcases hu with rfl | rfl <;> rfl
theorem mapR_snoc {α : Type} (f : α → List AV) (l : List α) (x : α) : l.map f ++ [f x] = (l ++ [x]).map f := by simp
set_option maxRecDepth 100000 in
theorem readOf_a (s : List UInt8) (hs : s.length ≤ 140737488355328) : ACalls Try.prog 29 [.v (.string (mkB s))] [] (fun out H => out = .ret (refU (readR s)) ∧ H = []) := by
  refine acalls_enter _ 214 [.tmp 2, .tmp 3] Try.func29 (by kernel_rfl) rfl rfl rfl rfl ?_
  dsimp only [slotsOf]
  by_cases h20 : 20000 < s.length
  · have hR : readR s = ([], 2) := by unfold readR; rw [if_pos h20]
    rw [hR]
    repeat (first
      | ((first | apply ar_un | apply stk_un); (next => (first | (simp only [go_sem, Nat.reduceBEq, Nat.reduceEqDiff, reduceIte, reduceCtorEq, String.reduceEq, Nat.reduceAdd, Int.reduceToNat]; exact rfl))))
      | (refine arC .ret ?_; refine ar_retM0 [2, 3] ?_)
      | ((first | apply ar_op' rfl rfl rfl rfl); (next => (first
       | (refine evalE_ok (T := TT) rfl ?_; (first | exact trivial))
       | (apply opk ⟨_, .binOp .gtr _ _ _ _, _, _, _, _⟩; first | (refine opv_cmp_t rfl rfl rfl ?_; (next => (first | (simp only [cmpP]; simp [NFL] <;> omega)))) | fail)
       | (apply opk ⟨_, .call { callee := .builtin .len, args := _, argTypes := _ }, _, _, _, _⟩; first | exact opv_len_str (T := TT) rfl rfl rfl | fail)
       | fail)))
      | refine ar_seq ?_
      | (refine arE ?_; refine ar_endM [0, 2, 3, 4, 5, 6, 7, 8, 9, 10, 11, 12, 13, 14, 15, 16, 17, 18, 19, 20, 23, 30, 34, 50, 61, 65, 79, 87, 91, 98, 115, 132, 148, 161, 177, 191, 211] rfl ?_)
      | refine ar_region ?_
      | (refine arC (.cond _ _ _) ?_; first | (refine ar_cond_true rfl ?_ ?_; (next => (first | rfl))) | fail)
      | refine stk_c_ret ?_
      | refine stk_nil ?_
      | fail)
    first | exact qret_mk rfl (⟨rfl, rfl⟩) | (trace_state; exact qret_mk rfl (⟨rfl, rfl⟩))
  cases htop : flds s with
  | none =>
    have hR : readR s = ([], 1) := by unfold readR; rw [if_neg h20, readB_none htop]
    rw [hR]
    repeat (first
      | ((first | apply ar_un | apply stk_un); (next => (first | (simp only [go_sem, Nat.reduceBEq, Nat.reduceEqDiff, reduceIte, reduceCtorEq, String.reduceEq, Nat.reduceAdd, Int.reduceToNat]; exact rfl))))
      | (first | (apply ar_opN rfl rfl rfl rfl; (next => (first | exact opv_len_str (T := TT) rfl rfl rfl | fail))) | fail)
      | (refine arC .ret ?_; refine ar_retM0 [2, 3] ?_)
      | ((first | apply ar_op' rfl rfl rfl rfl); (next => (first
       | (refine evalE_ok (T := TT) rfl ?_; (first | exact trivial))
       | (apply opk ⟨_, .binOp .gtr _ _ _ _, _, _, _, _⟩; first | (refine opv_cmp_f rfl rfl rfl ?_; (next => (first | (simp only [cmpP]; omega)))) | fail)
       | fail)))
      | (refine arO _ ?_; first
       | (refine arO ⟨_, .call { callee := .value _, args := _, argTypes := _ }, _, _, _, _⟩ ?_; first
        | (apply ar_callM0 rfl (fieldsOf_none (by omega) htop) rfl rfl; (next => (repeat (first | exact PArgs.nil | (apply PArgs.cons; (next => (first | exact PArg.rd rfl (Le1.refl _) rfl)))))); (next => rfl); (next => rfl); rintro _ _ ⟨rfl, rfl⟩; refine ⟨_, rfl, ?_⟩)
        | fail)
       | fail)
      | refine ar_seq ?_
      | (refine arE ?_; refine ar_endM [0, 2, 3, 4, 5, 6, 7, 8, 9, 10, 11, 12, 13, 14, 15, 16, 17, 18, 19, 20, 23, 30, 34, 50, 61, 65, 79, 87, 91, 98, 115, 132, 148, 161, 177, 191, 211] rfl ?_)
      | refine ar_region ?_
      | refine ar_skip ?_
      | (refine arC (.cond _ _ _) ?_; first | (refine ar_cond_true rfl ?_ ?_; (next => (first | rfl))) | (refine ar_cond_false rfl ?_ ?_; (next => (first | rfl))) | fail)
      | refine stk_c_ret ?_
      | refine stk_nil ?_
      | fail)
    first | exact qret_mk rfl (⟨rfl, rfl⟩) | (trace_state; exact qret_mk rfl (⟨rfl, rfl⟩))
  | some top =>
    obtain ⟨ht1, ht2⟩ := flds_facts htop (by omega)
    have hbad1 : foldF readStep top [] = none → readR s = ([], 1) := fun h => by unfold readR; rw [if_neg h20, readB_flds htop, h]
    repeat (first
      | ((first | apply ar_un); (next => (first | (simp only [go_sem, Nat.reduceBEq, Nat.reduceEqDiff, reduceIte, reduceCtorEq, String.reduceEq, Nat.reduceAdd, Int.reduceToNat]; exact rfl))))
      | (first | (apply ar_opN rfl rfl rfl rfl; (next => (first | exact opv_len_str (T := TT) rfl rfl rfl | fail))) | fail)
      | ((first | apply ar_op' rfl rfl rfl rfl); (next => (first
       | (refine evalE_ok (T := TT) rfl ?_; (first | exact trivial))
       | (apply opk ⟨_, .binOp .gtr _ _ _ _, _, _, _, _⟩; first | (refine opv_cmp_f rfl rfl rfl ?_; (next => (first | (simp only [cmpP]; omega)))) | fail)
       | fail)))
      | (refine arO _ ?_; first
       | (refine arO ⟨_, .assign _, _, _, _, _⟩ ?_; first | refine ar_assign_sl rfl rfl rfl rfl ?_ | fail)
       | (refine arO ⟨_, .call { callee := .value _, args := _, argTypes := _ }, _, _, _, _⟩ ?_; first
        | (apply ar_callM0 rfl (fieldsOf_some (by omega) htop) rfl rfl; (next => (repeat (first | exact PArgs.nil | (apply PArgs.cons; (next => (first | exact PArg.rd rfl (Le1.refl _) rfl)))))); (next => rfl); (next => rfl); rintro _ _ ⟨rfl, rfl⟩; refine ⟨_, rfl, ?_⟩)
        | fail)
       | fail)
      | refine ar_seq ?_
      | (refine arE ?_; refine ar_endM [0, 2, 3, 4, 5, 6, 7, 8, 9, 10, 11, 12, 13, 14, 15, 16, 17, 18, 19, 20, 23, 30, 34, 50, 61, 65, 79, 87, 91, 98, 115, 132, 148, 161, 177, 191, 211] rfl ?_)
      | refine ar_region ?_
      | refine ar_block ?_
      | refine ar_skip ?_
      | (refine arC (.cond _ _ _) ?_; first | (refine ar_cond_false rfl ?_ ?_; (next => (first | rfl))) | fail)
      | fail)
    refine ar_loop (fun y : Nat × List Srs => ⟨214, [(4, .sl false 4 (top.map fldRow)), (6, .sl true 2 (y.2.map srsRow)), (7, .v (.int .i64 y.1))], [], []⟩) (fun y => y.1 ≤ top.length ∧ y.2.length ≤ y.1 ∧ foldF readStep (top.take y.1) [] = some y.2) (fun y => top.length - y.1) (0, []) ⟨rfl, ?_, ?_, rfl⟩ ⟨Nat.zero_le _, Nat.le_refl _, rfl⟩ ?_
    · (repeat' (first | exact trivial | exact .refl _ | refine ⟨⟨_, rfl, ?_⟩, ?_⟩ | exact .nil _ _))
    · (repeat' (first | exact trivial))
    rintro ⟨i, L⟩ ⟨hi, hLi, hfold⟩
    dsimp only at hi hLi hfold ⊢
    have hmt : (top.map fldRow).length = top.length := List.length_map ..
    have hmL : (L.map srsRow).length = L.length := List.length_map ..
    by_cases hend : i = top.length
    · have hall := foldF_all hfold (by omega)
      have hrb : readB s = some L := by rw [readB_flds htop]; exact hall
      have hg : GoodL L := read_good (by omega) hrb
      by_cases he : checkB (L.map toSr) = 0
      all_goals (have hR : readR s = (if checkB (L.map toSr) = 0 then (L, 0) else ([], checkB (L.map toSr))) := by unfold readR; rw [if_neg h20, hrb])
      all_goals (first | rw [if_pos he] at hR | rw [if_neg he] at hR)
      all_goals rw [hR]
      all_goals (repeat (first
        | ((first | apply ar_un | apply stk_un); (next => (first | (simp only [go_sem, Nat.reduceBEq, Nat.reduceEqDiff, reduceIte, reduceCtorEq, String.reduceEq, Nat.reduceAdd, Int.reduceToNat]; exact rfl))))
        | (first | (apply ar_opN rfl rfl rfl rfl; (next => (first | exact opv_len_sl (T := TT) rfl rfl rfl | fail))) | fail)
        | (refine arC .ret ?_; refine ar_retM0 [2, 3] ?_)
        | ((first | apply ar_op' rfl rfl rfl rfl); (next => (first
         | (refine evalE_ok (T := TT) rfl ?_; (first | exact trivial))
         | (apply opk ⟨_, .binOp .neq _ _ _ _, _, _, _, _⟩; first
          | (refine opv_cmp_t rfl rfl rfl ?_; (next => (first | (simp only [cmpP]; omega))))
          | (refine opv_cmp_f rfl rfl rfl ?_; (next => (first | (simp only [cmpP]; omega))))
          | fail)
         | (apply opk ⟨_, .binOp .lss _ _ _ _, _, _, _, _⟩; first | (refine opv_cmp_f rfl rfl rfl ?_; (next => (first | (simp only [cmpP]; omega)))) | fail)
         | fail)))
        | (refine arO _ ?_; first
         | (refine arO ⟨_, .move _, _, _, _, _⟩ ?_; first | refine ar_move_sl rfl rfl rfl rfl ?_ | fail)
         | (refine arO ⟨_, .assign _, _, _, _, _⟩ ?_; first | refine ar_assign_sl rfl rfl rfl rfl ?_ | fail)
         | (refine arO ⟨_, .call { callee := .value _, args := _, argTypes := _ }, _, _, _, _⟩ ?_; first
          | (apply ar_callM0 rfl (checkSeries_a L hg) rfl rfl; (next => (repeat (first | exact PArgs.nil | (apply PArgs.cons; (next => (first | exact PArg.rd rfl (Le1.refl _) rfl)))))); (next => rfl); (next => rfl); rintro _ _ ⟨rfl, rfl⟩; refine ⟨_, rfl, ?_⟩)
          | fail)
         | fail)
        | refine ar_seq ?_
        | (refine arE ?_; refine ar_endM [0, 2, 3, 4, 5, 6, 7, 8, 9, 10, 11, 12, 13, 14, 15, 16, 17, 18, 19, 20, 23, 30, 34, 50, 61, 65, 79, 87, 91, 98, 115, 132, 148, 161, 177, 191, 211] rfl ?_)
        | refine ar_region ?_
        | refine ar_skip ?_
        | (refine arC (.cond _ _ _) ?_; first | (refine ar_cond_true rfl ?_ ?_; (next => (first | rfl))) | (refine ar_cond_false rfl ?_ ?_; (next => (first | rfl))) | fail)
        | refine ar_exit ?_
        | refine stk_b_hit ?_
        | refine stk_c_exit ?_
        | refine stk_l_exit ?_
        | refine stk_c_ret ?_
        | refine stk_nil ?_
        | fail))
      · first | exact qret_mk rfl (⟨rfl, rfl⟩) | (trace_state; exact qret_mk rfl (⟨rfl, rfl⟩))
      · first | exact qret_mk rfl (⟨by rw [refU_err he]; rfl, rfl⟩) | (trace_state; exact qret_mk rfl (⟨by rw [refU_err he]; rfl, rfl⟩))
    obtain ⟨v, hv⟩ : ∃ v, top[i]? = some v := ⟨top[i]'(by omega), List.getElem?_eq_getElem (by omega)⟩
    obtain ⟨⟨v1, v2, v3, v4⟩, v5, v6⟩ := ht2 i v hv
    by_cases hc : v.num = 1 ∧ v.kind = 2
    · cases hinn : flds v.bs with
      | none =>
        rw [hbad1 (foldF_stop hfold hv (readStep_bad hc hinn))]
        repeat (first
          | ((first | apply ar_un | apply stk_un); (next => (first | (simp only [go_sem, Nat.reduceBEq, Nat.reduceEqDiff, reduceIte, reduceCtorEq, String.reduceEq, Nat.reduceAdd, Int.reduceToNat]; exact rfl))))
          | (first | (apply ar_opN rfl rfl rfl rfl; (next => (first | exact opv_pickf rfl rfl rfl | exact opv_len_sl (T := TT) rfl rfl rfl | fail))) | fail)
          | (refine arC .ret ?_; refine ar_retM0 [2, 3] ?_)
          | (apply ar_op' rfl rfl rfl rfl; (next => (first | exact opv_indexaddr_map (T := TT) fldRow top i v hv rfl rfl rfl rfl rfl | fail)))
          | ((first | apply ar_op' rfl rfl rfl rfl); (next => (first
           | (refine evalE_ok (T := TT) rfl ?_; (first | exact trivial))
           | (apply opk ⟨_, .binOp .neq _ _ _ _, _, _, _, _⟩; first | (refine opv_cmp_f rfl rfl rfl ?_; (next => (first | (simp only [cmpP]; omega)))) | fail)
           | (apply opk ⟨_, .binOp .lss _ _ _ _, _, _, _, _⟩; first | (refine opv_cmp_t rfl rfl rfl ?_; (next => (first | (simp only [cmpP]; omega)))) | fail)
           | (apply opk ⟨_, .fieldAddr _ _ _, _, _, _, _⟩; first | exact opv_field_el (T := TT) rfl rfl rfl rfl rfl rfl | fail)
           | (apply opk ⟨_, .load _ _, _, _, _, _⟩; first | exact opv_load_el (T := TT) rfl rfl rfl | fail)
           | fail)))
          | (refine arO _ ?_; first
           | (refine arO ⟨_, .move _, _, _, _, _⟩ ?_; first | refine ar_move_sl rfl rfl rfl rfl ?_ | fail)
           | (refine arO ⟨_, .call { callee := .value _, args := _, argTypes := _ }, _, _, _, _⟩ ?_; first
            | (apply ar_callM0 rfl (fieldsOf_none v5 hinn) rfl rfl; (next => (repeat (first | exact PArgs.nil | (apply PArgs.cons; (next => (first | exact PArg.rd rfl (Le1.refl _) rfl)))))); (next => rfl); (next => rfl); rintro _ _ ⟨rfl, rfl⟩; refine ⟨_, rfl, ?_⟩)
            | fail)
           | fail)
          | refine ar_seq ?_
          | (refine arE ?_; refine ar_endM [0, 2, 3, 4, 5, 6, 7, 8, 9, 10, 11, 12, 13, 14, 15, 16, 17, 18, 19, 20, 23, 30, 34, 50, 61, 65, 79, 87, 91, 98, 115, 132, 148, 161, 177, 191, 211] rfl ?_)
          | refine ar_region ?_
          | refine ar_block ?_
          | refine ar_skip ?_
          | (refine arC (.cond _ _ _) ?_; first | (refine ar_cond_true rfl ?_ ?_; (next => (first | rfl))) | (refine ar_cond_false rfl ?_ ?_; (next => (first | rfl))) | fail)
          | refine stk_c_ret ?_
          | refine stk_b_ret ?_
          | refine stk_l_ret ?_
          | refine stk_nil ?_
          | fail)
        first | exact qret_mk rfl (⟨rfl, rfl⟩) | (trace_state; exact qret_mk rfl (⟨rfl, rfl⟩))
      | some inn =>
        obtain ⟨hn1, hn2⟩ := flds_facts hinn v5
        have hbad2 : foldF seriesStep inn ([], []) = none → readR s = ([], 1) := fun h => hbad1 (foldF_stop hfold hv (readStep_stop hc hinn h))
        repeat (first
          | ((first | apply ar_un); (next => (first | (simp only [go_sem, Nat.reduceBEq, Nat.reduceEqDiff, reduceIte, reduceCtorEq, String.reduceEq, Nat.reduceAdd, Int.reduceToNat]; exact rfl))))
          | (first | (apply ar_opN rfl rfl rfl rfl; (next => (first | exact opv_pickf rfl rfl rfl | exact opv_len_sl (T := TT) rfl rfl rfl | fail))) | fail)
          | (apply ar_op' rfl rfl rfl rfl; (next => (first | exact opv_indexaddr_map (T := TT) fldRow top i v hv rfl rfl rfl rfl rfl | fail)))
          | ((first | apply ar_op' rfl rfl rfl rfl); (next => (first
           | (refine evalE_ok (T := TT) rfl ?_; (first | exact trivial))
           | (apply opk ⟨_, .binOp .neq _ _ _ _, _, _, _, _⟩; first | (refine opv_cmp_f rfl rfl rfl ?_; (next => (first | (simp only [cmpP]; omega)))) | fail)
           | (apply opk ⟨_, .binOp .lss _ _ _ _, _, _, _, _⟩; first | (refine opv_cmp_t rfl rfl rfl ?_; (next => (first | (simp only [cmpP]; omega)))) | fail)
           | (apply opk ⟨_, .fieldAddr _ _ _, _, _, _, _⟩; first | exact opv_field_el (T := TT) rfl rfl rfl rfl rfl rfl | fail)
           | (apply opk ⟨_, .load _ _, _, _, _, _⟩; first | exact opv_load_el (T := TT) rfl rfl rfl | fail)
           | fail)))
          | (refine arO _ ?_; first
           | (refine arO ⟨_, .move _, _, _, _, _⟩ ?_; first | refine ar_move_sl rfl rfl rfl rfl ?_ | fail)
           | (refine arO ⟨_, .assign _, _, _, _, _⟩ ?_; first | refine ar_assign_sl rfl rfl rfl rfl ?_ | fail)
           | (refine arO ⟨_, .alloc _, _, _, _, _⟩ ?_; first
            | (refine ar_eff rfl rfl (eff_alloc (T := TT) rfl rfl ?_); intro kb hkb; (repeat (have hkn := (freshK_ne hkb).1; replace hkb := (freshK_ne hkb).2)); (try have hkl := freshK_look hkb); clear hkb; refine ar_nf ?_)
            | fail)
           | (refine arO ⟨_, .call { callee := .value _, args := _, argTypes := _ }, _, _, _, _⟩ ?_; first
            | (apply ar_callM0 rfl (fieldsOf_some v5 hinn) rfl rfl; (next => (repeat (first | exact PArgs.nil | (apply PArgs.cons; (next => (first | exact PArg.rd rfl (Le1.refl _) rfl)))))); (next => rfl); (next => rfl); rintro _ _ ⟨rfl, rfl⟩; refine ⟨_, rfl, ?_⟩)
            | fail)
           | fail)
          | refine ar_seq ?_
          | (refine arE ?_; refine ar_endM [0, 2, 3, 4, 5, 6, 7, 8, 9, 10, 11, 12, 13, 14, 15, 16, 17, 18, 19, 20, 23, 30, 34, 50, 61, 65, 79, 87, 91, 98, 115, 132, 148, 161, 177, 191, 211] rfl ?_)
          | refine ar_region ?_
          | refine ar_block ?_
          | refine ar_skip ?_
          | (refine arC (.cond _ _ _) ?_; first | (refine ar_cond_true rfl ?_ ?_; (next => (first | rfl))) | (refine ar_cond_false rfl ?_ ?_; (next => (first | rfl))) | fail)
          | fail)
        obtain ⟨kx, hkx⟩ : ∃ kx, kx = kb := ⟨kb, rfl⟩
        subst hkx
        clear hkl
        refine ar_loop (fun y : Nat × Srs => ⟨214, [(4, .sl false 4 (top.map fldRow)), (6, .sl true 2 (L.map srsRow)), (7, .v (.int .i64 i)), (8, .sl false 4 (inn.map fldRow)), (10, .v (.pointer (some ⟨kx, 0, none⟩))), (11, .v (.int .i64 y.1))], [(kx, [.sl true 2 (y.2.1.map lblRow), .sl true 2 (y.2.2.map smpRow)])], []⟩) (fun y => y.1 ≤ inn.length ∧ y.2.1.length ≤ y.1 ∧ y.2.2.length ≤ y.1 ∧ foldF seriesStep (inn.take y.1) ([], []) = some y.2) (fun y => inn.length - y.1) (0, ([], [])) ⟨rfl, ?_, ?_, rfl⟩ ⟨Nat.zero_le _, Nat.le_refl _, Nat.le_refl _, rfl⟩ ?_
        · (repeat' (first | exact trivial | exact .refl _ | refine ⟨⟨_, rfl, ?_⟩, ?_⟩))
        · (repeat' (first | exact trivial | exact LeL.refl _ | refine ⟨⟨_, look_hd, ?_⟩, ?_⟩ | exact .nil _ _ | refine LeL.cons ?_ ?_))
        rintro ⟨k, x⟩ ⟨hk, hx1, hx2, hfx⟩
        dsimp only at hk hx1 hx2 hfx ⊢
        have hmi : (inn.map fldRow).length = inn.length := List.length_map ..
        have hmx1 : (x.1.map lblRow).length = x.1.length := List.length_map ..
        have hmx2 : (x.2.map smpRow).length = x.2.length := List.length_map ..
        by_cases hkend : k = inn.length
        · have hro : RowsOne [srsRow x] := rows_srs x
          have hall2 := foldF_all hfx (by omega)
          repeat (first
            | ((first | apply ar_un); (next => (first | (simp only [go_sem, Nat.reduceBEq, Nat.reduceEqDiff, reduceIte, reduceCtorEq, String.reduceEq, Nat.reduceAdd, Int.reduceToNat]; exact rfl))))
            | (first | (apply ar_opN rfl rfl rfl rfl; (next => (first | exact opv_len_sl (T := TT) rfl rfl rfl | fail))) | fail)
            | ((first | apply ar_op' rfl rfl rfl rfl); (next => (first
             | (refine evalE_ok (T := TT) rfl ?_; (first | exact trivial | omega))
             | (apply opk ⟨_, .binOp .lss _ _ _ _, _, _, _, _⟩; first | (refine opv_cmp_f rfl rfl rfl ?_; (next => (first | (simp only [cmpP]; omega)))) | fail)
             | (apply opk ⟨_, .buildSlice _ _ _, _, _, _, _⟩; first | exact opv_build_slice (T := TT) rfl rfl rfl rfl rfl rfl rfl | fail)
             | fail)))
            | (refine arO _ ?_; first
             | (refine arO ⟨_, .move _, _, _, _, _⟩ ?_; first | refine ar_move_sl rfl rfl rfl rfl ?_ | fail)
             | (refine arO ⟨_, .assign _, _, _, _, _⟩ ?_; first | refine ar_assign_sl rfl rfl rfl rfl ?_ | fail)
             | (refine arO ⟨_, .call { callee := .builtin .append, args := _, argTypes := _ }, _, _, _, _⟩ ?_; first
              | (apply ar_effM rfl rfl; (next => (first
               | (apply effTo_append (T := TT) rfl rfl rfl rfl rfl rfl rfl rfl rfl rfl; (next => (first | assumption)); (next => (first | (simp [NFL] <;> omega))))
               | fail)))
              | fail)
             | (refine arO ⟨_, .load _ _, _, _, _, _⟩ ?_; first | (refine ar_op' rfl rfl rfl rfl (opv_load_boxr (T := TT) rfl look_hd rfl rfl rfl rfl) ?_) | fail)
             | fail)
            | refine ar_seq ?_
            | (refine arE ?_; refine ar_endM [0, 2, 3, 4, 5, 6, 7, 8, 9, 10, 11, 12, 13, 14, 15, 16, 17, 18, 19, 20, 23, 30, 34, 50, 61, 65, 79, 87, 91, 98, 115, 132, 148, 161, 177, 191, 211] rfl ?_)
            | refine ar_region ?_
            | refine ar_blk ?_
            | (refine arC (.cond _ _ _) ?_; first | (refine ar_cond_false rfl ?_ ?_; (next => (first | rfl))) | fail)
            | refine ar_exit ?_
            | refine stk_b_hit ?_
            | refine stk_c_exit ?_
            | refine stk_l_exit ?_
            | fail)
          refine ar_back ⟨(i + 1, L ++ [x]), ⟨rfl, ?_, trivial, rfl⟩, ⟨by dsimp only; omega, by simp; omega, by rw [foldF_snoc hfold hv]; exact readStep_add hc hinn hall2⟩, by dsimp only; omega⟩
          (repeat' (first | exact trivial | exact .refl _ | refine ⟨⟨_, rfl, ?_⟩, ?_⟩ | refine Le1.of_eq ?_))
          rw [List.map_append]
          rfl
        obtain ⟨f, hf⟩ : ∃ f, inn[k]? = some f := ⟨inn[k]'(by omega), List.getElem?_eq_getElem (by omega)⟩
        obtain ⟨⟨f1, f2, f3, f4⟩, f5, f6⟩ := hn2 k f hf
        by_cases hskip : ¬ f.kind = 2 ∨ 2 < f.num
        · have hsk : ¬ f.kind = 2 ∨ (f.kind = 2 ∧ 2 < f.num) := by omega
          rcases hsk with hsk | ⟨hsk, hsk2⟩
          all_goals (repeat (first
            | ((first | apply ar_un); (next => (first | (simp only [go_sem, Nat.reduceBEq, Nat.reduceEqDiff, reduceIte, reduceCtorEq, String.reduceEq, Nat.reduceAdd, Int.reduceToNat]; exact rfl))))
            | (first
             | refine ar_unwantedN rfl rfl rfl rfl ?_
             | (apply ar_opN rfl rfl rfl rfl; (next => (first | exact opv_pickt_cb rfl rfl | exact opv_pickf rfl rfl rfl | exact opv_len_sl (T := TT) rfl rfl rfl | fail)))
             | fail)
            | (apply ar_op' rfl rfl rfl rfl; (next => (first | exact opv_indexaddr_map (T := TT) fldRow inn k f hf rfl rfl rfl rfl rfl | fail)))
            | ((first | apply ar_op' rfl rfl rfl rfl); (next => (first
             | (refine evalE_ok (T := TT) rfl ?_; (first | exact trivial | omega))
             | (apply opk ⟨_, .binOp .neq _ _ _ _, _, _, _, _⟩; first
              | (refine opv_cmp_t rfl rfl rfl ?_; (next => (first | (simp only [cmpP]; omega))))
              | (refine opv_cmp_f rfl rfl rfl ?_; (next => (first | (simp only [cmpP]; omega))))
              | fail)
             | (apply opk ⟨_, .binOp .lss _ _ _ _, _, _, _, _⟩; first | (refine opv_cmp_t rfl rfl rfl ?_; (next => (first | (simp only [cmpP]; omega)))) | fail)
             | (apply opk ⟨_, .binOp .gtr _ _ _ _, _, _, _, _⟩; first | (refine opv_cmp_t rfl rfl rfl ?_; (next => (first | (simp only [cmpP]; omega)))) | fail)
             | (apply opk ⟨_, .fieldAddr _ _ _, _, _, _, _⟩; first | exact opv_field_box (T := TT) rfl rfl rfl rfl rfl | fail)
             | (apply opk ⟨_, .load _ _, _, _, _, _⟩; first | exact opv_load_els (T := TT) rfl rfl rfl rfl | fail)
             | fail)))
            | (refine arO _ ?_; first
             | (refine arO ⟨_, .move _, _, _, _, _⟩ ?_; first | refine ar_move_sl rfl rfl rfl rfl ?_ | fail)
             | (refine arO ⟨_, .load _ _, _, _, _, _⟩ ?_; first | refine ar_load_own (T := TT) rfl rfl rfl rfl look_hd rfl rfl rfl rfl ?_ | fail)
             | (refine arO ⟨_, .store _ _ _, _, _, _, _⟩ ?_; first
              | (apply ar_effM rfl rfl; (next => (first
               | (apply effTo_store (T := TT) rfl; (next => (first | exact look_hd | fail)); (next => rfl); (next => rfl); (next => rfl); (next => rfl); (next => rfl); (next => rfl); (next => rfl); (next => rfl))
               | fail)))
              | fail)
             | (refine arO ⟨_, .alloc _, _, _, _, _⟩ ?_; first
              | (refine ar_eff rfl rfl (eff_alloc (T := TT) rfl rfl ?_); intro kb hkb; (repeat (have hkn := (freshK_ne hkb).1; replace hkb := (freshK_ne hkb).2)); (try have hkl := freshK_look hkb); clear hkb; refine ar_nf ?_)
              | fail)
             | fail)
            | refine ar_seq ?_
            | (refine arE ?_; refine ar_endM [0, 2, 3, 4, 5, 6, 7, 8, 9, 10, 11, 12, 13, 14, 15, 16, 17, 18, 19, 20, 23, 30, 34, 50, 61, 65, 79, 87, 91, 98, 115, 132, 148, 161, 177, 191, 211] rfl ?_)
            | refine ar_region ?_
            | refine ar_block ?_
            | refine ar_skip ?_
            | refine ar_dedup rfl ?_
            | (refine arC (.cond _ _ _) ?_; first | (refine ar_cond_true rfl ?_ ?_; (next => (first | rfl))) | fail)
            | refine ar_exit ?_
            | refine stk_b_hit ?_
            | refine stk_c_exit ?_
            | fail))
          all_goals (refine ar_back ⟨(k + 1, x), ⟨rfl, ?_, ?_, rfl⟩, ⟨by dsimp only; omega, by dsimp only; omega, by dsimp only; omega, by rw [foldF_snoc hfx hf]; exact seriesStep_skip hskip⟩, by dsimp only; omega⟩)
          all_goals (repeat' (first | exact trivial | exact LeL.refl _ | exact .refl _ | refine ⟨⟨_, rfl, ?_⟩, ?_⟩ | refine ⟨⟨_, look_tl (by first | assumption) look_hd, ?_⟩, ?_⟩))
        have hk2 : f.kind = 2 ∧ f.num ≤ 2 ∧ 1 ≤ f.num := by omega
        obtain ⟨hk2a, hk2b, _⟩ := id hk2
        cases hl : flds f.bs with
        | none =>
          rw [hbad2 (foldF_stop hfx hf (seriesStep_bad hk2 hl))]
          repeat (first
            | ((first | apply ar_un | apply stk_un); (next => (first | (simp only [go_sem, Nat.reduceBEq, Nat.reduceEqDiff, reduceIte, reduceCtorEq, String.reduceEq, Nat.reduceAdd, Int.reduceToNat]; exact rfl))))
            | (first | (apply ar_opN rfl rfl rfl rfl; (next => (first | exact opv_pickf rfl rfl rfl | exact opv_len_sl (T := TT) rfl rfl rfl | fail))) | fail)
            | (refine arC .ret ?_; refine ar_retM0 [2, 3] ?_)
            | (apply ar_op' rfl rfl rfl rfl; (next => (first | exact opv_indexaddr_map (T := TT) fldRow inn k f hf rfl rfl rfl rfl rfl | fail)))
            | ((first | apply ar_op' rfl rfl rfl rfl); (next => (first
             | (refine evalE_ok (T := TT) rfl ?_; (first | exact trivial))
             | (apply opk ⟨_, .binOp .neq _ _ _ _, _, _, _, _⟩; first | (refine opv_cmp_f rfl rfl rfl ?_; (next => (first | (simp only [cmpP]; omega)))) | fail)
             | (apply opk ⟨_, .binOp .lss _ _ _ _, _, _, _, _⟩; first | (refine opv_cmp_t rfl rfl rfl ?_; (next => (first | (simp only [cmpP]; omega)))) | fail)
             | (apply opk ⟨_, .binOp .gtr _ _ _ _, _, _, _, _⟩; first | (refine opv_cmp_f rfl rfl rfl ?_; (next => (first | (simp only [cmpP]; omega)))) | fail)
             | (apply opk ⟨_, .fieldAddr _ _ _, _, _, _, _⟩; first | exact opv_field_box (T := TT) rfl rfl rfl rfl rfl | fail)
             | (apply opk ⟨_, .load _ _, _, _, _, _⟩; first | exact opv_load_els (T := TT) rfl rfl rfl rfl | fail)
             | fail)))
            | (refine arO _ ?_; first
             | (refine arO ⟨_, .move _, _, _, _, _⟩ ?_; first | refine ar_move_sl rfl rfl rfl rfl ?_ | fail)
             | (refine arO ⟨_, .load _ _, _, _, _, _⟩ ?_; first | refine ar_load_own (T := TT) rfl rfl rfl rfl look_hd rfl rfl rfl rfl ?_ | fail)
             | (refine arO ⟨_, .store _ _ _, _, _, _, _⟩ ?_; first
              | (apply ar_effM rfl rfl; (next => (first
               | (apply effTo_store (T := TT) rfl; (next => (first | exact look_hd | fail)); (next => rfl); (next => rfl); (next => rfl); (next => rfl); (next => rfl); (next => rfl); (next => rfl); (next => rfl))
               | fail)))
              | fail)
             | (refine arO ⟨_, .alloc _, _, _, _, _⟩ ?_; first
              | (refine ar_eff rfl rfl (eff_alloc (T := TT) rfl rfl ?_); intro kb hkb; (repeat (have hkn := (freshK_ne hkb).1; replace hkb := (freshK_ne hkb).2)); (try have hkl := freshK_look hkb); clear hkb; refine ar_nf ?_)
              | fail)
             | (refine arO ⟨_, .call { callee := .value _, args := _, argTypes := _ }, _, _, _, _⟩ ?_; first
              | (apply ar_callM0 rfl (fieldsOf_none f5 hl) rfl rfl; (next => (repeat (first | exact PArgs.nil | (apply PArgs.cons; (next => (first | exact PArg.rd rfl (Le1.refl _) rfl)))))); (next => rfl); (next => rfl); rintro _ _ ⟨rfl, rfl⟩; refine ⟨_, rfl, ?_⟩)
              | fail)
             | fail)
            | refine ar_seq ?_
            | (refine arE ?_; refine ar_endM [0, 2, 3, 4, 5, 6, 7, 8, 9, 10, 11, 12, 13, 14, 15, 16, 17, 18, 19, 20, 23, 30, 34, 50, 61, 65, 79, 87, 91, 98, 115, 132, 148, 161, 177, 191, 211] rfl ?_)
            | refine ar_region ?_
            | refine ar_block ?_
            | refine ar_skip ?_
            | refine ar_dedup rfl ?_
            | (refine arC (.cond _ _ _) ?_; first | (refine ar_cond_true rfl ?_ ?_; (next => (first | rfl))) | (refine ar_cond_false rfl ?_ ?_; (next => (first | rfl))) | fail)
            | refine stk_c_ret ?_
            | refine stk_b_ret ?_
            | refine stk_l_ret ?_
            | refine stk_nil ?_
            | fail)
          first | exact qret_mk rfl (⟨rfl, rfl⟩) | (trace_state; exact qret_mk rfl (⟨rfl, rfl⟩))
        | some l =>
          obtain ⟨hl1, hl2⟩ := flds_facts hl f5
          repeat (first
            | ((first | apply ar_un); (next => (first | (simp only [go_sem, Nat.reduceBEq, Nat.reduceEqDiff, reduceIte, reduceCtorEq, String.reduceEq, Nat.reduceAdd, Int.reduceToNat]; exact rfl))))
            | (first | (apply ar_opN rfl rfl rfl rfl; (next => (first | exact opv_pickf rfl rfl rfl | exact opv_len_sl (T := TT) rfl rfl rfl | fail))) | fail)
            | (apply ar_op' rfl rfl rfl rfl; (next => (first | exact opv_indexaddr_map (T := TT) fldRow inn k f hf rfl rfl rfl rfl rfl | fail)))
            | ((first | apply ar_op' rfl rfl rfl rfl); (next => (first
             | (refine evalE_ok (T := TT) rfl ?_; (first | exact trivial))
             | (apply opk ⟨_, .binOp .neq _ _ _ _, _, _, _, _⟩; first | (refine opv_cmp_f rfl rfl rfl ?_; (next => (first | (simp only [cmpP]; omega)))) | fail)
             | (apply opk ⟨_, .binOp .lss _ _ _ _, _, _, _, _⟩; first | (refine opv_cmp_t rfl rfl rfl ?_; (next => (first | (simp only [cmpP]; omega)))) | fail)
             | (apply opk ⟨_, .binOp .gtr _ _ _ _, _, _, _, _⟩; first | (refine opv_cmp_f rfl rfl rfl ?_; (next => (first | (simp only [cmpP]; omega)))) | fail)
             | (apply opk ⟨_, .fieldAddr _ _ _, _, _, _, _⟩; first | exact opv_field_box (T := TT) rfl rfl rfl rfl rfl | fail)
             | (apply opk ⟨_, .load _ _, _, _, _, _⟩; first | exact opv_load_els (T := TT) rfl rfl rfl rfl | fail)
             | fail)))
            | (refine arO _ ?_; first
             | (refine arO ⟨_, .move _, _, _, _, _⟩ ?_; first | refine ar_move_sl rfl rfl rfl rfl ?_ | fail)
             | (refine arO ⟨_, .assign _, _, _, _, _⟩ ?_; first | refine ar_assign_sl rfl rfl rfl rfl ?_ | fail)
             | (refine arO ⟨_, .load _ _, _, _, _, _⟩ ?_; first | refine ar_load_own (T := TT) rfl rfl rfl rfl look_hd rfl rfl rfl rfl ?_ | fail)
             | (refine arO ⟨_, .store _ _ _, _, _, _, _⟩ ?_; first
              | (apply ar_effM rfl rfl; (next => (first
               | (apply effTo_store (T := TT) rfl; (next => (first | exact look_hd | fail)); (next => rfl); (next => rfl); (next => rfl); (next => rfl); (next => rfl); (next => rfl); (next => rfl); (next => rfl))
               | fail)))
              | fail)
             | (refine arO ⟨_, .alloc _, _, _, _, _⟩ ?_; first
              | (refine ar_eff rfl rfl (eff_alloc (T := TT) rfl rfl ?_); intro kb hkb; (repeat (have hkn := (freshK_ne hkb).1; replace hkb := (freshK_ne hkb).2)); (try have hkl := freshK_look hkb); clear hkb; refine ar_nf ?_)
              | fail)
             | (refine arO ⟨_, .call { callee := .value _, args := _, argTypes := _ }, _, _, _, _⟩ ?_; first
              | (apply ar_callM0 rfl (fieldsOf_some f5 hl) rfl rfl; (next => (repeat (first | exact PArgs.nil | (apply PArgs.cons; (next => (first | exact PArg.rd rfl (Le1.refl _) rfl)))))); (next => rfl); (next => rfl); rintro _ _ ⟨rfl, rfl⟩; refine ⟨_, rfl, ?_⟩)
              | fail)
             | fail)
            | refine ar_seq ?_
            | (refine arE ?_; refine ar_endM [0, 2, 3, 4, 5, 6, 7, 8, 9, 10, 11, 12, 13, 14, 15, 16, 17, 18, 19, 20, 23, 30, 34, 50, 61, 65, 79, 87, 91, 98, 115, 132, 148, 161, 177, 191, 211] rfl ?_)
            | refine ar_region ?_
            | refine ar_block ?_
            | refine ar_skip ?_
            | refine ar_dedup rfl ?_
            | (refine arC (.cond _ _ _) ?_; first | (refine ar_cond_true rfl ?_ ?_; (next => (first | rfl))) | (refine ar_cond_false rfl ?_ ?_; (next => (first | rfl))) | fail)
            | fail)
          --LOOPC
          rename_i kf hq1 hq2 kl hq3 hq4 hq5 hq6 hq7
          obtain ⟨km, hkm⟩ : ∃ km, km = kb := ⟨kb, rfl⟩
          subst hkm
          refine ar_loop (fun y : Nat × Lbl × Smp => ⟨214, [(4, .sl false 4 (top.map fldRow)), (6, .sl true 2 (L.map srsRow)), (7, .v (.int .i64 i)), (8, .sl false 4 (inn.map fldRow)), (10, .v (.pointer (some ⟨kx, 0, none⟩))), (11, .v (.int .i64 k)), (12, .v (.pointer (some ⟨kf, 0, none⟩))), (13, .sl false 4 (l.map fldRow)), (15, .v (.pointer (some ⟨kl, 0, none⟩))), (16, .v (.pointer (some ⟨km, 0, none⟩))), (17, .v (.int .i64 y.1))], [(kx, [.sl true 2 (x.1.map lblRow), .sl true 2 (x.2.map smpRow)]), (km, [.v (.int .i64 (y.2.2.1)), .v (.int .u64 (y.2.2.2))]), (kl, [.v (.string (mkB (y.2.1).1)), .v (.string (mkB (y.2.1).2))]), (kf, [.v (.int .i64 f.num), .v (.int .i64 f.kind), .v (.int .u64 f.n), .v (.string (mkB f.bs))])], []⟩) (fun y => y.1 ≤ l.length ∧ (f.num = 1 → foldF labelStep (l.take y.1) ([], []) = some y.2.1) ∧ (f.num = 2 → foldF sampleStep (l.take y.1) (0, 0) = some y.2.2)) (fun y => l.length - y.1) (0, ([], []), (0, 0)) ⟨rfl, ?_, ?_, rfl⟩ ⟨Nat.zero_le _, fun _ => rfl, fun _ => rfl⟩ ?_
          · (repeat' (first | exact trivial | exact .refl _ | refine ⟨⟨_, rfl, ?_⟩, ?_⟩))
          · (repeat' (first | exact trivial | exact LeL.refl _ | refine ⟨⟨_, look_hd, ?_⟩, ?_⟩ | refine ⟨⟨_, look_tl (by first | assumption) look_hd, ?_⟩, ?_⟩ | refine ⟨⟨_, look_tl (by first | assumption) (look_tl (by first | assumption) look_hd), ?_⟩, ?_⟩ | refine ⟨⟨_, look_tl (by first | assumption) (look_tl (by first | assumption) (look_tl (by first | assumption) look_hd)), ?_⟩, ?_⟩))
          rintro ⟨j, lb, sm⟩ ⟨hj, hjl, hjs⟩
          dsimp only at hj hjl hjs ⊢
          have hml : (l.map fldRow).length = l.length := List.length_map ..
          by_cases hjend : j = l.length
          · by_cases hf1 : f.num = 1
            · have hcomp := foldF_all (hjl hf1) (by omega)
              have hro := rowsOne_lbl lb
              simp only [lblRow] at hro
              repeat (first
                | ((first | apply ar_un); (next => (first | (simp only [go_sem, Nat.reduceBEq, Nat.reduceEqDiff, reduceIte, reduceCtorEq, String.reduceEq, Nat.reduceAdd, Int.reduceToNat]; exact rfl))))
                | (first | (apply ar_opN rfl rfl rfl rfl; (next => (first | exact opv_len_sl (T := TT) rfl rfl rfl | fail))) | fail)
                | (apply ar_op' rfl rfl rfl rfl; (next => (first
                 | (refine evalE_ok (T := TT) rfl ?_; (first | exact trivial | omega))
                 | (apply opk ⟨_, .binOp .eql _ _ _ _, _, _, _, _⟩; first | (refine opv_cmp_t rfl rfl rfl ?_; (next => (first | (simp only [cmpP]; omega)))) | fail)
                 | (apply opk ⟨_, .binOp .lss _ _ _ _, _, _, _, _⟩; first | (refine opv_cmp_f rfl rfl rfl ?_; (next => (first | (simp only [cmpP]; omega)))) | fail)
                 | (apply opk ⟨_, .fieldAddr _ _ _, _, _, _, _⟩; first | exact opv_field_box (T := TT) rfl rfl rfl rfl rfl | fail)
                 | (apply opk ⟨_, .buildSlice _ _ _, _, _, _, _⟩; first | exact opv_build_slice (T := TT) rfl rfl rfl rfl rfl rfl rfl | fail)
                 | fail)))
                | (refine arO _ ?_; first
                 | (refine arO ⟨_, .move _, _, _, _, _⟩ ?_; first | refine ar_move_sl rfl rfl rfl rfl ?_ | fail)
                 | (refine arO ⟨_, .load _ _, _, _, _, _⟩ ?_; first
                  | refine ar_load_own (T := TT) rfl rfl rfl rfl look_hd rfl rfl rfl rfl ?_
                  | (refine ar_load_own (T := TT) rfl rfl rfl rfl (look_tl ?_ (look_tl ?_ (look_tl ?_ look_hd))) rfl rfl rfl rfl ?_; (next => (first | (intro e; exact absurd e.symm (by assumption)))); (next => (first | assumption)); (next => (first | assumption)))
                  | fail)
                 | (refine arO ⟨_, .call { callee := .builtin .append, args := _, argTypes := _ }, _, _, _, _⟩ ?_; first
                  | (apply ar_effM rfl rfl; (next => (first
                   | (apply effTo_append (T := TT) rfl (own_c look_hd rfl) rfl rfl rfl rfl rfl rfl rfl rfl; (next => (first | assumption)); (next => (first | (simp [NFL] <;> omega))))
                   | fail)))
                  | fail)
                 | (refine arO ⟨_, .store _ _ _, _, _, _, _⟩ ?_; first
                  | (apply ar_effM rfl rfl; (next => (first | (apply effTo_store_own (T := TT) rfl rfl rfl; (next => (first | exact look_hd | fail)); (next => rfl); (next => rfl); (next => rfl)) | fail)))
                  | fail)
                 | (refine arO ⟨_, .load _ _, _, _, _, _⟩ ?_; first
                  | (refine ar_op' rfl rfl rfl rfl (opv_load_boxr (T := TT) rfl (look_tl ?_ (look_tl ?_ look_hd)) rfl rfl rfl rfl) ?_; (next => (first | (intro e; exact absurd e.symm (by assumption)))); (next => (first | assumption)))
                  | fail)
                 | fail)
                | refine ar_seq ?_
                | (refine arE ?_; refine ar_endM [0, 2, 3, 4, 5, 6, 7, 8, 9, 10, 11, 12, 13, 14, 15, 16, 17, 18, 19, 20, 23, 30, 34, 50, 61, 65, 79, 87, 91, 98, 115, 132, 148, 161, 177, 191, 211] rfl ?_)
                | refine ar_region ?_
                | refine ar_blk ?_
                | (refine arC (.cond _ _ _) ?_; first | (refine ar_cond_true rfl ?_ ?_; (next => (first | rfl))) | (refine ar_cond_false rfl ?_ ?_; (next => (first | rfl))) | fail)
                | refine ar_exit ?_
                | refine stk_b_hit ?_
                | refine stk_c_exit ?_
                | refine stk_l_exit ?_
                | fail)
              refine ar_back ⟨(k + 1, (x.1 ++ [lb], x.2)), ⟨rfl, ?_, ?_, rfl⟩, ⟨by dsimp only; omega, by simp; omega, by dsimp only; omega, by rw [foldF_snoc hfx hf]; exact seriesStep_label hk2a hf1 hl hcomp⟩, by dsimp only; omega⟩
              · (repeat' (first | exact trivial | exact .refl _ | refine ⟨⟨_, rfl, ?_⟩, ?_⟩))
              · (repeat' (first | exact trivial | exact LeL.refl _ | refine ⟨⟨_, look_hd, ?_⟩, ?_⟩ | refine LeL.cons ?_ ?_ | refine Le1.of_eq ?_))
                rw [List.map_append]
                rfl
            · have hf2 : f.num = 2 := by omega
              have hcomp := foldF_all (hjs hf2) (by omega)
              have hro := rowsOne_smp sm
              simp only [smpRow] at hro
              repeat (first
                | ((first | apply ar_un); (next => (first | (simp only [go_sem, Nat.reduceBEq, Nat.reduceEqDiff, reduceIte, reduceCtorEq, String.reduceEq, Nat.reduceAdd, Int.reduceToNat]; exact rfl))))
                | (first | (apply ar_opN rfl rfl rfl rfl; (next => (first | exact opv_len_sl (T := TT) rfl rfl rfl | fail))) | fail)
                | (apply ar_op' rfl rfl rfl rfl; (next => (first
                 | (refine evalE_ok (T := TT) rfl ?_; (first | exact trivial | omega))
                 | (apply opk ⟨_, .binOp .eql _ _ _ _, _, _, _, _⟩; first | (refine opv_cmp_f rfl rfl rfl ?_; (next => (first | (simp only [cmpP]; omega)))) | fail)
                 | (apply opk ⟨_, .binOp .lss _ _ _ _, _, _, _, _⟩; first | (refine opv_cmp_f rfl rfl rfl ?_; (next => (first | (simp only [cmpP]; omega)))) | fail)
                 | (apply opk ⟨_, .fieldAddr _ _ _, _, _, _, _⟩; first | exact opv_field_box (T := TT) rfl rfl rfl rfl rfl | fail)
                 | (apply opk ⟨_, .buildSlice _ _ _, _, _, _, _⟩; first | exact opv_build_slice (T := TT) rfl rfl rfl rfl rfl rfl rfl | fail)
                 | fail)))
                | (refine arO _ ?_; first
                 | (refine arO ⟨_, .move _, _, _, _, _⟩ ?_; first | refine ar_move_sl rfl rfl rfl rfl ?_ | fail)
                 | (refine arO ⟨_, .load _ _, _, _, _, _⟩ ?_; first
                  | refine ar_load_own (T := TT) rfl rfl rfl rfl look_hd rfl rfl rfl rfl ?_
                  | (refine ar_load_own (T := TT) rfl rfl rfl rfl (look_tl ?_ (look_tl ?_ (look_tl ?_ look_hd))) rfl rfl rfl rfl ?_; (next => (first | (intro e; exact absurd e.symm (by assumption)))); (next => (first | assumption)); (next => (first | assumption)))
                  | fail)
                 | (refine arO ⟨_, .call { callee := .builtin .append, args := _, argTypes := _ }, _, _, _, _⟩ ?_; first
                  | (apply ar_effM rfl rfl; (next => (first
                   | (apply effTo_append (T := TT) rfl (own_c look_hd rfl) rfl rfl rfl rfl rfl rfl rfl rfl; (next => (first | assumption)); (next => (first | (simp [NFL] <;> omega))))
                   | fail)))
                  | fail)
                 | (refine arO ⟨_, .store _ _ _, _, _, _, _⟩ ?_; first
                  | (apply ar_effM rfl rfl; (next => (first | (apply effTo_store_own (T := TT) rfl rfl rfl; (next => (first | exact look_hd | fail)); (next => rfl); (next => rfl); (next => rfl)) | fail)))
                  | fail)
                 | (refine arO ⟨_, .load _ _, _, _, _, _⟩ ?_; first
                  | (refine ar_op' rfl rfl rfl rfl (opv_load_boxr (T := TT) rfl (look_tl ?_ look_hd) rfl rfl rfl rfl) ?_; (next => (first | (intro e; exact absurd e.symm (by assumption)))))
                  | fail)
                 | fail)
                | refine ar_seq ?_
                | (refine arE ?_; refine ar_endM [0, 2, 3, 4, 5, 6, 7, 8, 9, 10, 11, 12, 13, 14, 15, 16, 17, 18, 19, 20, 23, 30, 34, 50, 61, 65, 79, 87, 91, 98, 115, 132, 148, 161, 177, 191, 211] rfl ?_)
                | refine ar_region ?_
                | refine ar_blk ?_
                | (refine arC (.cond _ _ _) ?_; first | (refine ar_cond_false rfl ?_ ?_; (next => (first | rfl))) | fail)
                | refine ar_exit ?_
                | refine stk_b_hit ?_
                | refine stk_c_exit ?_
                | refine stk_l_exit ?_
                | fail)
              refine ar_back ⟨(k + 1, (x.1, x.2 ++ [sm])), ⟨rfl, ?_, ?_, rfl⟩, ⟨by dsimp only; omega, by dsimp only; omega, by simp; omega, by rw [foldF_snoc hfx hf]; exact seriesStep_sample hk2a hf2 hl hcomp⟩, by dsimp only; omega⟩
              · (repeat' (first | exact trivial | exact .refl _ | refine ⟨⟨_, rfl, ?_⟩, ?_⟩))
              · (repeat' (first | exact trivial | exact LeL.refl _ | exact .refl _ | refine ⟨⟨_, look_hd, ?_⟩, ?_⟩ | refine LeL.cons ?_ ?_ | refine Le1.of_eq ?_))
                rw [List.map_append]
                rfl
          obtain ⟨g, hg⟩ : ∃ g, l[j]? = some g := ⟨l[j]'(by omega), List.getElem?_eq_getElem (by omega)⟩
          obtain ⟨⟨g1, g2, g3, g4⟩, g5, g6⟩ := hl2 j g hg
          have hcase : (f.num = 1 ∧ g.num = 1 ∧ g.kind = 2) ∨ (f.num = 1 ∧ g.num = 2 ∧ g.kind = 2) ∨ (f.num = 2 ∧ g.num = 1 ∧ g.kind = 1) ∨ (f.num = 2 ∧ g.num = 2 ∧ g.kind = 0 ∧ g.n < 9223372036854775808) ∨ (f.num = 2 ∧ g.num = 2 ∧ g.kind = 0 ∧ ¬ g.n < 9223372036854775808) ∨ ((f.num = 1 ∧ g.num = 1 ∧ ¬ g.kind = 2) ∨ (f.num = 1 ∧ g.num = 2 ∧ ¬ g.kind = 2) ∨ (f.num = 1 ∧ ¬ g.num = 1 ∧ ¬ g.num = 2) ∨ (f.num = 2 ∧ g.num = 1 ∧ ¬ g.kind = 1) ∨ (f.num = 2 ∧ g.num = 2 ∧ ¬ g.kind = 0) ∨ (f.num = 2 ∧ ¬ g.num = 1 ∧ ¬ g.num = 2)) := by omega
          rcases hcase with ⟨q1, q2, q3⟩ | ⟨q1, q2, q3⟩ | ⟨q1, q2, q3⟩ | ⟨q1, q2, q3, q4⟩ | ⟨q1, q2, q3, q4⟩ | hcx
          · repeat (first
            | ((first | apply ar_un); (next => (first | (simp only [go_sem, Nat.reduceBEq, Nat.reduceEqDiff, reduceIte, reduceCtorEq, String.reduceEq, Nat.reduceAdd, Int.reduceToNat]; exact rfl))))
            | (first | (apply ar_opN rfl rfl rfl rfl; (next => (first | exact opv_pickt rfl rfl rfl | exact opv_len_sl (T := TT) rfl rfl rfl | fail))) | fail)
            | (apply ar_op' rfl rfl rfl rfl; (next => (first | exact opv_indexaddr_map (T := TT) fldRow l j g hg rfl rfl rfl rfl rfl | fail)))
            | (apply ar_op' rfl rfl rfl rfl; (next => (first
             | (refine evalE_ok (T := TT) rfl ?_; (first | exact trivial | omega))
             | (apply opk ⟨_, .binOp .eql _ _ _ _, _, _, _, _⟩; first | (refine opv_cmp_t rfl rfl rfl ?_; (next => (first | (simp only [cmpP]; omega)))) | fail)
             | (apply opk ⟨_, .binOp .lss _ _ _ _, _, _, _, _⟩; first | (refine opv_cmp_t rfl rfl rfl ?_; (next => (first | (simp only [cmpP]; omega)))) | fail)
             | (apply opk ⟨_, .fieldAddr _ _ _, _, _, _, _⟩; first | exact opv_field_box (T := TT) rfl rfl rfl rfl rfl | fail)
             | (apply opk ⟨_, .load _ _, _, _, _, _⟩; first | exact opv_load_els (T := TT) rfl rfl rfl rfl | fail)
             | fail)))
            | (refine arO _ ?_; first
             | (refine arO ⟨_, .move _, _, _, _, _⟩ ?_; first | refine ar_move_sl rfl rfl rfl rfl ?_ | fail)
             | (refine arO ⟨_, .load _ _, _, _, _, _⟩ ?_; first
              | refine ar_load_own (T := TT) rfl rfl rfl rfl look_hd rfl rfl rfl rfl ?_
              | (refine ar_load_own (T := TT) rfl rfl rfl rfl (look_tl ?_ (look_tl ?_ (look_tl ?_ (look_tl ?_ (look_tl ?_ look_hd))))) rfl rfl rfl rfl ?_; (next => (first | assumption)); (next => (first | assumption)); (next => (first | (intro e; exact absurd e.symm (by assumption)))); (next => (first | assumption)); (next => (first | assumption)))
              | fail)
             | (refine arO ⟨_, .store _ _ _, _, _, _, _⟩ ?_; first
              | (apply ar_effM rfl rfl; (next => (first
               | (apply effTo_store (T := TT) rfl; (next => (first
                | exact look_hd
                | ((repeat (first | exact look_hd | (apply look_tl; (next => (first | assumption | (intro e; exact absurd e.symm (by assumption)) | fail))) | fail)); done)
                | fail)); (next => rfl); (next => rfl); (next => rfl); (next => rfl); (next => rfl); (next => rfl); (next => rfl); (next => rfl))
               | fail)))
              | fail)
             | (refine arO ⟨_, .alloc _, _, _, _, _⟩ ?_; first
              | (refine ar_eff rfl rfl (eff_alloc (T := TT) rfl rfl ?_); intro kb hkb; (repeat (have hkn := (freshK_ne hkb).1; replace hkb := (freshK_ne hkb).2)); (try have hkl := freshK_look hkb); clear hkb; refine ar_nf ?_)
              | fail)
             | fail)
            | refine ar_seq ?_
            | (refine arE ?_; refine ar_endM [0, 2, 3, 4, 5, 6, 7, 8, 9, 10, 11, 12, 13, 14, 15, 16, 17, 18, 19, 20, 23, 30, 34, 50, 61, 65, 79, 87, 91, 98, 115, 132, 148, 161, 177, 191, 211] rfl ?_)
            | refine ar_region ?_
            | refine ar_block ?_
            | refine ar_skip ?_
            | refine ar_blk ?_
            | refine ar_dedup rfl ?_
            | (refine arC (.cond _ _ _) ?_; first | (refine ar_cond_true rfl ?_ ?_; (next => (first | rfl))) | fail)
            | fail)
            refine ar_back ⟨(j + 1, (g.bs, lb.2), sm), ⟨rfl, ?_, ?_, rfl⟩, ⟨by dsimp only; omega, fun h => (by first | (rw [foldF_snoc (hjl h) hg]; exact labelStep_1 q2 q3)), fun h => (by first | (exfalso; omega))⟩, by dsimp only; omega⟩
            · (repeat' (first | exact trivial | exact .refl _ | refine ⟨⟨_, rfl, ?_⟩, ?_⟩))
            · (repeat' (first
              | exact trivial
              | exact LeL.refl _
              | refine ⟨⟨_, look_hd, ?_⟩, ?_⟩
              | refine ⟨⟨_, look_tl (by first | assumption | (intro e; exact absurd e.symm (by assumption))) (look_tl (by first | assumption) look_hd), ?_⟩, ?_⟩
              | refine ⟨⟨_, look_tl (by first | assumption | (intro e; exact absurd e.symm (by assumption))) (look_tl (by first | assumption) (look_tl (by first | (intro e; exact absurd e.symm (by assumption))) look_hd)), ?_⟩, ?_⟩
              | refine ⟨⟨_, look_tl (by first | assumption) (look_tl (by first | assumption) (look_tl (by first | (intro e; exact absurd e.symm (by assumption))) (look_tl (by first | assumption) (look_tl (by first | assumption) look_hd)))), ?_⟩, ?_⟩))
          · repeat (first
            | ((first | apply ar_un); (next => (first | (simp only [go_sem, Nat.reduceBEq, Nat.reduceEqDiff, reduceIte, reduceCtorEq, String.reduceEq, Nat.reduceAdd, Int.reduceToNat]; exact rfl))))
            | (first
             | refine ar_unwantedN rfl rfl rfl rfl ?_
             | (apply ar_opN rfl rfl rfl rfl; (next => (first | exact opv_pickf_cb rfl rfl | exact opv_pickt rfl rfl rfl | exact opv_len_sl (T := TT) rfl rfl rfl | fail)))
             | fail)
            | (apply ar_op' rfl rfl rfl rfl; (next => (first | exact opv_indexaddr_map (T := TT) fldRow l j g hg rfl rfl rfl rfl rfl | fail)))
            | (apply ar_op' rfl rfl rfl rfl; (next => (first
             | (refine evalE_ok (T := TT) rfl ?_; (first | exact trivial | omega))
             | (apply opk ⟨_, .binOp .eql _ _ _ _, _, _, _, _⟩; first
              | (refine opv_cmp_t rfl rfl rfl ?_; (next => (first | (simp only [cmpP]; omega))))
              | (refine opv_cmp_f rfl rfl rfl ?_; (next => (first | (simp only [cmpP]; omega))))
              | fail)
             | (apply opk ⟨_, .binOp .lss _ _ _ _, _, _, _, _⟩; first | (refine opv_cmp_t rfl rfl rfl ?_; (next => (first | (simp only [cmpP]; omega)))) | fail)
             | (apply opk ⟨_, .fieldAddr _ _ _, _, _, _, _⟩; first | exact opv_field_box (T := TT) rfl rfl rfl rfl rfl | fail)
             | (apply opk ⟨_, .load _ _, _, _, _, _⟩; first | exact opv_load_els (T := TT) rfl rfl rfl rfl | fail)
             | fail)))
            | (refine arO _ ?_; first
             | (refine arO ⟨_, .move _, _, _, _, _⟩ ?_; first | refine ar_move_sl rfl rfl rfl rfl ?_ | fail)
             | (refine arO ⟨_, .load _ _, _, _, _, _⟩ ?_; first
              | refine ar_load_own (T := TT) rfl rfl rfl rfl look_hd rfl rfl rfl rfl ?_
              | (refine ar_load_own (T := TT) rfl rfl rfl rfl (look_tl ?_ (look_tl ?_ (look_tl ?_ (look_tl ?_ look_hd)))) rfl rfl rfl rfl ?_; (next => (first | assumption)); (next => (first | (intro e; exact absurd e.symm (by assumption)))); (next => (first | assumption)); (next => (first | assumption)))
              | (refine ar_load_own (T := TT) rfl rfl rfl rfl (look_tl ?_ (look_tl ?_ (look_tl ?_ (look_tl ?_ (look_tl ?_ look_hd))))) rfl rfl rfl rfl ?_; (next => (first | assumption)); (next => (first | assumption)); (next => (first | (intro e; exact absurd e.symm (by assumption)))); (next => (first | assumption)); (next => (first | assumption)))
              | fail)
             | (refine arO ⟨_, .store _ _ _, _, _, _, _⟩ ?_; first
              | (apply ar_effM rfl rfl; (next => (first
               | (apply effTo_store (T := TT) rfl; (next => (first
                | exact look_hd
                | ((repeat (first | exact look_hd | (apply look_tl; (next => (first | assumption | (intro e; exact absurd e.symm (by assumption)) | fail))) | fail)); done)
                | fail)); (next => rfl); (next => rfl); (next => rfl); (next => rfl); (next => rfl); (next => rfl); (next => rfl); (next => rfl))
               | fail)))
              | fail)
             | (refine arO ⟨_, .alloc _, _, _, _, _⟩ ?_; first
              | (refine ar_eff rfl rfl (eff_alloc (T := TT) rfl rfl ?_); intro kb hkb; (repeat (have hkn := (freshK_ne hkb).1; replace hkb := (freshK_ne hkb).2)); (try have hkl := freshK_look hkb); clear hkb; refine ar_nf ?_)
              | fail)
             | fail)
            | refine ar_seq ?_
            | (refine arE ?_; refine ar_endM [0, 2, 3, 4, 5, 6, 7, 8, 9, 10, 11, 12, 13, 14, 15, 16, 17, 18, 19, 20, 23, 30, 34, 50, 61, 65, 79, 87, 91, 98, 115, 132, 148, 161, 177, 191, 211] rfl ?_)
            | refine ar_region ?_
            | refine ar_block ?_
            | refine ar_skip ?_
            | refine ar_blk ?_
            | refine ar_dedup rfl ?_
            | (refine arC (.cond _ _ _) ?_; first | (refine ar_cond_true rfl ?_ ?_; (next => (first | rfl))) | (refine ar_cond_false rfl ?_ ?_; (next => (first | rfl))) | fail)
            | fail)
            refine ar_back ⟨(j + 1, (lb.1, g.bs), sm), ⟨rfl, ?_, ?_, rfl⟩, ⟨by dsimp only; omega, fun h => (by first | (rw [foldF_snoc (hjl h) hg]; exact labelStep_2 q2 q3)), fun h => (by first | (exfalso; omega))⟩, by dsimp only; omega⟩
            · (repeat' (first | exact trivial | exact .refl _ | refine ⟨⟨_, rfl, ?_⟩, ?_⟩))
            · (repeat' (first
              | exact trivial
              | exact LeL.refl _
              | refine ⟨⟨_, look_hd, ?_⟩, ?_⟩
              | refine ⟨⟨_, look_tl (by first | assumption | (intro e; exact absurd e.symm (by assumption))) (look_tl (by first | assumption) look_hd), ?_⟩, ?_⟩
              | refine ⟨⟨_, look_tl (by first | assumption | (intro e; exact absurd e.symm (by assumption))) (look_tl (by first | assumption) (look_tl (by first | (intro e; exact absurd e.symm (by assumption))) look_hd)), ?_⟩, ?_⟩
              | refine ⟨⟨_, look_tl (by first | assumption) (look_tl (by first | assumption) (look_tl (by first | (intro e; exact absurd e.symm (by assumption))) (look_tl (by first | assumption) (look_tl (by first | assumption) look_hd)))), ?_⟩, ?_⟩))
          · have hb8 : g.bs.length = 8 := g4 q3
            repeat (first
              | ((first | apply ar_un); (next => (first | (simp only [go_sem, Nat.reduceBEq, Nat.reduceEqDiff, reduceIte, reduceCtorEq, String.reduceEq, Nat.reduceAdd, Int.reduceToNat]; exact rfl))))
              | (first
               | refine ar_unwantedN rfl rfl rfl rfl ?_
               | (apply ar_opN rfl rfl rfl rfl; (next => (first | exact opv_pickf_cb rfl rfl | exact opv_pickt rfl rfl rfl | exact opv_len_sl (T := TT) rfl rfl rfl | fail)))
               | fail)
              | (apply ar_op' rfl rfl rfl rfl; (next => (first | exact opv_indexaddr_map (T := TT) fldRow l j g hg rfl rfl rfl rfl rfl | fail)))
              | (apply ar_op' rfl rfl rfl rfl; (next => (first
               | (refine evalE_ok (T := TT) rfl ?_; (first | exact trivial))
               | (apply opk ⟨_, .binOp .eql _ _ _ _, _, _, _, _⟩; first
                | (refine opv_cmp_t rfl rfl rfl ?_; (next => (first | (simp only [cmpP]; omega))))
                | (refine opv_cmp_f rfl rfl rfl ?_; (next => (first | (simp only [cmpP]; omega))))
                | fail)
               | (apply opk ⟨_, .binOp .lss _ _ _ _, _, _, _, _⟩; first | (refine opv_cmp_t rfl rfl rfl ?_; (next => (first | (simp only [cmpP]; omega)))) | fail)
               | (apply opk ⟨_, .fieldAddr _ _ _, _, _, _, _⟩; first | exact opv_field_box (T := TT) rfl rfl rfl rfl rfl | fail)
               | (apply opk ⟨_, .load _ _, _, _, _, _⟩; first | exact opv_load_els (T := TT) rfl rfl rfl rfl | fail)
               | fail)))
              | (refine arO _ ?_; first
               | (refine arO ⟨_, .move _, _, _, _, _⟩ ?_; first | refine ar_move_sl rfl rfl rfl rfl ?_ | fail)
               | (refine arO ⟨_, .load _ _, _, _, _, _⟩ ?_; first
                | refine ar_load_own (T := TT) rfl rfl rfl rfl look_hd rfl rfl rfl rfl ?_
                | (refine ar_load_own (T := TT) rfl rfl rfl rfl (look_tl ?_ (look_tl ?_ (look_tl ?_ (look_tl ?_ look_hd)))) rfl rfl rfl rfl ?_; (next => (first | assumption)); (next => (first | (intro e; exact absurd e.symm (by assumption)))); (next => (first | assumption)); (next => (first | assumption)))
                | (refine ar_load_own (T := TT) rfl rfl rfl rfl (look_tl ?_ (look_tl ?_ (look_tl ?_ (look_tl ?_ (look_tl ?_ look_hd))))) rfl rfl rfl rfl ?_; (next => (first | assumption)); (next => (first | assumption)); (next => (first | (intro e; exact absurd e.symm (by assumption)))); (next => (first | assumption)); (next => (first | assumption)))
                | fail)
               | (refine arO ⟨_, .store _ _ _, _, _, _, _⟩ ?_; first
                | (apply ar_effM rfl rfl; (next => (first
                 | (apply effTo_store (T := TT) rfl; (next => (first
                  | exact look_hd
                  | ((repeat (first | exact look_hd | (apply look_tl; (next => (first | assumption | (intro e; exact absurd e.symm (by assumption)) | fail))) | fail)); done)
                  | fail)); (next => rfl); (next => rfl); (next => rfl); (next => rfl); (next => rfl); (next => rfl); (next => rfl); (next => rfl))
                 | fail)))
                | fail)
               | (refine arO ⟨_, .alloc _, _, _, _, _⟩ ?_; first
                | (refine ar_eff rfl rfl (eff_alloc (T := TT) rfl rfl ?_); intro kb hkb; (repeat (have hkn := (freshK_ne hkb).1; replace hkb := (freshK_ne hkb).2)); (try have hkl := freshK_look hkb); clear hkb; refine ar_nf ?_)
                | fail)
               | fail)
              | refine ar_seq ?_
              | (refine arE ?_; refine ar_endM [0, 2, 3, 4, 5, 6, 7, 8, 9, 10, 11, 12, 13, 14, 15, 16, 17, 18, 19, 20, 23, 30, 34, 50, 61, 65, 79, 87, 91, 98, 115, 132, 148, 161, 177, 191, 211] rfl ?_)
              | refine ar_region ?_
              | refine ar_block ?_
              | refine ar_skip ?_
              | refine ar_dedup rfl ?_
              | (refine arC (.cond _ _ _) ?_; first | (refine ar_cond_true rfl ?_ ?_; (next => (first | rfl))) | (refine ar_cond_false rfl ?_ ?_; (next => (first | rfl))) | fail)
              | fail)
            obtain ⟨kg, hkg⟩ : ∃ kg, kg = kb := ⟨kb, rfl⟩
            subst hkg
            refine ar_loop (fun y : Nat => ⟨214, [(4, .sl false 4 (top.map fldRow)), (6, .sl true 2 (L.map srsRow)), (7, .v (.int .i64 i)), (8, .sl false 4 (inn.map fldRow)), (10, .v (.pointer (some ⟨kx, 0, none⟩))), (11, .v (.int .i64 k)), (12, .v (.pointer (some ⟨kf, 0, none⟩))), (13, .sl false 4 (l.map fldRow)), (15, .v (.pointer (some ⟨kl, 0, none⟩))), (16, .v (.pointer (some ⟨km, 0, none⟩))), (17, .v (.int .i64 j)), (18, .v (.pointer (some ⟨kg, 0, none⟩))), (19, .v (.int .i64 ((y : Int) - 1)))], [(kg, [.v (.int .i64 g.num), .v (.int .i64 g.kind), .v (.int .u64 g.n), .v (.string (mkB g.bs))]), (kx, [.sl true 2 (x.1.map lblRow), .sl true 2 (x.2.map smpRow)]), (km, [.v (.int .i64 (sm.1)), .v (.int .u64 (leN (g.bs.drop y)))]), (kl, [.v (.string (mkB (lb).1)), .v (.string (mkB (lb).2))]), (kf, [.v (.int .i64 f.num), .v (.int .i64 f.kind), .v (.int .u64 f.n), .v (.string (mkB f.bs))])], []⟩) (fun y => y ≤ 8) (fun y => y) 8 ⟨rfl, ?_, ?_, rfl⟩ (Nat.le_refl _) ?_
            · (repeat' (first | exact trivial | exact .refl _ | refine ⟨⟨_, rfl, ?_⟩, ?_⟩))
            · (repeat' (first
              | exact trivial
              | exact LeL.refl _
              | exact .refl _
              | refine ⟨⟨_, look_hd, ?_⟩, ?_⟩
              | refine ⟨⟨_, look_tl (by first | assumption | (intro e; exact absurd e.symm (by assumption))) look_hd, ?_⟩, ?_⟩
              | refine ⟨⟨_, look_tl (by first | assumption) (look_tl (by first | assumption) look_hd), ?_⟩, ?_⟩
              | refine ⟨⟨_, look_tl (by first | assumption) (look_tl (by first | assumption) (look_tl (by first | (intro e; exact absurd e.symm (by assumption))) (look_tl (by first | assumption) look_hd))), ?_⟩, ?_⟩
              | refine ⟨⟨_, look_tl (by first | assumption) (look_tl (by first | assumption) (look_tl (by first | (intro e; exact absurd e.symm (by assumption))) (look_tl (by first | assumption) (look_tl (by first | assumption) look_hd)))), ?_⟩, ?_⟩
              | refine LeL.cons ?_ ?_
              | refine Le1.of_eq ?_))
              rw [List.drop_of_length_le (by omega)]
              rfl
            intro y hy
            rcases y with _ | m
            · repeat (first
              | ((first | apply ar_un); (next => (first | (simp only [go_sem, Nat.reduceBEq, Nat.reduceEqDiff, reduceIte, reduceCtorEq, String.reduceEq, Nat.reduceAdd, Int.reduceToNat]; exact rfl))))
              | (apply ar_op' rfl rfl rfl rfl; (next => (first
               | (refine evalE_ok (T := TT) rfl ?_; (first | exact trivial | omega))
               | (apply opk ⟨_, .binOp .geq _ _ _ _, _, _, _, _⟩; first | (refine opv_cmp_f rfl rfl rfl ?_; (next => (first | (simp only [cmpP]; omega)))) | fail)
               | fail)))
              | refine ar_seq ?_
              | (refine arE ?_; refine ar_endM [0, 2, 3, 4, 5, 6, 7, 8, 9, 10, 11, 12, 13, 14, 15, 16, 17, 18, 19, 20, 23, 30, 34, 50, 61, 65, 79, 87, 91, 98, 115, 132, 148, 161, 177, 191, 211] rfl ?_)
              | refine ar_region ?_
              | refine ar_blk ?_
              | (refine arC (.cond _ _ _) ?_; first | (refine ar_cond_false rfl ?_ ?_; (next => (first | rfl))) | fail)
              | refine ar_exit ?_
              | refine stk_b_hit ?_
              | refine stk_c_exit ?_
              | refine stk_l_exit ?_
              | fail)
              refine ar_back ⟨(j + 1, lb, (sm.1, leN g.bs)), ⟨rfl, ?_, ?_, rfl⟩, ⟨by dsimp only; omega, fun h => (by first | (exfalso; omega)), fun h => (by first | (rw [foldF_snoc (hjs h) hg]; exact sampleStep_1 q2 q3))⟩, by dsimp only; omega⟩
              · (repeat' (first | exact trivial | exact .refl _ | refine ⟨⟨_, rfl, ?_⟩, ?_⟩))
              · (repeat' (first
                | exact trivial
                | exact LeL.refl _
                | refine ⟨⟨_, look_tl (by first | assumption) look_hd, ?_⟩, ?_⟩
                | refine ⟨⟨_, look_tl (by first | assumption) (look_tl (by first | (intro e; exact absurd e.symm (by assumption))) look_hd), ?_⟩, ?_⟩
                | refine ⟨⟨_, look_tl (by first | assumption) (look_tl (by first | (intro e; exact absurd e.symm (by assumption))) (look_tl (by first | assumption) look_hd)), ?_⟩, ?_⟩
                | refine ⟨⟨_, look_tl (by first | assumption) (look_tl (by first | (intro e; exact absurd e.symm (by assumption))) (look_tl (by first | assumption) (look_tl (by first | assumption) look_hd))), ?_⟩, ?_⟩))
            · have hm1 := leN_drop g.bs m (by omega)
              have hm2 := leN_lt (g.bs.drop (m + 1))
              have hm3 : 256 ^ (g.bs.drop (m + 1)).length ≤ 256 ^ 7 := Nat.pow_le_pow_right (by decide) (by simp; omega)
              have hm4 : leN (g.bs.drop (m + 1)) < 72057594037927936 := by omega
              have hm5 : (g.bs.getD m 0).toNat < 256 := UInt8.toNat_lt _
              have hm6 : (((m + 1 : Nat) : Int) - 1) = (m : Int) := by omega
              clear hm2 hm3
              rw [hm6]
              repeat (first
                | ((first | apply ar_un); (next => (first | (simp only [go_sem, Nat.reduceBEq, Nat.reduceEqDiff, reduceIte, reduceCtorEq, String.reduceEq, Nat.reduceAdd, Int.reduceToNat]; exact rfl))))
                | (apply ar_op' rfl rfl rfl rfl; (next => (first
                 | (refine evalE_ok (T := TT) rfl ?_; (first | exact trivial))
                 | (apply opk ⟨_, .binOp .geq _ _ _ _, _, _, _, _⟩; first | (refine opv_cmp_t rfl rfl rfl ?_; (next => (first | (simp only [cmpP]; omega)))) | fail)
                 | fail)))
                | refine ar_seq ?_
                | (refine arE ?_; refine ar_endM [0, 2, 3, 4, 5, 6, 7, 8, 9, 10, 11, 12, 13, 14, 15, 16, 17, 18, 19, 20, 23, 30, 34, 50, 61, 65, 79, 87, 91, 98, 115, 132, 148, 161, 177, 191, 211] rfl ?_)
                | refine ar_region ?_
                | refine ar_block ?_
                | refine ar_skip ?_
                | (refine arC (.cond _ _ _) ?_; first | (refine ar_cond_true rfl ?_ ?_; (next => (first | rfl))) | fail)
                | fail)
              refine ar_nop (ar_drawS mixed (body := List.dropLast _) (om := List.getLast _ (by simp)) (List.dropLast_concat_getLast _).symm (by kernel_rfl) rfl ?_)
              repeat (first
                | ((apply q_op rfl rfl rfl; (next => (first
                 | (refine evalE_ok (T := TT) rfl ?_; (first | exact trivial | omega | (simp [NFL] <;> omega)))
                 | (apply opk ⟨_, .convert _ _ _, _, _, _, _⟩; first | (refine opv_conv_byte (T := TT) rfl rfl rfl ?_; (next => (first | exact .inr (.inl rfl)))) | fail)
                 | (apply opk ⟨_, .fieldAddr _ _ _, _, _, _, _⟩; first | exact opv_field_box (T := TT) rfl rfl rfl rfl rfl | fail)
                 | (apply opk ⟨_, .load _ _, _, _, _, _⟩; first
                  | (apply opv_load_box (T := TT) rfl; (next => (first
                   | exact look_hd
                   | ((repeat (first | exact look_hd | (apply look_tl; (next => (first | assumption | (intro e; exact absurd e.symm (by assumption)) | fail))) | fail)); done)
                   | fail)); (next => rfl); (next => rfl); (next => rfl); (next => rfl))
                  | fail)
                 | fail))); (apply q_un; (next => (first | (simp only [go_sem, Nat.reduceBEq, Nat.reduceEqDiff, reduceIte, reduceCtorEq, String.reduceEq, Nat.reduceAdd, Int.reduceToNat]; exact rfl)))))
                | fail)
              refine q_nil ?_
              simp only [List.getLast_cons_cons, List.getLast_singleton]
              refine eff_nf ?_
              (apply eff_un; (next => ((first | (simp only [go_sem, Nat.reduceBEq, Nat.reduceEqDiff, reduceIte, reduceCtorEq, String.reduceEq, Nat.reduceAdd, Int.reduceToNat]; exact rfl) | exact rfl))))
              (apply effM; (next => (first | (apply effTo_store (T := TT) rfl; (next => (first | ((repeat (first | exact look_hd | (apply look_tl; (next => (first | assumption | (intro e; exact absurd e.symm (by assumption)) | fail))) | fail)); done) | fail)); (next => rfl); (next => rfl); (next => rfl); (next => rfl); (next => rfl); (next => rfl); (next => rfl); (next => rfl)) | fail)))
              refine ar_endM [0, 2, 3, 4, 5, 6, 7, 8, 9, 10, 11, 12, 13, 14, 15, 16, 17, 18, 19, 20, 23, 30, 34, 50, 61, 65, 79, 87, 91, 98, 115, 132, 148, 161, 177, 191, 211] rfl ?_
              repeat (first | ((first | apply ar_un); (next => (first | (simp only [go_sem, Nat.reduceBEq, Nat.reduceEqDiff, reduceIte, reduceCtorEq, String.reduceEq, Nat.reduceAdd, Int.reduceToNat]; exact rfl)))) | (apply ar_op' rfl rfl rfl rfl; (next => (first | (refine evalE_ok (T := TT) rfl ?_; (first | exact trivial | omega)) | fail))) | (refine arE ?_; refine ar_endM [0, 2, 3, 4, 5, 6, 7, 8, 9, 10, 11, 12, 13, 14, 15, 16, 17, 18, 19, 20, 23, 30, 34, 50, 61, 65, 79, 87, 91, 98, 115, 132, 148, 161, 177, 191, 211] rfl ?_) | refine ar_region ?_ | refine ar_blk ?_ | fail)
              refine ar_back ⟨m, ⟨rfl, ?_, ?_, rfl⟩, by omega, by omega⟩
              · (repeat' (first | exact trivial | exact .refl _ | refine ⟨⟨_, rfl, ?_⟩, ?_⟩))
              · (repeat' (first
                | exact trivial
                | exact LeL.refl _
                | exact .refl _
                | refine ⟨⟨_, look_hd, ?_⟩, ?_⟩
                | refine ⟨⟨_, look_tl (by first | assumption | (intro e; exact absurd e.symm (by assumption))) look_hd, ?_⟩, ?_⟩
                | refine ⟨⟨_, look_tl (by first | assumption) (look_tl (by first | assumption) look_hd), ?_⟩, ?_⟩
                | refine ⟨⟨_, look_tl (by first | assumption) (look_tl (by first | assumption) (look_tl (by first | (intro e; exact absurd e.symm (by assumption))) (look_tl (by first | assumption) look_hd))), ?_⟩, ?_⟩
                | refine ⟨⟨_, look_tl (by first | assumption) (look_tl (by first | assumption) (look_tl (by first | (intro e; exact absurd e.symm (by assumption))) (look_tl (by first | assumption) (look_tl (by first | assumption) look_hd)))), ?_⟩, ?_⟩
                | refine LeL.cons ?_ ?_
                | refine Le1.of_eq ?_))
                exact congrArg (fun q => AV.v (.int .u64 q)) (by omega)
          · repeat (first
            | ((first | apply ar_un); (next => (first | (simp only [go_sem, Nat.reduceBEq, Nat.reduceEqDiff, reduceIte, reduceCtorEq, String.reduceEq, Nat.reduceAdd, Int.reduceToNat]; exact rfl))))
            | (first
             | refine ar_unwantedN rfl rfl rfl rfl ?_
             | (apply ar_opN rfl rfl rfl rfl; (next => (first | exact opv_pickf_cb rfl rfl | exact opv_pickt rfl rfl rfl | exact opv_len_sl (T := TT) rfl rfl rfl | fail)))
             | fail)
            | (apply ar_op' rfl rfl rfl rfl; (next => (first | exact opv_indexaddr_map (T := TT) fldRow l j g hg rfl rfl rfl rfl rfl | fail)))
            | (apply ar_op' rfl rfl rfl rfl; (next => (first
             | (refine evalE_ok (T := TT) rfl ?_; (first | exact trivial | omega))
             | (apply opk ⟨_, .binOp .eql _ _ _ _, _, _, _, _⟩; first
              | (refine opv_cmp_t rfl rfl rfl ?_; (next => (first | (simp only [cmpP]; omega))))
              | (refine opv_cmp_f rfl rfl rfl ?_; (next => (first | (simp only [cmpP]; omega))))
              | fail)
             | (apply opk ⟨_, .binOp .lss _ _ _ _, _, _, _, _⟩; first | (refine opv_cmp_t rfl rfl rfl ?_; (next => (first | (simp only [cmpP]; omega)))) | fail)
             | (apply opk ⟨_, .convert _ _ _, _, _, _, _⟩; first | (refine opv_conv64 (T := TT) rfl rfl rfl ?_; (next => (first | omega))) | fail)
             | (apply opk ⟨_, .fieldAddr _ _ _, _, _, _, _⟩; first | exact opv_field_box (T := TT) rfl rfl rfl rfl rfl | fail)
             | (apply opk ⟨_, .load _ _, _, _, _, _⟩; first | exact opv_load_els (T := TT) rfl rfl rfl rfl | fail)
             | fail)))
            | (refine arO _ ?_; first
             | (refine arO ⟨_, .move _, _, _, _, _⟩ ?_; first | refine ar_move_sl rfl rfl rfl rfl ?_ | fail)
             | (refine arO ⟨_, .load _ _, _, _, _, _⟩ ?_; first
              | refine ar_load_own (T := TT) rfl rfl rfl rfl look_hd rfl rfl rfl rfl ?_
              | (refine ar_load_own (T := TT) rfl rfl rfl rfl (look_tl ?_ (look_tl ?_ (look_tl ?_ (look_tl ?_ look_hd)))) rfl rfl rfl rfl ?_; (next => (first | assumption)); (next => (first | (intro e; exact absurd e.symm (by assumption)))); (next => (first | assumption)); (next => (first | assumption)))
              | (refine ar_load_own (T := TT) rfl rfl rfl rfl (look_tl ?_ (look_tl ?_ (look_tl ?_ (look_tl ?_ (look_tl ?_ look_hd))))) rfl rfl rfl rfl ?_; (next => (first | assumption)); (next => (first | assumption)); (next => (first | (intro e; exact absurd e.symm (by assumption)))); (next => (first | assumption)); (next => (first | assumption)))
              | fail)
             | (refine arO ⟨_, .store _ _ _, _, _, _, _⟩ ?_; first
              | (apply ar_effM rfl rfl; (next => (first
               | (apply effTo_store (T := TT) rfl; (next => (first
                | exact look_hd
                | ((repeat (first | exact look_hd | (apply look_tl; (next => (first | assumption | (intro e; exact absurd e.symm (by assumption)) | fail))) | fail)); done)
                | fail)); (next => rfl); (next => rfl); (next => rfl); (next => rfl); (next => rfl); (next => rfl); (next => rfl); (next => rfl))
               | fail)))
              | fail)
             | (refine arO ⟨_, .alloc _, _, _, _, _⟩ ?_; first
              | (refine ar_eff rfl rfl (eff_alloc (T := TT) rfl rfl ?_); intro kb hkb; (repeat (have hkn := (freshK_ne hkb).1; replace hkb := (freshK_ne hkb).2)); (try have hkl := freshK_look hkb); clear hkb; refine ar_nf ?_)
              | fail)
             | fail)
            | refine ar_seq ?_
            | (refine arE ?_; refine ar_endM [0, 2, 3, 4, 5, 6, 7, 8, 9, 10, 11, 12, 13, 14, 15, 16, 17, 18, 19, 20, 23, 30, 34, 50, 61, 65, 79, 87, 91, 98, 115, 132, 148, 161, 177, 191, 211] rfl ?_)
            | refine ar_region ?_
            | refine ar_block ?_
            | refine ar_skip ?_
            | refine ar_blk ?_
            | refine ar_dedup rfl ?_
            | (refine arC (.cond _ _ _) ?_; first | (refine ar_cond_true rfl ?_ ?_; (next => (first | rfl))) | (refine ar_cond_false rfl ?_ ?_; (next => (first | rfl))) | fail)
            | fail)
            refine ar_back ⟨(j + 1, lb, ((g.n : Int), sm.2)), ⟨rfl, ?_, ?_, rfl⟩, ⟨by dsimp only; omega, fun h => (by first | (exfalso; omega)), fun h => (by first | (rw [foldF_snoc (hjs h) hg]; exact sampleStep_s q2 q3 q4))⟩, by dsimp only; omega⟩
            · (repeat' (first | exact trivial | exact .refl _ | refine ⟨⟨_, rfl, ?_⟩, ?_⟩))
            · (repeat' (first
              | exact trivial
              | exact LeL.refl _
              | refine ⟨⟨_, look_hd, ?_⟩, ?_⟩
              | refine ⟨⟨_, look_tl (by first | assumption) (look_tl (by first | assumption) look_hd), ?_⟩, ?_⟩
              | refine ⟨⟨_, look_tl (by first | assumption) (look_tl (by first | assumption) (look_tl (by first | (intro e; exact absurd e.symm (by assumption))) (look_tl (by first | assumption) look_hd))), ?_⟩, ?_⟩
              | refine ⟨⟨_, look_tl (by first | assumption) (look_tl (by first | assumption) (look_tl (by first | (intro e; exact absurd e.symm (by assumption))) (look_tl (by first | assumption) (look_tl (by first | assumption) look_hd)))), ?_⟩, ?_⟩))
          · have hneg : IntKind.i64.wrap (0 - (18446744073709551615 - (g.n : Int))) = (g.n : Int) - 18446744073709551615 := by rw [IntKind.wrap_i64]; omega
            repeat (first
              | ((first | apply ar_un); (next => (first | (simp only [go_sem, Nat.reduceBEq, Nat.reduceEqDiff, reduceIte, reduceCtorEq, String.reduceEq, Nat.reduceAdd, Int.reduceToNat]; exact rfl))))
              | (first
               | refine ar_unwantedN rfl rfl rfl rfl ?_
               | (apply ar_opN rfl rfl rfl rfl; (next => (first | exact opv_pickf_cb rfl rfl | exact opv_pickt rfl rfl rfl | exact opv_len_sl (T := TT) rfl rfl rfl | fail)))
               | fail)
              | (apply ar_op' rfl rfl rfl rfl; (next => (first | exact opv_indexaddr_map (T := TT) fldRow l j g hg rfl rfl rfl rfl rfl | fail)))
              | (apply ar_op' rfl rfl rfl rfl; (next => exact opv_eq (opv_neg rfl rfl) (congrArg (fun q => AV.v (.int .i64 q)) hneg)))
              | (apply ar_op' rfl rfl rfl rfl; (next => (first
               | (refine evalE_ok (T := TT) rfl ?_; (first | exact trivial | omega))
               | (apply opk ⟨_, .binOp .eql _ _ _ _, _, _, _, _⟩; first
                | (refine opv_cmp_t rfl rfl rfl ?_; (next => (first | (simp only [cmpP]; omega))))
                | (refine opv_cmp_f rfl rfl rfl ?_; (next => (first | (simp only [cmpP]; omega))))
                | fail)
               | (apply opk ⟨_, .binOp .lss _ _ _ _, _, _, _, _⟩; first
                | (refine opv_cmp_t rfl rfl rfl ?_; (next => (first | (simp only [cmpP]; omega))))
                | (refine opv_cmp_f rfl rfl rfl ?_; (next => (first | (simp only [cmpP]; omega))))
                | fail)
               | (apply opk ⟨_, .convert _ _ _, _, _, _, _⟩; first | (refine opv_conv64 (T := TT) rfl rfl rfl ?_; (next => (first | omega))) | fail)
               | (apply opk ⟨_, .fieldAddr _ _ _, _, _, _, _⟩; first | exact opv_field_box (T := TT) rfl rfl rfl rfl rfl | fail)
               | (apply opk ⟨_, .load _ _, _, _, _, _⟩; first | exact opv_load_els (T := TT) rfl rfl rfl rfl | fail)
               | fail)))
              | (refine arO _ ?_; first
               | (refine arO ⟨_, .move _, _, _, _, _⟩ ?_; first | refine ar_move_sl rfl rfl rfl rfl ?_ | fail)
               | (refine arO ⟨_, .load _ _, _, _, _, _⟩ ?_; first
                | refine ar_load_own (T := TT) rfl rfl rfl rfl look_hd rfl rfl rfl rfl ?_
                | (refine ar_load_own (T := TT) rfl rfl rfl rfl (look_tl ?_ (look_tl ?_ (look_tl ?_ (look_tl ?_ look_hd)))) rfl rfl rfl rfl ?_; (next => (first | assumption)); (next => (first | (intro e; exact absurd e.symm (by assumption)))); (next => (first | assumption)); (next => (first | assumption)))
                | (refine ar_load_own (T := TT) rfl rfl rfl rfl (look_tl ?_ (look_tl ?_ (look_tl ?_ (look_tl ?_ (look_tl ?_ look_hd))))) rfl rfl rfl rfl ?_; (next => (first | assumption)); (next => (first | assumption)); (next => (first | (intro e; exact absurd e.symm (by assumption)))); (next => (first | assumption)); (next => (first | assumption)))
                | fail)
               | (refine arO ⟨_, .store _ _ _, _, _, _, _⟩ ?_; first
                | (apply ar_effM rfl rfl; (next => (first
                 | (apply effTo_store (T := TT) rfl; (next => (first
                  | exact look_hd
                  | ((repeat (first | exact look_hd | (apply look_tl; (next => (first | assumption | (intro e; exact absurd e.symm (by assumption)) | fail))) | fail)); done)
                  | fail)); (next => rfl); (next => rfl); (next => rfl); (next => rfl); (next => rfl); (next => rfl); (next => rfl); (next => rfl))
                 | fail)))
                | fail)
               | (refine arO ⟨_, .alloc _, _, _, _, _⟩ ?_; first
                | (refine ar_eff rfl rfl (eff_alloc (T := TT) rfl rfl ?_); intro kb hkb; (repeat (have hkn := (freshK_ne hkb).1; replace hkb := (freshK_ne hkb).2)); (try have hkl := freshK_look hkb); clear hkb; refine ar_nf ?_)
                | fail)
               | fail)
              | refine ar_seq ?_
              | (refine arE ?_; refine ar_endM [0, 2, 3, 4, 5, 6, 7, 8, 9, 10, 11, 12, 13, 14, 15, 16, 17, 18, 19, 20, 23, 30, 34, 50, 61, 65, 79, 87, 91, 98, 115, 132, 148, 161, 177, 191, 211] rfl ?_)
              | refine ar_region ?_
              | refine ar_block ?_
              | refine ar_skip ?_
              | refine ar_blk ?_
              | refine ar_dedup rfl ?_
              | (refine arC (.cond _ _ _) ?_; first | (refine ar_cond_true rfl ?_ ?_; (next => (first | rfl))) | (refine ar_cond_false rfl ?_ ?_; (next => (first | rfl))) | fail)
              | fail)
            refine ar_back ⟨(j + 1, lb, ((g.n : Int) - 18446744073709551616, sm.2)), ⟨rfl, ?_, ?_, rfl⟩, ⟨by dsimp only; omega, fun h => (by first | (exfalso; omega)), fun h => (by first | (rw [foldF_snoc (hjs h) hg]; exact sampleStep_b q2 q3 q4))⟩, by dsimp only; omega⟩
            · (repeat' (first | exact trivial | exact .refl _ | refine ⟨⟨_, rfl, ?_⟩, ?_⟩))
            · (repeat' (first
              | exact trivial
              | exact LeL.refl _
              | refine ⟨⟨_, look_hd, ?_⟩, ?_⟩
              | refine ⟨⟨_, look_tl (by first | assumption) (look_tl (by first | assumption) look_hd), ?_⟩, ?_⟩
              | refine ⟨⟨_, look_tl (by first | assumption) (look_tl (by first | assumption) (look_tl (by first | (intro e; exact absurd e.symm (by assumption))) (look_tl (by first | assumption) look_hd))), ?_⟩, ?_⟩
              | refine ⟨⟨_, look_tl (by first | assumption) (look_tl (by first | assumption) (look_tl (by first | (intro e; exact absurd e.symm (by assumption))) (look_tl (by first | assumption) (look_tl (by first | assumption) look_hd)))), ?_⟩, ?_⟩
              | refine LeL.cons ?_ ?_
              | refine Le1.of_eq ?_))
              exact congrArg (fun q => AV.v (.int .i64 q)) (by dsimp only; omega)
          · have hlx : f.num = 1 → labelStep lb g = some lb := fun h => labelStep_x (by omega) (by omega)
            have hsx : f.num = 2 → sampleStep sm g = some sm := fun h => sampleStep_x (by omega) (by omega)
            rcases hcx with ⟨q1, q2, q3⟩ | ⟨q1, q2, q3⟩ | ⟨q1, q2, q3⟩ | ⟨q1, q2, q3⟩ | ⟨q1, q2, q3⟩ | ⟨q1, q2, q3⟩
            all_goals (repeat (first
              | ((first | apply ar_un); (next => (first | (simp only [go_sem, Nat.reduceBEq, Nat.reduceEqDiff, reduceIte, reduceCtorEq, String.reduceEq, Nat.reduceAdd, Int.reduceToNat]; exact rfl))))
              | (first
               | refine ar_unwantedN rfl rfl rfl rfl ?_
               | (apply ar_opN rfl rfl rfl rfl; (next => (first | exact opv_pickf_cb rfl rfl | exact opv_pickt rfl rfl rfl | exact opv_len_sl (T := TT) rfl rfl rfl | fail)))
               | fail)
              | (apply ar_op' rfl rfl rfl rfl; (next => (first | exact opv_indexaddr_map (T := TT) fldRow l j g hg rfl rfl rfl rfl rfl | fail)))
              | (apply ar_op' rfl rfl rfl rfl; (next => (first
               | (refine evalE_ok (T := TT) rfl ?_; (first | exact trivial | omega))
               | (apply opk ⟨_, .binOp .eql _ _ _ _, _, _, _, _⟩; first
                | (refine opv_cmp_t rfl rfl rfl ?_; (next => (first | (simp only [cmpP]; omega))))
                | (refine opv_cmp_f rfl rfl rfl ?_; (next => (first | (simp only [cmpP]; omega))))
                | fail)
               | (apply opk ⟨_, .binOp .lss _ _ _ _, _, _, _, _⟩; first | (refine opv_cmp_t rfl rfl rfl ?_; (next => (first | (simp only [cmpP]; omega)))) | fail)
               | (apply opk ⟨_, .fieldAddr _ _ _, _, _, _, _⟩; first | exact opv_field_box (T := TT) rfl rfl rfl rfl rfl | fail)
               | (apply opk ⟨_, .load _ _, _, _, _, _⟩; first | exact opv_load_els (T := TT) rfl rfl rfl rfl | fail)
               | fail)))
              | (refine arO _ ?_; first
               | (refine arO ⟨_, .move _, _, _, _, _⟩ ?_; first | refine ar_move_sl rfl rfl rfl rfl ?_ | fail)
               | (refine arO ⟨_, .load _ _, _, _, _, _⟩ ?_; first
                | refine ar_load_own (T := TT) rfl rfl rfl rfl look_hd rfl rfl rfl rfl ?_
                | (refine ar_load_own (T := TT) rfl rfl rfl rfl (look_tl ?_ (look_tl ?_ (look_tl ?_ (look_tl ?_ look_hd)))) rfl rfl rfl rfl ?_; (next => (first | assumption)); (next => (first | (intro e; exact absurd e.symm (by assumption)))); (next => (first | assumption)); (next => (first | assumption)))
                | (refine ar_load_own (T := TT) rfl rfl rfl rfl (look_tl ?_ (look_tl ?_ (look_tl ?_ (look_tl ?_ (look_tl ?_ look_hd))))) rfl rfl rfl rfl ?_; (next => (first | assumption)); (next => (first | assumption)); (next => (first | (intro e; exact absurd e.symm (by assumption)))); (next => (first | assumption)); (next => (first | assumption)))
                | fail)
               | (refine arO ⟨_, .store _ _ _, _, _, _, _⟩ ?_; first
                | (apply ar_effM rfl rfl; (next => (first
                 | (apply effTo_store (T := TT) rfl; (next => (first | exact look_hd | fail)); (next => rfl); (next => rfl); (next => rfl); (next => rfl); (next => rfl); (next => rfl); (next => rfl); (next => rfl))
                 | fail)))
                | fail)
               | (refine arO ⟨_, .alloc _, _, _, _, _⟩ ?_; first
                | (refine ar_eff rfl rfl (eff_alloc (T := TT) rfl rfl ?_); intro kb hkb; (repeat (have hkn := (freshK_ne hkb).1; replace hkb := (freshK_ne hkb).2)); (try have hkl := freshK_look hkb); clear hkb; refine ar_nf ?_)
                | fail)
               | fail)
              | refine ar_seq ?_
              | (refine arE ?_; refine ar_endM [0, 2, 3, 4, 5, 6, 7, 8, 9, 10, 11, 12, 13, 14, 15, 16, 17, 18, 19, 20, 23, 30, 34, 50, 61, 65, 79, 87, 91, 98, 115, 132, 148, 161, 177, 191, 211] rfl ?_)
              | refine ar_region ?_
              | refine ar_block ?_
              | refine ar_skip ?_
              | refine ar_blk ?_
              | refine ar_dedup rfl ?_
              | (refine arC (.cond _ _ _) ?_; first | (refine ar_cond_true rfl ?_ ?_; (next => (first | rfl))) | (refine ar_cond_false rfl ?_ ?_; (next => (first | rfl))) | fail)
              | fail))
            all_goals (refine ar_back ⟨(j + 1, lb, sm), ⟨rfl, ?_, ?_, rfl⟩, ⟨by dsimp only; omega, fun h => (by first | (exfalso; omega) | (rw [foldF_snoc (hjl h) hg]; exact hlx h)), fun h => (by first | (exfalso; omega) | (rw [foldF_snoc (hjs h) hg]; exact hsx h))⟩, by dsimp only; omega⟩)
            all_goals (repeat' (first
              | exact trivial
              | exact LeL.refl _
              | exact .refl _
              | refine ⟨⟨_, rfl, ?_⟩, ?_⟩
              | refine ⟨⟨_, look_tl (by first | assumption) look_hd, ?_⟩, ?_⟩
              | refine ⟨⟨_, look_tl (by first | assumption) (look_tl (by first | (intro e; exact absurd e.symm (by assumption))) look_hd), ?_⟩, ?_⟩
              | refine ⟨⟨_, look_tl (by first | assumption) (look_tl (by first | (intro e; exact absurd e.symm (by assumption))) (look_tl (by first | assumption) look_hd)), ?_⟩, ?_⟩
              | refine ⟨⟨_, look_tl (by first | assumption) (look_tl (by first | (intro e; exact absurd e.symm (by assumption))) (look_tl (by first | assumption) (look_tl (by first | assumption) look_hd))), ?_⟩, ?_⟩))
    · have hc2 : ¬ v.num = 1 ∨ (v.num = 1 ∧ ¬ v.kind = 2) := by omega
      rcases hc2 with hc2 | ⟨hc2, hc3⟩
      all_goals (repeat (first
        | ((first | apply ar_un); (next => (first | (simp only [go_sem, Nat.reduceBEq, Nat.reduceEqDiff, reduceIte, reduceCtorEq, String.reduceEq, Nat.reduceAdd, Int.reduceToNat]; exact rfl))))
        | (first
         | refine ar_unwantedN rfl rfl rfl rfl ?_
         | (apply ar_opN rfl rfl rfl rfl; (next => (first | exact opv_pickt_cb rfl rfl | exact opv_pickf rfl rfl rfl | exact opv_len_sl (T := TT) rfl rfl rfl | fail)))
         | fail)
        | (apply ar_op' rfl rfl rfl rfl; (next => (first | exact opv_indexaddr_map (T := TT) fldRow top i v hv rfl rfl rfl rfl rfl | fail)))
        | ((first | apply ar_op' rfl rfl rfl rfl); (next => (first
         | (refine evalE_ok (T := TT) rfl ?_; (first | exact trivial | omega))
         | (apply opk ⟨_, .binOp .neq _ _ _ _, _, _, _, _⟩; first
          | (refine opv_cmp_t rfl rfl rfl ?_; (next => (first | (simp only [cmpP]; omega))))
          | (refine opv_cmp_f rfl rfl rfl ?_; (next => (first | (simp only [cmpP]; omega))))
          | fail)
         | (apply opk ⟨_, .binOp .lss _ _ _ _, _, _, _, _⟩; first | (refine opv_cmp_t rfl rfl rfl ?_; (next => (first | (simp only [cmpP]; omega)))) | fail)
         | (apply opk ⟨_, .fieldAddr _ _ _, _, _, _, _⟩; first | exact opv_field_el (T := TT) rfl rfl rfl rfl rfl rfl | fail)
         | (apply opk ⟨_, .load _ _, _, _, _, _⟩; first | exact opv_load_el (T := TT) rfl rfl rfl | fail)
         | fail)))
        | (refine arO _ ?_; first | (refine arO ⟨_, .move _, _, _, _, _⟩ ?_; first | refine ar_move_sl rfl rfl rfl rfl ?_ | fail) | fail)
        | refine ar_seq ?_
        | (refine arE ?_; refine ar_endM [0, 2, 3, 4, 5, 6, 7, 8, 9, 10, 11, 12, 13, 14, 15, 16, 17, 18, 19, 20, 23, 30, 34, 50, 61, 65, 79, 87, 91, 98, 115, 132, 148, 161, 177, 191, 211] rfl ?_)
        | refine ar_region ?_
        | refine ar_block ?_
        | refine ar_skip ?_
        | (refine arC (.cond _ _ _) ?_; first | (refine ar_cond_true rfl ?_ ?_; (next => (first | rfl))) | fail)
        | refine ar_exit ?_
        | refine stk_b_hit ?_
        | refine stk_c_exit ?_
        | fail))
      all_goals (refine ar_back ⟨(i + 1, L), ⟨rfl, ?_, trivial, rfl⟩, ⟨by dsimp only; omega, by dsimp only; omega, by rw [foldF_snoc hfold hv]; exact readStep_skip hc⟩, by dsimp only; omega⟩)
      all_goals (repeat' (first | exact trivial | exact .refl _ | refine ⟨⟨_, rfl, ?_⟩, ?_⟩))
end Go.Proofs.Ytophpbihcfdkcaa
