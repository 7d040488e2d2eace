import Derived.Test.YtgmlkhfjhogdbaaGreatBk05
import Derived.ProofKit
import Derived.OpenShut
import Derived.Deep.Slices
set_option linter.unusedSimpArgs false
set_option linter.unusedVariables false
/- slices.Insert of one label, over a box. -/
namespace Go.Proofs.YtgmlkhfjhogdbaaGreat
open Go.RowKit P
set_option linter.unusedSimpArgs false
set_option linter.unusedVariables false
attribute [local irreducible] AS.nf OpV ARun Stk QSem QSemA ACalls EffOp AppOk SrcOk Awp Aops NSem CSem
/-- What an insertion answers: a box that holds the elements, the new one at i. -/
def InsPost (cs : List AV) (n i : Nat) (r : List AV) (out : AOut) (H : List (Nat × List AV)) : Prop :=
  ∃ k c' sp, out = .ret (.v (.slice (some ⟨k, 0, none⟩) (n + 1) c')) ∧ look H k = some (cs.take (i * 2) ++ r ++ (cs.drop (i * 2)).take ((n - i) * 2) ++ sp) ∧ (n + 1) * 2 + sp.length = c' * 2
theorem srcA_row {P : Program} {F : Nat → Prop} {X : GW} {σ : AS} {a : Act} (hs : SimE F X σ a.tmps) {x : Operand} {r : List AV} {o : Bool} (hx : opV σ x = some (.sl o 2 [r])) (h1 : ∀ u ∈ r, CellOk u) : ∃ vs, SrcA P X 2 1 1 r (a.eval x) vs := by
  have h := srcA_sl (P := P) (by decide) (opV_rel' hs hx) (fun q hq u hu => by
    simp only [List.mem_singleton] at hq; subst hq; exact (h1 u hu).1)
  simpa using h
set_option maxHeartbeats 2000000
set_option maxRecDepth 100000 in
theorem insert_end (k n c : Nat) (cs r : List AV) (hcs : cs.length = c * 2) (hnc : n ≤ c) (hc : n ≤ 1000000) (hok : ∀ u ∈ cs.take (n * 2), CellOk u) (hr : r.length = 2) (hrok : ∀ u ∈ r, CellOk u) :
    ACalls Tryz.prog 35 [.v (.slice (some ⟨k, 0, none⟩) n c), .v (.int .i64 (n : Nat)), .sl false 2 [r]] [(k, cs)] (InsPost cs n n r) := by
  have hmp := isMpB_even hcs
  refine acalls_enter _ 95 [.tmp 6] Tryz.func35 (by kernel_rfl) rfl rfl rfl rfl ?_
  dsimp only [slotsOf]
  repeat (first
    | ((first | apply ar_un); (next => (first | (simp only [go_sem, Nat.reduceBEq, Nat.reduceEqDiff, reduceIte, reduceCtorEq, String.reduceEq, Nat.reduceAdd, Int.reduceToNat]; exact rfl))))
    | ((first | apply ar_op' rfl rfl rfl rfl); (next => exact opv_slice_bx (T := TT) (sz := 2) (i := n) (j := n) rfl rfl rfl (by rfl) (by rfl) (by omega) hnc))
    | (apply ar_op' rfl rfl rfl rfl; (next => (first
     | (refine evalE_ok (T := TT) rfl ?_; (first | exact trivial))
     | (apply opk ⟨_, .binOp .eql _ _ _ _, _, _, _, _⟩; first
      | (refine opv_cmp_t rfl rfl rfl ?_; (next => (first | exact rfl)))
      | (refine opv_cmp_f rfl rfl rfl ?_; (next => (first | (simp only [cmpP]; omega))))
      | fail)
     | (apply opk ⟨_, .call { callee := .builtin .len, args := _, argTypes := _ }, _, _, _, _⟩; first
      | exact opv_len_sl (T := TT) rfl rfl rfl
      | exact opv_len_nil (T := TT) rfl rfl rfl
      | fail)
     | fail)))
    | (refine arO _ ?_; first | (refine arO ⟨_, .move _, _, _, _, _⟩ ?_; first | refine ar_move_sl rfl rfl rfl rfl ?_ | fail) | fail)
    | refine ar_seq ?_
    | (refine arE ?_; refine ar_endM [0, 1, 2, 6, 7, 8, 9, 16, 22, 31, 68] rfl ?_)
    | refine ar_region ?_
    | refine ar_skip ?_
    | (refine arC (.cond _ _ _) ?_; first | (refine ar_cond_true rfl ?_ ?_; (next => (first | rfl))) | (refine ar_cond_false rfl ?_ ?_; (next => (first | rfl))) | fail)
    | fail)
  by_cases hroom : n + 1 ≤ c
  · refine ar_eff rfl rfl (eff_append_in (T := TT) (sz := 2) (N := 1) (us := r) rfl (look_h _ _ _) hmp rfl rfl (.inr ⟨_, rfl⟩) rfl (fun F X a hs => srcA_row hs rfl hrok) hroom (by omega) (fun u hu => (hrok u hu).2) rfl ?_)
    repeat (first | ((first | apply ar_un | apply stk_un); (next => (first | (simp only [go_sem, Nat.reduceBEq, Nat.reduceEqDiff, reduceIte, reduceCtorEq, String.reduceEq, Nat.reduceAdd, Int.reduceToNat]; exact rfl)))) | (apply ar_op' rfl rfl rfl rfl; (next => (first | (refine evalE_ok (T := TT) rfl ?_; (first | exact trivial)) | fail))) | (refine arE ?_; refine ar_endM [0, 1, 2, 6, 7, 8, 9, 16, 22, 31, 68] rfl ?_) | refine ar_dedup rfl ?_ | (refine arC .ret ?_; refine ar_retM [6] ?_) | refine stk_c_ret ?_ | refine stk_nil ?_ | fail)
    refine ⟨_, rfl, k, c, (cs.drop ((n + 1) * 2)), rfl, ?_, ?_⟩
    · rw [look_h]
      simp [splice, hr, Nat.add_mul]
    · rw [List.length_drop]; omega
  · refine ar_eff rfl rfl (eff_append_new (T := TT) (sz := 2) (by_ := 32) (N := 1) (us := r) rfl (look_h _ _ _) hmp rfl rfl (.inr ⟨_, rfl⟩) rfl (by decide) (fun F X a hs => srcA_row hs rfl hrok) (by omega) (by omega) (fun u hu => (hok u hu).1) (by omega) (fun u hu => (hrok u hu).2) (fun u hu => (hok u hu).2) rfl ?_)
    rintro k' cap sp hk' ⟨h1, h2, h3⟩
    repeat (first | ((first | apply ar_un | apply stk_un); (next => (first | (simp only [go_sem, Nat.reduceBEq, Nat.reduceEqDiff, reduceIte, reduceCtorEq, String.reduceEq, Nat.reduceAdd, Int.reduceToNat]; exact rfl)))) | (apply ar_op' rfl rfl rfl rfl; (next => (first | (refine evalE_ok (T := TT) rfl ?_; (first | exact trivial)) | fail))) | (refine arE ?_; refine ar_endM [0, 1, 2, 6, 7, 8, 9, 16, 22, 31, 68] rfl ?_) | (refine arC .ret ?_; refine ar_retM [6] ?_) | refine stk_c_ret ?_ | refine stk_nil ?_ | fail)
    refine ⟨_, rfl, k', cap, sp, rfl, ?_, ?_⟩
    · rw [look_h]; simp
    · rw [List.length_append, List.length_append, List.length_take] at h2
      omega
theorem splice_mid {A M S U : List AV} {o : Nat} (ho : A.length = o) (hM : M.length = U.length) : splice (A ++ M ++ S) o U = A ++ U ++ S := by
  subst ho
  simp [splice, hM.symm, List.append_assoc]
theorem take_cells {cs : List AV} {n i : Nat} (hi : i ≤ n) : ∀ u ∈ (cs.drop (i * 2)).take ((n - i) * 2), u ∈ cs.take (n * 2) := fun u hu => by
  obtain ⟨x, hx⟩ := List.getElem?_of_mem hu
  rw [List.getElem?_take] at hx
  split at hx
  · rw [List.getElem?_drop] at hx
    exact List.mem_of_getElem? (i := i * 2 + x) (by rw [List.getElem?_take, if_pos (by omega)]; exact hx)
  · cases hx
theorem ins_list {cs B r : List AV} {i n : Nat} (hi : i ≤ n) (hl : (n + 1) * 2 ≤ cs.length) (hB : B.length = (n - i) * 2) (hr : r.length = 2) : List.take (i * 2) (List.take ((i + 1) * 2) cs ++ B ++ List.drop ((i + 1) * 2 + B.length) cs) ++ r ++ List.drop (i * 2 + r.length) (List.take ((i + 1) * 2) cs ++ B ++ List.drop ((i + 1) * 2 + B.length) cs) = List.take (i * 2) cs ++ r ++ B ++ List.drop ((n + 1) * 2) cs := by
  have h1 : (List.take ((i + 1) * 2) cs).length = (i + 1) * 2 := by rw [List.length_take]; omega
  rw [List.append_assoc (List.take _ cs) B, List.take_append_of_le_length (by omega), List.take_take, hr, show i * 2 + 2 = (List.take ((i + 1) * 2) cs).length by omega, List.drop_left, hB, show min (i * 2) ((i + 1) * 2) = i * 2 by omega, show (i + 1) * 2 + (n - i) * 2 = (n + 1) * 2 by omega]
  simp
theorem splice_two {A Z sp r B : List AV} {i n : Nat} (hA : A.length = i * 2) (hi : i ≤ n) (hZ : Z.length = (n + 1 - i) * 2) (hB : B.length = (n - i) * 2) (hr : r.length = 2) : splice (splice (A ++ Z ++ sp) (i * 2) r) ((i + 1) * 2) B = A ++ r ++ B ++ sp := by
  have h1 : Z = Z.take 2 ++ Z.drop 2 := (List.take_append_drop 2 Z).symm
  have h2 : (Z.take 2).length = 2 := by rw [List.length_take]; omega
  have h3 : (Z.drop 2).length = (n - i) * 2 := by rw [List.length_drop]; omega
  rw [h1, ← List.append_assoc A, List.append_assoc (A ++ _), splice_mid hA (by omega), show A ++ r ++ (Z.drop 2 ++ sp) = (A ++ r) ++ Z.drop 2 ++ sp by simp, splice_mid (by rw [List.length_append]; omega) (by omega)]
theorem take_le {cs : List AV} {n i : Nat} (hi : i ≤ n) : ∀ u ∈ cs.take (i * 2), u ∈ cs.take (n * 2) := fun u hu => by
  obtain ⟨x, hx⟩ := List.getElem?_of_mem hu
  rw [List.getElem?_take] at hx
  split at hx
  · exact List.mem_of_getElem? (i := x) (by rw [List.getElem?_take, if_pos (by omega)]; exact hx)
  · cases hx
theorem opv_slice0_bx {P : Program} {T : Tys P} {σ : AS} {t ty e : TypeId} {x : Operand} {pos : String} {af : Array Edge} {g : Option (Nat × Bool)} {dd : Option Tmp} {lo : Option Operand} {hi : Option Operand} {k n c j sz by_ : Nat} (hx : opV σ x = some (.v (.slice (some ⟨k, 0, none⟩) n c))) (ht : look T.ty t = some (.slice e)) (hz : look T.sz e = some (sz, by_)) (hl : lo = none) (hh : optIs σ hi .i64 (j : Int) (n : Int)) (h2 : j ≤ c) :
    OpV P ⟨dd, .slice t x lo hi none, ty, pos, af, g⟩ σ (.v (.slice (some ⟨k, 0, none⟩) j c)) := by
  subst hl
  exact opv_eq (opv_slice_bx (i := 0) (j := j) hx ht hz (by rfl) hh (by omega) h2) (by simp [offS])
set_option maxHeartbeats 2000000
set_option maxRecDepth 100000 in
theorem insert_new (k n c i : Nat) (cs r : List AV) (hcs : cs.length = c * 2) (hnc : n ≤ c) (hi : i < n) (hroom : c < n + 1) (hc : n ≤ 1000000) (hok : ∀ u ∈ cs.take (n * 2), CellOk u) (hr : r.length = 2) (hrok : ∀ u ∈ r, CellOk u) :
    ACalls Tryz.prog 35 [.v (.slice (some ⟨k, 0, none⟩) n c), .v (.int .i64 (i : Nat)), .sl false 2 [r]] [(k, cs)] (InsPost cs n i r) := by
  have hmp := isMpB_even hcs
  refine acalls_enter _ 95 [.tmp 6] Tryz.func35 (by kernel_rfl) rfl rfl rfl rfl ?_
  dsimp only [slotsOf]
  repeat (first
    | ((first | apply ar_un); (next => (first | (simp only [go_sem, Nat.reduceBEq, Nat.reduceEqDiff, reduceIte, reduceCtorEq, String.reduceEq, Nat.reduceAdd, Int.reduceToNat]; exact rfl))))
    | ((first | apply ar_op' rfl rfl rfl rfl); (next => (first
     | exact opv_slice0_bx (T := TT) (sz := 2) (j := i) rfl rfl rfl rfl (by rfl) (by omega)
     | exact opv_slice_bx (T := TT) (sz := 2) (i := i) (j := n) rfl rfl rfl (by rfl) (by rfl) (by omega) (by omega)
     | exact opv_cap_bx (T := TT) rfl rfl
     | fail)))
    | (apply ar_op' rfl rfl rfl rfl; (next => (first
     | (refine evalE_ok (T := TT) rfl ?_; (first | exact trivial | omega))
     | (apply opk ⟨_, .binOp .eql _ _ _ _, _, _, _, _⟩; first | (refine opv_cmp_f rfl rfl rfl ?_; (next => (first | (simp only [cmpP]; omega)))) | fail)
     | (apply opk ⟨_, .binOp .gtr _ _ _ _, _, _, _, _⟩; first | (refine opv_cmp_t rfl rfl rfl ?_; (next => (first | (simp only [cmpP]; omega)))) | fail)
     | (apply opk ⟨_, .call { callee := .builtin .len, args := _, argTypes := _ }, _, _, _, _⟩; first
      | exact opv_len_sl (T := TT) rfl rfl rfl
      | exact opv_len_nil (T := TT) rfl rfl rfl
      | fail)
     | fail)))
    | (refine arO _ ?_; first | (refine arO ⟨_, .move _, _, _, _, _⟩ ?_; first | refine ar_move_sl rfl rfl rfl rfl ?_ | fail) | fail)
    | refine ar_seq ?_
    | (refine arE ?_; refine ar_endM [0, 1, 2, 6, 7, 8, 9, 16, 22, 31, 68] rfl ?_)
    | refine ar_region ?_
    | refine ar_skip ?_
    | (refine arC (.cond _ _ _) ?_; first | (refine ar_cond_true rfl ?_ ?_; (next => (first | rfl))) | (refine ar_cond_false rfl ?_ ?_; (next => (first | rfl))) | fail)
    | fail)
  rw [(by omega : ((n : Int) + ((1 : Nat) : Int) - (i : Int)) = ((n + 1 - i : Nat) : Int))]
  refine ar_eff rfl rfl (eff_append_zeros (T := TT) (e := 42) (sz := 2) (by_ := 32) (n := i) (c := c) (N := n + 1 - i) (zv := .agg #[.string ⟨#[]⟩, .string ⟨#[]⟩]) rfl (look_h _ _ _) hmp rfl rfl rfl rfl rfl (by decide) (by omega) (by decide) (by omega) (by omega) (fun u hu => (hok u (take_le (by omega) u hu)).1) (by omega) (fun u hu => (hok u (take_le (by omega) u hu)).2) rfl ?_)
  rintro k' cap sp hk' ⟨h1, h2, h3⟩
  repeat (first
    | ((first | apply ar_un); (next => (first | (simp only [go_sem, Nat.reduceBEq, Nat.reduceEqDiff, reduceIte, reduceCtorEq, String.reduceEq, Nat.reduceAdd, Int.reduceToNat]; exact rfl))))
    | ((first | apply ar_op' rfl rfl rfl rfl); (next => (first | exact opv_slice_bx (T := TT) (sz := 2) (i := i) (j := (i + (n + 1 - i))) rfl rfl rfl (by rfl) (by rfl) (by omega) (by omega) | fail)))
    | (apply ar_op' rfl rfl rfl rfl; (next => (first | (refine evalE_ok (T := TT) rfl ?_; (first | exact trivial)) | fail)))
    | (refine arO _ ?_; first | (refine arO ⟨_, .move _, _, _, _, _⟩ ?_; first | refine ar_move_sl rfl rfl rfl rfl ?_ | fail) | fail)
    | refine ar_seq ?_
    | (refine arE ?_; refine ar_endM [0, 1, 2, 6, 7, 8, 9, 16, 22, 31, 68] rfl ?_)
    | refine ar_region ?_
    | fail)
  have e1 : offS 0 cap i 2 = i * 2 := by unfold offS; rw [if_neg (by omega)]; omega
  refine ar_eff rfl rfl (eff_copyN (T := TT) (sz := 2) (by_ := 32) (N := 1) (q := 1) (us := r) rfl (look_h _ _ _) (isMpB_even h2) rfl rfl (fun F X a hs => srcA_row hs rfl hrok) (by simp only [Nat.min_def]; split <;> omega) (by rw [e1]; refine Nat.le_trans ?_ (Nat.le_of_eq h2.symm); omega) (fun u hu => (hrok u hu).2) rfl ?_)
  repeat (first | ((first | apply ar_un); (next => (first | (simp only [go_sem, Nat.reduceBEq, Nat.reduceEqDiff, reduceIte, reduceCtorEq, String.reduceEq, Nat.reduceAdd, Int.reduceToNat]; exact rfl)))) | refine ar_seq ?_ | (refine arE ?_; refine ar_endM [0, 1, 2, 6, 7, 8, 9, 16, 22, 31, 68] rfl ?_) | refine ar_dedup rfl ?_ | fail)
  have hne : k ≠ k' := hk' (k, cs) (List.mem_singleton.2 rfl)
  have hZ : ((Builtin.zeroCells (Value.agg #[.string ⟨#[]⟩, .string ⟨#[]⟩]).cells (n + 1 - i)).toList.map AV.v).length = (n + 1 - i) * 2 := by rw [List.length_map, Array.length_toList, zc_len]
  have hA : (cs.take (i * 2)).length = i * 2 := by rw [List.length_take]; omega
  have hBl : ((cs.drop (i * 2)).take ((n - i) * 2)).length = (n - i) * 2 := by rw [List.length_take, List.length_drop]; omega
  have hX : (splice (cs.take (i * 2) ++ (Builtin.zeroCells (Value.agg #[.string ⟨#[]⟩, .string ⟨#[]⟩]).cells (n + 1 - i)).toList.map AV.v ++ sp) (i * 2) r).length = cap * 2 := by
    rw [splice_len (by refine Nat.le_trans ?_ (Nat.le_of_eq h2.symm); omega)]; exact h2
  refine ar_le (σ' := ⟨95, [(0, .v (.slice (some ⟨k, 0, none⟩) n c)), (1, .v (.int .i64 (i : Nat))), (7, .v (.int .i64 ((1 : Nat) : Int))), (9, .v (.slice (some ⟨k', 0, none⟩) (i + (n + 1 - i)) cap))], [(k', splice (cs.take (i * 2) ++ (Builtin.zeroCells (Value.agg #[.string ⟨#[]⟩, .string ⟨#[]⟩]).cells (n + 1 - i)).toList.map AV.v ++ sp) (i * 2) r), (k, cs)], []⟩) ⟨rfl, ?_, ?_, rfl⟩ ?_
  · (repeat' (first | exact trivial | exact .refl _ | refine ⟨⟨_, rfl, ?_⟩, ?_⟩))
  · rw [← e1]; (repeat' (first | exact trivial | exact LeL.refl _ | refine ⟨⟨_, look_hd, ?_⟩, ?_⟩ | refine ⟨⟨_, look_tl (by first | assumption) look_hd, ?_⟩, ?_⟩))
  refine ar_drawM (st := fun _ => false) (mN := fun i => Nat.ble i 7) (cs := [8]) mixed (mixB_ok (by kernel_rfl)) rfl (fun k c hk => ?_) ?_
  · simp [look_nil] at hk
  refine n_op (d := 46) (u := .v (.slice (some ⟨k', 0, none⟩) (i + (n + 1 - i)) cap)) rfl rfl rfl rfl (opv_move rfl rfl) ⟨rfl, .inl ⟨_, rfl⟩⟩ ?_
  refine n_op (d := 47) (u := .v (.int .i64 (i : Nat))) rfl rfl rfl rfl (opv_move rfl rfl) ⟨rfl, .inl ⟨_, rfl⟩⟩ ?_
  refine n_op (d := 48) (u := .v (.int .i64 ((1 : Nat) : Int))) rfl rfl rfl rfl (opv_move rfl rfl) ⟨rfl, .inl ⟨_, rfl⟩⟩ ?_
  refine n_op (d := 49) (u := .v (.int .i64 ((i : Int) + ((1 : Nat) : Int)))) rfl rfl rfl rfl (opv_add64 rfl rfl rfl (by omega)) ⟨rfl, .inl ⟨_, rfl⟩⟩ ?_
  refine n_op (d := 50) (u := .v (.slice (some ⟨k', offS 0 cap (i + 1) 2, none⟩) (i + (n + 1 - i) - (i + 1)) (cap - (i + 1)))) rfl rfl rfl rfl (opv_slice_bx (T := TT) (sz := 2) (i := i + 1) (j := i + (n + 1 - i)) rfl rfl rfl (by rfl) (by rfl) (by omega) (by omega)) ⟨rfl, .inl ⟨_, rfl⟩⟩ ?_
  refine n_op (d := 51) (u := .v (.slice (some ⟨k, 0, none⟩) n c)) rfl rfl rfl rfl (opv_move rfl rfl) ⟨rfl, .inl ⟨_, rfl⟩⟩ ?_
  refine n_op (d := 52) (u := .v (.int .i64 (i : Nat))) rfl rfl rfl rfl (opv_move rfl rfl) ⟨rfl, .inl ⟨_, rfl⟩⟩ ?_
  refine n_op (d := 53) (u := .v (.slice (some ⟨k, offS 0 c i 2, none⟩) (n - i) (c - i))) rfl rfl rfl rfl (opv_slice_bx (T := TT) (sz := 2) (i := i) (j := n) rfl rfl rfl (by rfl) (by rfl) (by omega) (by omega)) ⟨rfl, .inl ⟨_, rfl⟩⟩ ?_
  refine n_skip rfl (n_end ?_)
  have e3 : offS 0 cap (i + 1) 2 = (i + 1) * 2 := by unfold offS; rw [if_neg (by omega)]; omega
  have e2 : offS 0 c i 2 = i * 2 := by unfold offS; rw [if_neg (by omega)]; omega
  refine c_op (eff_copyN (T := TT) (sz := 2) (by_ := 32) (N := n - i) (q := n - i) (us := (cs.drop (i * 2)).take ((n - i) * 2)) rfl (look_h _ _ _) (isMpB_even hX) rfl rfl (fun F X a hs => ?_) (by simp only [Nat.min_def]; split <;> omega) (by rw [e3]; refine Nat.le_trans ?_ (Nat.le_of_eq hX.symm); omega) (fun u hu => (hok u (take_cells (by omega) u hu)).2) rfl ?_)
  · have h := srcA_box (P := Tryz.prog) (sz := 2) (off := i * 2) (n := n - i) (c := c - i) (q := n - i) hs (look_tl hne (look_h _ _ _)) hmp (by omega) (fun u hu => (hok u (take_cells (by omega) u hu)).1)
    rw [rel_v (opV_rel' (x := .tmp 53) hs (u := .v (.slice (some ⟨k, offS 0 c i 2, none⟩) (n - i) (c - i))) rfl), e2]
    exact h
  refine c_end ?_
  rw [e3]
  rw [splice_two hA (by omega) hZ hBl hr]
  refine ar_nop (ar_le (σ' := ⟨95, [(9, .v (.slice (some ⟨k', 0, none⟩) (i + (n + 1 - i)) cap))], [(k', cs.take (i * 2) ++ r ++ (cs.drop (i * 2)).take ((n - i) * 2) ++ sp)], []⟩) ⟨rfl, ?_, ?_, rfl⟩ ?_)
  · (repeat' (first | exact trivial | exact .refl _ | refine ⟨⟨_, rfl, ?_⟩, ?_⟩))
  · (repeat' (first | exact trivial | exact LeL.refl _ | refine ⟨⟨_, look_hd, ?_⟩, ?_⟩))
  repeat (first | ((first | apply ar_un | apply stk_un); (next => (first | (simp only [go_sem, Nat.reduceBEq, Nat.reduceEqDiff, reduceIte, reduceCtorEq, String.reduceEq, Nat.reduceAdd, Int.reduceToNat]; exact rfl)))) | (apply ar_op' rfl rfl rfl rfl; (next => (first | (refine evalE_ok (T := TT) rfl ?_; (first | exact trivial)) | fail))) | refine ar_seq ?_ | (refine arE ?_; refine ar_endM [0, 1, 2, 6, 7, 8, 9, 16, 22, 31, 68] rfl ?_) | refine ar_region ?_ | (refine arC .ret ?_; refine ar_retM [6] ?_) | fail)
  (repeat (first | refine stk_o_ret ?_ | refine stk_c_ret ?_ | refine stk_b_ret ?_))
  refine stk_nil ⟨_, rfl, k', cap, sp, ?_, ?_, ?_⟩
  · rw [show i + (n + 1 - i) = n + 1 by omega]
  · rw [look_h]
  · rw [List.length_append, List.length_append, hA, hZ] at h2
    omega
set_option maxHeartbeats 2000000
set_option maxRecDepth 100000 in
theorem insert_in (k n c i : Nat) (cs r : List AV) (hcs : cs.length = c * 2) (hnc : n ≤ c) (hi : i < n) (hroom : n + 1 ≤ c) (hc : n ≤ 1000000) (hok : ∀ u ∈ cs.take (n * 2), CellOk u) (hr : r.length = 2) (hrok : ∀ u ∈ r, CellOk u) :
    ACalls Tryz.prog 35 [.v (.slice (some ⟨k, 0, none⟩) n c), .v (.int .i64 (i : Nat)), .sl false 2 [r]] [(k, cs)] (InsPost cs n i r) := by
  have hmp := isMpB_even hcs
  refine acalls_enter _ 95 [.tmp 6] Tryz.func35 (by kernel_rfl) rfl rfl rfl rfl ?_
  dsimp only [slotsOf]
  repeat (first
    | ((first | apply ar_un); (next => (first | (simp only [go_sem, Nat.reduceBEq, Nat.reduceEqDiff, reduceIte, reduceCtorEq, String.reduceEq, Nat.reduceAdd, Int.reduceToNat]; exact rfl))))
    | ((first | apply ar_op' rfl rfl rfl rfl); (next => (first
     | exact opv_overlaps rfl hr rfl (look_h _ _ _) hmp
     | exact opv_slice0_bx (T := TT) (sz := 2) (j := (n + 1)) rfl rfl rfl rfl (by rfl) (by omega)
     | exact opv_slice_bx (T := TT) (sz := 2) (i := i) (j := n) rfl rfl rfl (by rfl) (by rfl) (by omega) (by omega)
     | exact opv_slice_bx (T := TT) (sz := 2) (i := (i + 1)) (j := (n + 1)) rfl rfl rfl (by rfl) (by rfl) (by omega) (by omega)
     | exact opv_cap_bx (T := TT) rfl rfl
     | fail)))
    | (apply ar_op' rfl rfl rfl rfl; (next => (first
     | (refine evalE_ok (T := TT) rfl ?_; (first | exact trivial | omega))
     | (apply opk ⟨_, .binOp .eql _ _ _ _, _, _, _, _⟩; first | (refine opv_cmp_f rfl rfl rfl ?_; (next => (first | (simp only [cmpP]; omega)))) | fail)
     | (apply opk ⟨_, .binOp .gtr _ _ _ _, _, _, _, _⟩; first | (refine opv_cmp_f rfl rfl rfl ?_; (next => (first | (simp only [cmpP]; omega)))) | fail)
     | (apply opk ⟨_, .call { callee := .builtin .len, args := _, argTypes := _ }, _, _, _, _⟩; first
      | exact opv_len_sl (T := TT) rfl rfl rfl
      | exact opv_len_nil (T := TT) rfl rfl rfl
      | fail)
     | fail)))
    | (refine arO _ ?_; first | (refine arO ⟨_, .move _, _, _, _, _⟩ ?_; first | refine ar_move_sl rfl rfl rfl rfl ?_ | fail) | fail)
    | refine ar_seq ?_
    | (refine arE ?_; refine ar_endM [0, 1, 2, 6, 7, 8, 9, 16, 22, 31, 68] rfl ?_)
    | refine ar_region ?_
    | refine ar_skip ?_
    | (refine arC (.cond _ _ _) ?_; first | (refine ar_cond_true rfl ?_ ?_; (next => (first | rfl))) | (refine ar_cond_false rfl ?_ ?_; (next => (first | rfl))) | fail)
    | fail)
  refine ar_drawM (st := fun _ => false) (mN := fun i => Nat.ble i 7) (cs := [8]) mixed (mixB_ok (by kernel_rfl)) rfl (fun k c hk => ?_) ?_
  · simp [look_nil] at hk
  refine n_op (d := 69) (u := .v (.slice (some ⟨k, 0, none⟩) (n + 1) c)) rfl rfl rfl rfl (opv_move rfl rfl) ⟨rfl, .inl ⟨_, rfl⟩⟩ ?_
  refine n_op (d := 70) (u := .v (.int .i64 (i : Nat))) rfl rfl rfl rfl (opv_move rfl rfl) ⟨rfl, .inl ⟨_, rfl⟩⟩ ?_
  refine n_op (d := 71) (u := .v (.int .i64 ((1 : Nat) : Int))) rfl rfl rfl rfl (opv_move rfl rfl) ⟨rfl, .inl ⟨_, rfl⟩⟩ ?_
  refine n_op (d := 72) (u := .v (.int .i64 ((i : Int) + ((1 : Nat) : Int)))) rfl rfl rfl rfl (opv_add64 rfl rfl rfl (by omega)) ⟨rfl, .inl ⟨_, rfl⟩⟩ ?_
  refine n_op (d := 73) (u := .v (.slice (some ⟨k, offS 0 c (i + 1) 2, none⟩) (n + 1 - (i + 1)) (c - (i + 1)))) rfl rfl rfl rfl (opv_slice_bx (T := TT) (sz := 2) (i := i + 1) (j := n + 1) rfl rfl rfl (by rfl) (by rfl) (by omega) (by omega)) ⟨rfl, .inl ⟨_, rfl⟩⟩ ?_
  refine n_op (d := 74) (u := .v (.slice (some ⟨k, 0, none⟩) (n + 1) c)) rfl rfl rfl rfl (opv_move rfl rfl) ⟨rfl, .inl ⟨_, rfl⟩⟩ ?_
  refine n_op (d := 75) (u := .v (.int .i64 (i : Nat))) rfl rfl rfl rfl (opv_move rfl rfl) ⟨rfl, .inl ⟨_, rfl⟩⟩ ?_
  refine n_op (d := 76) (u := .v (.slice (some ⟨k, offS 0 c i 2, none⟩) (n + 1 - i) (c - i))) rfl rfl rfl rfl (opv_slice_bx (T := TT) (sz := 2) (i := i) (j := n + 1) rfl rfl rfl (by rfl) (by rfl) (by omega) (by omega)) ⟨rfl, .inl ⟨_, rfl⟩⟩ ?_
  refine n_skip rfl (n_end ?_)
  have e1 : offS 0 c (i + 1) 2 = (i + 1) * 2 := by unfold offS; rw [if_neg (by omega)]; omega
  have e2 : offS 0 c i 2 = i * 2 := by unfold offS; rw [if_neg (by omega)]; omega
  have hBl : ((cs.drop (i * 2)).take ((n - i) * 2)).length = (n - i) * 2 := by rw [List.length_take, List.length_drop]; omega
  refine c_op (eff_copyN (T := TT) (sz := 2) (by_ := 32) (N := n + 1 - i) (q := n - i) (us := (cs.drop (i * 2)).take ((n - i) * 2)) rfl (look_h _ _ _) hmp rfl rfl (fun F X a hs => ?_) (by simp only [Nat.min_def]; split <;> omega) (by rw [e1]; omega) (fun u hu => (hok u (take_cells (by omega) u hu)).2) rfl ?_)
  · have h := srcA_box (P := Tryz.prog) (sz := 2) (off := i * 2) (n := n + 1 - i) (c := c - i) (q := n - i) hs (look_h _ _ _) hmp (by omega) (fun u hu => (hok u (take_cells (by omega) u hu)).1)
    rw [rel_v (opV_rel' (x := .tmp 76) hs (u := .v (.slice (some ⟨k, offS 0 c i 2, none⟩) (n + 1 - i) (c - i))) rfl), e2]
    exact h
  refine c_end ?_
  have hsp : (splice cs ((i + 1) * 2) ((cs.drop (i * 2)).take ((n - i) * 2))).length = c * 2 := by
    rw [splice_len (by rw [hBl]; omega), hcs]
  refine ar_nop (ar_le (σ' := ⟨95, [(0, .v (.slice (some ⟨k, 0, none⟩) (n + 1) c)), (1, .v (.int .i64 (i : Nat))), (2, .sl false 2 [r])], [(k, splice cs ((i + 1) * 2) ((cs.drop (i * 2)).take ((n - i) * 2)))], []⟩) ⟨rfl, ?_, ?_, rfl⟩ ?_)
  · (repeat' (first | exact trivial | exact .refl _ | refine ⟨⟨_, rfl, ?_⟩, ?_⟩))
  · rw [← e1]; (repeat' (first | exact trivial | exact LeL.refl _ | refine ⟨⟨_, look_hd, ?_⟩, ?_⟩))
  repeat (first | ((first | apply ar_op' rfl rfl rfl rfl); (next => (first | exact opv_slice_bx (T := TT) (sz := 2) (i := i) (j := (n + 1)) rfl rfl rfl (by rfl) (by rfl) (by omega) (by omega) | fail))) | (apply ar_op' rfl rfl rfl rfl; (next => (first | (refine evalE_ok (T := TT) rfl ?_; (first | exact trivial)) | fail))) | (refine arO _ ?_; first | (refine arO ⟨_, .move _, _, _, _, _⟩ ?_; first | refine ar_move_sl rfl rfl rfl rfl ?_ | fail) | fail) | refine ar_seq ?_ | refine ar_region ?_ | fail)
  refine ar_eff rfl rfl (eff_copyN (T := TT) (sz := 2) (by_ := 32) (N := 1) (q := 1) (us := r) rfl (look_h _ _ _) (isMpB_even hsp) rfl rfl (fun F X a hs => srcA_row hs rfl hrok) (by simp only [Nat.min_def]; split <;> omega) (by rw [e2, hsp]; omega) (fun u hu => (hrok u hu).2) rfl ?_)
  repeat (first | ((first | apply ar_un | apply stk_un); (next => (first | (simp only [go_sem, Nat.reduceBEq, Nat.reduceEqDiff, reduceIte, reduceCtorEq, String.reduceEq, Nat.reduceAdd, Int.reduceToNat]; exact rfl)))) | (apply ar_op' rfl rfl rfl rfl; (next => (first | (refine evalE_ok (T := TT) rfl ?_; (first | exact trivial)) | fail))) | refine ar_seq ?_ | (refine arE ?_; refine ar_endM [0, 1, 2, 6, 7, 8, 9, 16, 22, 31, 68] rfl ?_) | refine ar_region ?_ | refine ar_dedup rfl ?_ | (refine arC .ret ?_; refine ar_retM [6] ?_) | fail)
  (repeat (first | refine stk_o_ret ?_ | refine stk_c_ret ?_ | refine stk_b_ret ?_))
  refine stk_nil ⟨_, rfl, k, c, (cs.drop ((n + 1) * 2)), rfl, ?_, ?_⟩
  · rw [look_h, e2, ins_list (by omega) (by omega) hBl hr]
  · rw [List.length_drop]; omega
end Go.Proofs.YtgmlkhfjhogdbaaGreat

/- slices.Clone of labels: a box. -/
namespace Go.Proofs.YtgmlkhfjhogdbaaGreat
open Go.RowKit P
set_option linter.unusedSimpArgs false
set_option linter.unusedVariables false
/-- append to a slice without room and elements: a new box. -/
theorem eff_append_clb {P : Program} {T : Tys P} {σ : AS} {t u ty e : TypeId} {x y : Operand} {pos : String} {af : Array Edge} {g : Option (Nat × Bool)} {d by_ sz N : Nat} {us : List AV} {du : TypeDesc} (hx : opV σ x = some (.cl sz [])) (ht : look T.ty t = some (.slice e)) (hu : look T.ty u = some du) (hnz : du = .string ∨ ∃ e', du = .slice e') (hz : look T.sz e = some (sz, by_)) (hb1 : 1 ≤ by_)
    (hsrc : ∀ F X (a : Act), SimE F X σ a.tmps → ∃ vs, SrcA P X sz N N us (a.eval y) vs) (hN : 0 < N) (hfit : N * by_ ≤ 140737488355328) (hpl : Plain1 us) (hd : Nat.ble (d + 1) σ.n = true)
    {R : AS → Prop} (hR : ∀ k' cap sp, FreshK k' σ.h → (N ≤ cap ∧ (us ++ sp).length = cap * sz ∧ Plain1 sp) → R ((σ.box k' (us ++ sp)).put d (.v (.slice (some ⟨k', 0, none⟩) N cap)))) : EffOp P ⟨some d, .call { callee := .builtin .append, args := #[x, y], argTypes := #[t, u] }, ty, pos, af, g⟩ σ R := by
  refine eff_newboxD (Fact := fun cap sp => N ≤ cap ∧ (us ++ sp).length = cap * sz ∧ Plain1 sp) rfl hd (fun cap sp h v hv => ?_) (fun F X a hs => ?_) hR
  · rcases List.mem_append.1 hv with hv | hv
    · exact hpl v hv
    · exact h.2.2 v hv
  · have hrel := opV_rel' hs hx
    obtain ⟨vs, hv⟩ := hsrc F X a hs
    obtain ⟨i, hi1, hi2, hi3, zv, hi4, hi5⟩ := T.szOk _ _ _ hz
    generalize hxv : a.eval x = xv at hrel
    cases hrel with
    | cl _ _ ad n hr =>
      have hn : n = 0 := by
        obtain ⟨a1, c1, h1⟩ := rel_sl_form hr
        cases h1; rfl
      subst hn
      have hcge := grownCap_ge X.w (0 + N) 0 e
      have hold : ∀ w', w'.heap = X.w.heap → (Builtin.firstCells i.size 0 (.slice ad 0 0)).run P w' = .ok ([] : List Value).toArray w' := fun w' _ => by
        cases ad with
        | none => simp [Builtin.firstCells]
        | some b => exact run_firstCells_some (P := P) (w := w') i.size 0 b 0 0 [] (by simp) (fun j v hv => by simp at hv)
      have hrun := run_append_out (P := P) (ty := ty) (sLen := 0) (sCap := 0) (a := ad) (m := N) (olds := []) (news := vs) (x := a.eval y) (T.tyOk _ _ ht) (T.tyOk _ _ hu) hnz hi1 hi4 ⟨hv.len, by rw [hi2]; exact hv.first, by rw [hi2]; exact hv.lv⟩ hold (by omega) (by rw [hi3, Nat.zero_add]; exact hfit) (by rw [hi3]; exact hb1)
      rw [Nat.zero_add] at hrun hcge
      refine ⟨_, e, grownCap X.w N 0 e, (Builtin.zeroCells zv.cells (grownCap X.w N 0 e - N)).toList.map .v, ⟨hcge, ?_, fun v hv => ?_⟩, run_builtin_append hxv rfl hrun, ?_, fun j u0 v hu0 hv0 => ?_⟩
      · rw [List.length_append, hv.lu, List.length_map, Array.length_toList]
        have : (Builtin.zeroCells zv.cells (grownCap X.w N 0 e - N)).size = (grownCap X.w N 0 e - N) * sz := by simp [Builtin.zeroCells, hi5]
        rw [this, ← Nat.add_mul]; congr 1; omega
      · obtain ⟨z, _, rfl⟩ := List.mem_map.1 hv; rfl
      · simp only [Array.size_append, List.size_toArray, List.length_append, hv.lu, hv.lv, List.length_map, Array.length_toList, List.length_nil, Nat.zero_add]
      · have hl0 : (([] : List Value).toArray ++ vs.toArray ++ Builtin.zeroCells zv.cells (grownCap X.w N 0 e - N))[j]? = (vs ++ (Builtin.zeroCells zv.cells (grownCap X.w N 0 e - N)).toList)[j]? := by
          rw [← Array.getElem?_toList]; simp
        rw [hl0] at hv0
        refine rel_app (by rw [hv.lu, hv.lv]) hv.rel (fun i u v hu hv => ?_) j u0 v hu0 hv0
        rw [List.getElem?_map, hv] at hu
        cases hu
        exact .v _
attribute [local irreducible] AS.nf OpV ARun Stk QSem QSemA ACalls EffOp AppOk SrcOk Awp Aops NSem CSem
/-- Rows of two cells that may be copied. -/
def RowsOk (L : List (List AV)) : Prop := ∀ r ∈ L, r.length = 2 ∧ ∀ u ∈ r, CellOk u
theorem RowsOk.flat {L : List (List AV)} (h : RowsOk L) : ∀ u ∈ L.flatten, CellOk u := fun u hu => by
  obtain ⟨r, h1, h2⟩ := List.mem_flatten.1 hu
  exact (h r h1).2 u h2
set_option maxHeartbeats 2000000
set_option maxRecDepth 100000 in
theorem clone_a (r : List AV) (L : List (List AV)) (hl : L.length < 1000000) (hok : RowsOk (r :: L)) :
    ACalls Tryz.prog 30 [.sl false 2 (r :: L)] [] (fun out H => ∃ k c sp, out = .ret (.v (.slice (some ⟨k, 0, none⟩) (L.length + 1) c)) ∧ H = [(k, (r :: L).flatten ++ sp)] ∧ (L.length + 1) * 2 + sp.length = c * 2) := by
  refine acalls_enter _ 8 [.tmp 2] Tryz.func30 (by kernel_rfl) rfl rfl rfl rfl ?_
  dsimp only [slotsOf]
  repeat (first | ((first | apply ar_un); (next => (first | (simp only [go_sem, Nat.reduceBEq, Nat.reduceEqDiff, reduceIte, reduceCtorEq, String.reduceEq, Nat.reduceAdd, Int.reduceToNat]; exact rfl)))) | (apply ar_op' rfl rfl rfl rfl; (next => (first | (refine evalE_ok (T := TT) rfl ?_; (first | exact trivial)) | fail))) | (refine arO _ ?_; first | (refine arO ⟨_, .move _, _, _, _, _⟩ ?_; first | refine ar_move_sl rfl rfl rfl rfl ?_ | fail) | fail) | refine ar_seq ?_ | (refine arE ?_; refine ar_endM [0, 2, 4] rfl ?_) | refine ar_region ?_ | fail)
  refine ar_eff rfl rfl (eff_nil (.inl ⟨rfl, rfl⟩) (TT.tyOk 22 (.slice 42) rfl) rfl rfl rfl (fun b hb => ?_))
  cases b with
  | true => cases hb rfl
  | false =>
    repeat (first
      | ((first | apply ar_un); (next => (first | (simp only [go_sem, Nat.reduceBEq, Nat.reduceEqDiff, reduceIte, reduceCtorEq, String.reduceEq, Nat.reduceAdd, Int.reduceToNat]; exact rfl))))
      | (apply ar_op' rfl rfl rfl rfl; (next => exact opv_build0 (T := TT) rfl rfl))
      | (refine arO _ ?_; first | (refine arO ⟨_, .move _, _, _, _, _⟩ ?_; first | refine ar_move_sl rfl rfl rfl rfl ?_ | fail) | fail)
      | refine ar_seq ?_
      | (refine arE ?_; refine ar_endM [0, 2, 4] rfl ?_)
      | refine ar_region ?_
      | refine ar_skip ?_
      | (refine arC (.cond _ _ _) ?_; first | (refine ar_cond_false rfl ?_ ?_; (next => (first | rfl))) | fail)
      | fail)
    have hfl : (r :: L).flatten.length = (L.length + 1) * 2 := flat_len (L := r :: L) fun q hq => (hok q hq).1
    refine ar_eff rfl rfl (eff_append_clb (T := TT) (sz := 2) (by_ := 32) (N := L.length + 1) (us := (r :: L).flatten) rfl rfl rfl (.inr ⟨_, rfl⟩) rfl (by decide) (fun F X a hs => ?_) (by omega) (by omega) (fun u hu => (hok.flat u hu).2) rfl ?_)
    · exact srcA_sl (P := Tryz.prog) (by decide) (opV_rel' hs (u := .sl false 2 (r :: L)) rfl) (fun q hq u hu => ((hok q hq).2 u hu).1)
    rintro k' cap sp hk' ⟨h1, h2, h3⟩
    repeat (first | ((first | apply ar_un | apply stk_un); (next => (first | (simp only [go_sem, Nat.reduceBEq, Nat.reduceEqDiff, reduceIte, reduceCtorEq, String.reduceEq, Nat.reduceAdd, Int.reduceToNat]; exact rfl)))) | (apply ar_op' rfl rfl rfl rfl; (next => (first | (refine evalE_ok (T := TT) rfl ?_; (first | exact trivial)) | fail))) | (refine arE ?_; refine ar_endM [0, 2, 4] rfl ?_) | (refine arC .ret ?_; refine ar_retM [2] ?_) | refine stk_nil ?_ | fail)
    exact ⟨_, rfl, k', cap, sp, rfl, rfl, by rw [List.length_append, hfl] at h2; exact h2⟩
set_option maxHeartbeats 2000000
set_option maxRecDepth 100000 in
theorem clone0_a : ACalls Tryz.prog 30 [.sl false 2 []] [] (fun out H => ∃ u, out = .ret u ∧ (u = .v (.slice none 0 0) ∨ u = .cl 2 []) ∧ H = []) := by
  refine acalls_enter _ 8 [.tmp 2] Tryz.func30 (by kernel_rfl) rfl rfl rfl rfl ?_
  dsimp only [slotsOf]
  repeat (first | ((first | apply ar_un); (next => (first | (simp only [go_sem, Nat.reduceBEq, Nat.reduceEqDiff, reduceIte, reduceCtorEq, String.reduceEq, Nat.reduceAdd, Int.reduceToNat]; exact rfl)))) | (apply ar_op' rfl rfl rfl rfl; (next => (first | (refine evalE_ok (T := TT) rfl ?_; (first | exact trivial)) | fail))) | (refine arO _ ?_; first | (refine arO ⟨_, .move _, _, _, _, _⟩ ?_; first | refine ar_move_sl rfl rfl rfl rfl ?_ | fail) | fail) | refine ar_seq ?_ | (refine arE ?_; refine ar_endM [0, 2, 4] rfl ?_) | refine ar_region ?_ | fail)
  refine ar_eff rfl rfl (eff_nil (.inl ⟨rfl, rfl⟩) (TT.tyOk 22 (.slice 42) rfl) rfl rfl rfl (fun b hb => ?_))
  cases b with
  | true =>
    repeat (first
      | ((first | apply ar_un | apply stk_un); (next => (first | (simp only [go_sem, Nat.reduceBEq, Nat.reduceEqDiff, reduceIte, reduceCtorEq, String.reduceEq, Nat.reduceAdd, Int.reduceToNat]; exact rfl))))
      | (apply ar_op' rfl rfl rfl rfl; (next => (first | (refine evalE_ok (T := TT) rfl ?_; (first | exact trivial)) | fail)))
      | refine ar_seq ?_
      | (refine arE ?_; refine ar_endM [0, 2, 4] rfl ?_)
      | refine ar_region ?_
      | (refine arC (.cond _ _ _) ?_; first | (refine ar_cond_true rfl ?_ ?_; (next => (first | rfl))) | fail)
      | (refine arC .ret ?_; refine ar_retM [2] ?_)
      | refine stk_c_ret ?_
      | refine stk_nil ?_
      | fail)
    exact ⟨_, rfl, _, rfl, .inl rfl, rfl⟩
  | false =>
    repeat (first
      | ((first | apply ar_un); (next => (first | (simp only [go_sem, Nat.reduceBEq, Nat.reduceEqDiff, reduceIte, reduceCtorEq, String.reduceEq, Nat.reduceAdd, Int.reduceToNat]; exact rfl))))
      | (apply ar_op' rfl rfl rfl rfl; (next => exact opv_build0 (T := TT) rfl rfl))
      | (refine arO _ ?_; first | (refine arO ⟨_, .move _, _, _, _, _⟩ ?_; first | refine ar_move_sl rfl rfl rfl rfl ?_ | fail) | fail)
      | refine ar_seq ?_
      | (refine arE ?_; refine ar_endM [0, 2, 4] rfl ?_)
      | refine ar_region ?_
      | refine ar_skip ?_
      | (refine arC (.cond _ _ _) ?_; first | (refine ar_cond_false rfl ?_ ?_; (next => (first | rfl))) | fail)
      | fail)
    refine ar_op' rfl rfl rfl rfl (opv_append_cl0 (T := TT) (L := []) rfl rfl rfl (.inr ⟨_, rfl⟩) rfl rfl rfl (by first | trivial | simp [RowsOne])) ?_
    repeat (first | ((first | apply ar_un | apply stk_un); (next => (first | (simp only [go_sem, Nat.reduceBEq, Nat.reduceEqDiff, reduceIte, reduceCtorEq, String.reduceEq, Nat.reduceAdd, Int.reduceToNat]; exact rfl)))) | (apply ar_op' rfl rfl rfl rfl; (next => (first | (refine evalE_ok (T := TT) rfl ?_; (first | exact trivial)) | fail))) | (refine arE ?_; refine ar_endM [0, 2, 4] rfl ?_) | (refine arC .ret ?_; refine ar_retM [2] ?_) | refine stk_nil ?_ | fail)
    exact ⟨_, rfl, _, rfl, .inr rfl, rfl⟩
end Go.Proofs.YtgmlkhfjhogdbaaGreat

/- slices.Insert of one label into nothing. -/
namespace Go.Proofs.YtgmlkhfjhogdbaaGreat
open Go.RowKit P
set_option linter.unusedSimpArgs false
set_option linter.unusedVariables false
section
variable {P : Program} {T : Tys P} {σ : AS} {t ty e : TypeId} {x : Operand} {pos : String} {af : Array Edge} {g : Option (Nat × Bool)}
theorem run_slice00 {X : GW} {a : Act} {dd : Option Tmp} {lo : Operand} {ad : Option Addr} {sz by_ : Nat} (e1 : a.eval x = .slice ad 0 0) (e2 : a.eval lo = .int .i64 0) (ht : look T.ty t = some (.slice e)) (hz : look T.sz e = some (sz, by_)) :
    (execOp a.eval ⟨dd, .slice t x (some lo) none none, ty, pos, af, g⟩).run P X.w = .ok (.value (.slice ad 0 0)) X.w := by
  obtain ⟨it, hi1, hi2, hi3, _⟩ := T.szOk _ _ _ hz
  have hu := T.tyOk _ _ ht
  have hb := run_bounds (P := P) (isS := true) (w := X.w) (len := 0) (cap := 0) (lo := some (.int .i64 0)) (hi := none) (i := 0) (j := 0) (by first | exact ⟨_, rfl⟩ | rfl) (by first | exact ⟨_, rfl⟩ | rfl) (by omega) (by omega) (by omega)
  simp only [execOp, e1, Option.map_some, e2, Option.map_none]
  refine run_val ?_
  simp only [Instr.sliceAt, Sem.run_bind, run_underlying hu, Result.andThen_ok]
  simp only [Instr.slice, Sem.run_bind, run_underlying hu, Result.andThen_ok, hb]
  cases ad <;> simp [sizeOf, typeInfo, hi1, hi2]
theorem opv_slice_nil0 {dd : Option Tmp} {lo : Operand} {sz by_ : Nat} (hx : opV σ x = some (.v (.slice none 0 0))) (hl : opV σ lo = some (.v (.int .i64 0))) (ht : look T.ty t = some (.slice e)) (hz : look T.sz e = some (sz, by_)) : OpV P ⟨dd, .slice t x (some lo) none none, ty, pos, af, g⟩ σ (.v (.slice none 0 0)) :=
  opv_same rfl fun F X a hs => ⟨_, run_slice00 (T := T) (opV_val hs (by simp [Op.operands]) hx) (opV_val hs (by simp [Op.operands]) hl) ht hz, .v _⟩
theorem opv_slice_cl0 {dd : Option Tmp} {lo : Operand} {sz by_ : Nat} (hx : opV σ x = some (.cl sz [])) (hl : opV σ lo = some (.v (.int .i64 0))) (ht : look T.ty t = some (.slice e)) (hz : look T.sz e = some (sz, by_)) : OpV P ⟨dd, .slice t x (some lo) none none, ty, pos, af, g⟩ σ (.cl sz []) := by
  refine opv_same rfl fun F X a hs => ?_
  have h := opV_rel hs (by simp [Op.operands]) hx
  have hl := opV_val hs (by simp [Op.operands]) hl
  generalize hxv : a.eval x = xv at h
  cases h with
  | cl _ _ ad n hr =>
    have hn : n = 0 := by
      obtain ⟨a1, c1, h1⟩ := rel_sl_form hr
      cases h1; rfl
    subst hn
    exact ⟨_, run_slice00 (T := T) hxv hl ht hz, .cl _ _ _ _ hr⟩
theorem opv_len_cl {dd : Option Tmp} {sz : Nat} (hx : opV σ x = some (.cl sz [])) (ht : look T.ty t = some (.slice e)) : OpV P ⟨dd, .call { callee := .builtin .len, args := #[x], argTypes := #[t] }, ty, pos, af, g⟩ σ (.v (.int .i64 0)) := by
  refine opv_same rfl fun F X a hs => ⟨_, ?_, .v _⟩
  have h := opV_rel hs (by simp [Op.operands, Call.operands]) hx
  have hu := T.tyOk _ _ ht
  generalize hxv : a.eval x = xv at h
  cases h with
  | cl _ _ ad n hr =>
    have hn : n = 0 := by
      obtain ⟨a1, c1, h1⟩ := rel_sl_form hr
      cases h1; rfl
    subst hn
    simp [execOp, resolve, invoke, builtin, Builtin.len_, hxv, run_underlying hu, goInt]
end
attribute [local irreducible] AS.nf OpV ARun Stk QSem QSemA ACalls EffOp AppOk SrcOk Awp Aops NSem CSem
set_option maxHeartbeats 2000000
set_option maxRecDepth 100000 in
theorem insert_nil (r : List AV) (hr : r.length = 2) (hrok : ∀ u ∈ r, CellOk u) :
    ACalls Tryz.prog 35 [.v (.slice none 0 0), .v (.int .i64 0), .sl false 2 [r]] [] (fun out H => out = .ret (.sl true 2 [r]) ∧ H = []) := by
  refine acalls_enter _ 95 [.tmp 6] Tryz.func35 (by kernel_rfl) rfl rfl rfl rfl ?_
  dsimp only [slotsOf]
  repeat (first
    | ((first | apply ar_un); (next => (first | (simp only [go_sem, Nat.reduceBEq, Nat.reduceEqDiff, reduceIte, reduceCtorEq, String.reduceEq, Nat.reduceAdd, Int.reduceToNat]; exact rfl))))
    | (apply ar_op' rfl rfl rfl rfl; (next => exact opv_slice_nil0 (T := TT) (sz := 2) rfl rfl rfl rfl))
    | (apply ar_op' rfl rfl rfl rfl; (next => (first
     | (refine evalE_ok (T := TT) rfl ?_; (first | exact trivial))
     | (apply opk ⟨_, .binOp .eql _ _ _ _, _, _, _, _⟩; first
      | (refine opv_cmp_t rfl rfl rfl ?_; (next => (first | exact rfl)))
      | (refine opv_cmp_f rfl rfl rfl ?_; (next => (first | (simp only [cmpP]; omega))))
      | fail)
     | (apply opk ⟨_, .call { callee := .builtin .len, args := _, argTypes := _ }, _, _, _, _⟩; first
      | exact opv_len_sl (T := TT) rfl rfl rfl
      | exact opv_len_nil (T := TT) rfl rfl rfl
      | fail)
     | fail)))
    | (refine arO _ ?_; first | (refine arO ⟨_, .move _, _, _, _, _⟩ ?_; first | refine ar_move_sl rfl rfl rfl rfl ?_ | fail) | fail)
    | refine ar_seq ?_
    | (refine arE ?_; refine ar_endM [0, 1, 2, 6, 7, 8, 9, 16, 22, 31, 68] rfl ?_)
    | refine ar_region ?_
    | refine ar_skip ?_
    | (refine arC (.cond _ _ _) ?_; first | (refine ar_cond_true rfl ?_ ?_; (next => (first | rfl))) | (refine ar_cond_false rfl ?_ ?_; (next => (first | rfl))) | fail)
    | fail)
  have h1 : RowsOne [r] := fun q hq u hu => by simp only [List.mem_singleton] at hq; subst hq; exact (hrok u hu).1
  refine ar_eff rfl rfl (eff_append_nil (T := TT) (m := [r]) (sz := 2) rfl rfl rfl (.inr ⟨_, rfl⟩) rfl rfl (fun F X a hs => adds_rel h1 X a (Rel.own (o := false) (opV_rel' hs (u := .sl false 2 [r]) rfl))) (by simp) rfl ?_)
  repeat (first | ((first | apply ar_un | apply stk_un); (next => (first | (simp only [go_sem, Nat.reduceBEq, Nat.reduceEqDiff, reduceIte, reduceCtorEq, String.reduceEq, Nat.reduceAdd, Int.reduceToNat]; exact rfl)))) | (refine arO _ ?_; first | (refine arO ⟨_, .assign _, _, _, _, _⟩ ?_; first | refine ar_assign_sl rfl rfl rfl rfl ?_ | fail) | fail) | (refine arE ?_; refine ar_endM [0, 1, 2, 6, 7, 8, 9, 16, 22, 31, 68] rfl ?_) | (refine arC .ret ?_; refine ar_retM [6] ?_) | refine stk_c_ret ?_ | refine stk_nil ?_ | fail)
  exact ⟨_, rfl, rfl, rfl⟩
set_option maxHeartbeats 2000000
set_option maxRecDepth 100000 in
theorem insert_cl (r : List AV) (hr : r.length = 2) (hrok : ∀ u ∈ r, CellOk u) :
    ACalls Tryz.prog 35 [.cl 2 [], .v (.int .i64 0), .sl false 2 [r]] [] (fun out H => out = .ret (.sl true 2 [r]) ∧ H = []) := by
  refine acalls_enter _ 95 [.tmp 6] Tryz.func35 (by kernel_rfl) rfl rfl rfl rfl ?_
  dsimp only [slotsOf]
  repeat (first
    | ((first | apply ar_un); (next => (first | (simp only [go_sem, Nat.reduceBEq, Nat.reduceEqDiff, reduceIte, reduceCtorEq, String.reduceEq, Nat.reduceAdd, Int.reduceToNat]; exact rfl))))
    | (apply ar_op' rfl rfl rfl rfl; (next => first | exact opv_slice_cl0 (T := TT) (sz := 2) rfl rfl rfl rfl | exact opv_len_cl (T := TT) (sz := 2) rfl rfl | fail))
    | (apply ar_op' rfl rfl rfl rfl; (next => (first
     | (refine evalE_ok (T := TT) rfl ?_; (first | exact trivial))
     | (apply opk ⟨_, .binOp .eql _ _ _ _, _, _, _, _⟩; first
      | (refine opv_cmp_t rfl rfl rfl ?_; (next => (first | exact rfl)))
      | (refine opv_cmp_f rfl rfl rfl ?_; (next => (first | (simp only [cmpP]; omega))))
      | fail)
     | (apply opk ⟨_, .call { callee := .builtin .len, args := _, argTypes := _ }, _, _, _, _⟩; first | exact opv_len_sl (T := TT) rfl rfl rfl | fail)
     | fail)))
    | (refine arO _ ?_; first | (refine arO ⟨_, .move _, _, _, _, _⟩ ?_; first | refine ar_move_sl rfl rfl rfl rfl ?_ | fail) | fail)
    | refine ar_seq ?_
    | (refine arE ?_; refine ar_endM [0, 1, 2, 6, 7, 8, 9, 16, 22, 31, 68] rfl ?_)
    | refine ar_region ?_
    | refine ar_skip ?_
    | (refine arC (.cond _ _ _) ?_; first | (refine ar_cond_true rfl ?_ ?_; (next => (first | rfl))) | (refine ar_cond_false rfl ?_ ?_; (next => (first | rfl))) | fail)
    | fail)
  have h1 : RowsOne [r] := fun q hq u hu => by simp only [List.mem_singleton] at hq; subst hq; exact (hrok u hu).1
  refine ar_eff rfl rfl (eff_append_cl (T := TT) (L := []) (m := [r]) (sz := 2) rfl rfl rfl (.inr ⟨_, rfl⟩) rfl rfl (fun F X a hs => adds_rel h1 X a (Rel.own (o := false) (opV_rel' hs (u := .sl false 2 [r]) rfl))) (by simp) (by simp) rfl ?_)
  repeat (first | ((first | apply ar_un | apply stk_un); (next => (first | (simp only [go_sem, Nat.reduceBEq, Nat.reduceEqDiff, reduceIte, reduceCtorEq, String.reduceEq, Nat.reduceAdd, Int.reduceToNat]; exact rfl)))) | (refine arO _ ?_; first | (refine arO ⟨_, .assign _, _, _, _, _⟩ ?_; first | refine ar_assign_sl rfl rfl rfl rfl ?_ | fail) | fail) | (refine arE ?_; refine ar_endM [0, 1, 2, 6, 7, 8, 9, 16, 22, 31, 68] rfl ?_) | (refine arC .ret ?_; refine ar_retM [6] ?_) | refine stk_c_ret ?_ | refine stk_nil ?_ | fail)
  exact ⟨_, rfl, rfl, rfl⟩
end Go.Proofs.YtgmlkhfjhogdbaaGreat

/- labels.Set. -/
namespace Go.Proofs.YtgmlkhfjhogdbaaGreat
open Go.RowKit P
set_option linter.unusedSimpArgs false
set_option linter.unusedVariables false
/-- The cells of labels. -/
def rowsL (l : List VLabel) : List (List AV) := l.map fun v => [.v (.string (mkB v.Name)), .v (.string (mkB v.Value))]
theorem find_a {N : Nat} (l : List VLabel) (nm : List UInt8) {i : Int} {ok : Bool} (h : labels_find N l nm = some (i, ok)) : ACalls Tryz.prog 33 [.sl false 2 (rowsL l), .v (.string (mkB nm))] [] (fun out H => out = .ret (.tu [.v (.int .i64 i), .v (.bool ok)]) ∧ H = []) :=
  labels_find_ok l nm h fun i => i
theorem rowsL_ok (l : List VLabel) : RowsOk (rowsL l) := fun r hr => by
  obtain ⟨v, _, rfl⟩ := List.mem_map.1 hr
  refine ⟨rfl, fun u hu => ?_⟩
  simp only [List.mem_cons, List.not_mem_nil, or_false] at hu
  rcases hu with rfl | rfl <;> exact ⟨rfl, rfl⟩
theorem insert_a (k n c i : Nat) (cs r : List AV) (hcs : cs.length = c * 2) (hnc : n ≤ c) (hi : i ≤ n) (hc : n ≤ 1000000) (hok : ∀ u ∈ cs.take (n * 2), CellOk u) (hr : r.length = 2) (hrok : ∀ u ∈ r, CellOk u) :
    ACalls Tryz.prog 35 [.v (.slice (some ⟨k, 0, none⟩) n c), .v (.int .i64 (i : Nat)), .sl false 2 [r]] [(k, cs)] (InsPost cs n i r) := by
  by_cases h1 : i = n
  · subst h1; exact insert_end k i c cs r hcs hnc hc hok hr hrok
  · by_cases h2 : n + 1 ≤ c
    · exact insert_in k n c i cs r hcs hnc (by omega) h2 hc hok hr hrok
    · exact insert_new k n c i cs r hcs hnc (by omega) (by omega) hc hok hr hrok
theorem rowsL_len (l : List VLabel) : (rowsL l).flatten.length = l.length * 2 := by
  rw [flat_len (sz := 2) fun r hr => (rowsL_ok l r hr).1]; simp [rowsL]
theorem rowsL_take (l : List VLabel) (sp : List AV) {i : Nat} (hi : i ≤ l.length) : ((rowsL l).flatten ++ sp).take (i * 2) = (rowsL (l.take i)).flatten := by
  have h : (rowsL l).flatten = (rowsL (l.take i)).flatten ++ (rowsL (l.drop i)).flatten := by
    rw [← List.flatten_append]; congr 1
    simp only [rowsL, ← List.map_append, List.take_append_drop]
  have h2 := rowsL_len (l.take i)
  rw [List.length_take, Nat.min_eq_left hi] at h2
  rw [h, List.append_assoc, ← h2, List.take_left]
theorem rowsL_drop (l : List VLabel) (sp : List AV) {i : Nat} (hi : i ≤ l.length) : (((rowsL l).flatten ++ sp).drop (i * 2)).take ((l.length - i) * 2) = (rowsL (l.drop i)).flatten := by
  have h : (rowsL l).flatten = (rowsL (l.take i)).flatten ++ (rowsL (l.drop i)).flatten := by
    rw [← List.flatten_append]; congr 1
    simp only [rowsL, ← List.map_append, List.take_append_drop]
  have h2 := rowsL_len (l.take i)
  have h3 := rowsL_len (l.drop i)
  rw [List.length_take, Nat.min_eq_left hi] at h2
  rw [List.length_drop] at h3
  rw [h, List.append_assoc, ← h2, List.drop_left, ← h3, List.take_left]
theorem splice_del {A B C sp Z : List AV} {i n : Nat} (hA : A.length = i * 2) (hB : B.length = 2) (hC : C.length = (n - (i + 1)) * 2) (hi : i < n) (hZ : Z.length = 2) : splice (splice (A ++ (B ++ C) ++ sp) (i * 2) C) ((n - 1) * 2) Z = A ++ C ++ (Z ++ sp) := by
  have h1 : B ++ C = (B ++ C).take C.length ++ (B ++ C).drop C.length := (List.take_append_drop _ _).symm
  have h2 : ((B ++ C).take C.length).length = C.length := by rw [List.length_take, List.length_append]; omega
  have h3 : ((B ++ C).drop C.length).length = 2 := by rw [List.length_drop, List.length_append]; omega
  rw [h1, ← List.append_assoc A, List.append_assoc (A ++ _), splice_mid hA h2, ← List.append_assoc (A ++ C), splice_mid (by rw [List.length_append]; omega) (by omega), List.append_assoc (A ++ C)]
theorem delC_rows (l : List VLabel) (sp : List AV) {i : Nat} (hi : i < l.length) : delC ((rowsL l).flatten ++ sp) l.length i (i + 1) = (rowsL (l.take i ++ l.drop (i + 1))).flatten ++ ((Builtin.zeroCells (Value.agg #[.string ⟨#[]⟩, .string ⟨#[]⟩]).cells 1).toList.map AV.v ++ sp) := by
  have h : (rowsL l).flatten = (rowsL (l.take i)).flatten ++ ((rowsL [l[i]]).flatten ++ (rowsL (l.drop (i + 1))).flatten) := by
    rw [← List.flatten_append, ← List.flatten_append]; congr 1
    simp only [rowsL, ← List.map_append]
    congr 1
    rw [List.singleton_append, List.getElem_cons_drop, List.take_append_drop]
  have hA := rowsL_len (l.take i)
  rw [List.length_take, Nat.min_eq_left (by omega)] at hA
  have hC := rowsL_len (l.drop (i + 1))
  rw [List.length_drop] at hC
  unfold delC
  rw [rowsL_drop l sp (i := i + 1) (by omega), show i + 1 - i = 1 by omega, h, splice_del hA (rowsL_len [l[i]]) hC hi (by rw [List.length_map, Array.length_toList, zc_len])]
  simp [rowsL]
attribute [local irreducible] AS.nf OpV ARun Stk QSem QSemA ACalls EffOp AppOk SrcOk Awp Aops NSem CSem
set_option maxHeartbeats 2000000
set_option maxRecDepth 100000 in
/-- Set on no labels. -/
theorem set_none {N : Nat} (nm v : List UInt8) (h : labels_find N [] nm = some (0, false)) (hv : v ≠ []) :
    ACalls Tryz.prog 20 [.sl false 2 [], .v (.string (mkB nm)), .v (.string (mkB v))] [] (fun out H => out = .ret (.sl true 2 (rowsL [⟨nm, v⟩])) ∧ H = []) := by
  have hf := find_a [] nm h
  refine acalls_enter _ 46 [.tmp 6] Tryz.func20 (by kernel_rfl) rfl rfl rfl rfl ?_
  dsimp only [slotsOf]
  repeat (first
    | ((first | apply ar_un); (next => (first | (simp only [go_sem, Nat.reduceBEq, Nat.reduceEqDiff, reduceIte, reduceCtorEq, String.reduceEq, Nat.reduceAdd, Int.reduceToNat]; exact rfl))))
    | (apply ar_op' rfl rfl rfl rfl; (next => (first | (refine evalE_ok (T := TT) rfl ?_; (first | exact trivial)) | fail)))
    | (refine arO _ ?_; first
     | (refine arO ⟨_, .move _, _, _, _, _⟩ ?_; first | refine ar_move_sl rfl rfl rfl rfl ?_ | fail)
     | (refine arO ⟨_, .call { callee := .value _, args := _, argTypes := _ }, _, _, _, _⟩ ?_; first
      | (apply ar_callM0 rfl (hf) rfl rfl; (next => (repeat (first | exact PArgs.nil | (apply PArgs.cons; (next => (first | exact PArg.rd rfl (Le1.refl _) rfl)))))); (next => rfl); (next => rfl); rintro _ _ ⟨rfl, rfl⟩; refine ⟨_, rfl, ?_⟩)
      | fail)
     | fail)
    | refine ar_seq ?_
    | (refine arE ?_; refine ar_endM [0, 1, 2, 6, 7, 8, 17, 28, 35] rfl ?_)
    | refine ar_region ?_
    | fail)
  have hve : (decide (mkB v = ⟨#[]⟩)) = false := decide_eq_false fun e => hv (by have := congrArg (fun b => b.data.toList) e; simpa [mkB] using this)
  refine ar_eff rfl rfl (eff_call (Hp := []) (Hr := []) clone0_a (.cons (.rd rfl (Le1.refl _) rfl) .nil) (fun i j r hi hj => oneSome_spec (ρs := [none]) rfl i j r r hi hj) (fun _ _ _ => rfl) (fun k cs hk => by simp [look_nil] at hk) (fun k cs hk => by simp [look_nil] at hk) rfl ?_)
  rintro _ _ ⟨u, rfl, hu, rfl⟩
  refine ⟨_, rfl, ?_⟩
  rcases hu with rfl | rfl
  · repeat (first
    | ((first | apply ar_un); (next => (first | (simp only [go_sem, Nat.reduceBEq, Nat.reduceEqDiff, reduceIte, reduceCtorEq, String.reduceEq, Nat.reduceAdd, Int.reduceToNat]; exact rfl))))
    | (apply ar_op' rfl rfl rfl rfl; (next => (first
     | (refine evalE_ok (T := TT) rfl ?_; (first | exact trivial))
     | (apply opk ⟨_, .binOp .neq _ _ _ _, _, _, _, _⟩; first | (refine opv_sne_t rfl rfl rfl ?_; (next => (first | assumption))) | fail)
     | (apply opk ⟨_, .buildSlice _ _ _, _, _, _, _⟩; first | exact opv_build_slice (T := TT) rfl rfl rfl rfl rfl rfl rfl | fail)
     | (apply opk ⟨_, .build _ _, _, _, _, _⟩; first | exact opv_build (T := TT) rfl rfl rfl rfl rfl | fail)
     | (apply opk ⟨_, .pick _ _ _, _, _, _, _⟩; first | (refine opv_pickf rfl ?_ rfl; (next => (first | rfl))) | fail)
     | fail)))
    | refine ar_unwanted' rfl rfl rfl rfl ?_
    | refine ar_seq ?_
    | (refine arE ?_; refine ar_endM [0, 1, 2, 6, 7, 8, 17, 28, 35] rfl ?_)
    | refine ar_region ?_
    | refine ar_block ?_
    | (refine arC (.cond _ _ _) ?_; first | (refine ar_cond_true rfl ?_ ?_; (next => (first | rfl))) | (refine ar_cond_false rfl ?_ ?_; (next => (first | rfl))) | fail)
    | fail)
    refine ar_eff rfl rfl (eff_call (Hp := []) (Hr := []) (insert_nil [.v (.string (mkB nm)), .v (.string (mkB v))] rfl (rowsL_ok [⟨nm, v⟩] _ (List.mem_singleton.2 rfl)).2) (.cons (.rd rfl (Le1.refl _) rfl) (.cons (.rd rfl (Le1.refl _) rfl) (.cons (.rd rfl (Le1.rd _ _ _) rfl) .nil))) (fun i j r hi hj => oneSome_spec (ρs := [none, none, none]) rfl i j r r hi hj) (fun _ _ _ => rfl) (fun k cs hk => by simp [look_nil] at hk) (fun k cs hk => by simp [look_nil] at hk) rfl ?_)
    rintro _ _ ⟨rfl, rfl⟩
    refine ⟨_, rfl, ?_⟩
    repeat (first | ((first | apply ar_un | apply stk_un); (next => (first | (simp only [go_sem, Nat.reduceBEq, Nat.reduceEqDiff, reduceIte, reduceCtorEq, String.reduceEq, Nat.reduceAdd, Int.reduceToNat]; exact rfl)))) | (refine arO _ ?_; first | (refine arO ⟨_, .assign _, _, _, _, _⟩ ?_; first | refine ar_assign_sl rfl rfl rfl rfl ?_ | fail) | fail) | (refine arE ?_; refine ar_endM [0, 1, 2, 6, 7, 8, 17, 28, 35] rfl ?_) | (refine arC .ret ?_; refine ar_retM [6] ?_) | refine stk_c_ret ?_ | refine stk_b_ret ?_ | refine stk_nil ?_ | fail)
    exact ⟨_, rfl, rfl, rfl⟩
  · repeat (first
    | ((first | apply ar_un); (next => (first | (simp only [go_sem, Nat.reduceBEq, Nat.reduceEqDiff, reduceIte, reduceCtorEq, String.reduceEq, Nat.reduceAdd, Int.reduceToNat]; exact rfl))))
    | (apply ar_op' rfl rfl rfl rfl; (next => (first
     | (refine evalE_ok (T := TT) rfl ?_; (first | exact trivial))
     | (apply opk ⟨_, .binOp .neq _ _ _ _, _, _, _, _⟩; first | (refine opv_sne_t rfl rfl rfl ?_; (next => (first | assumption))) | fail)
     | (apply opk ⟨_, .buildSlice _ _ _, _, _, _, _⟩; first | exact opv_build_slice (T := TT) rfl rfl rfl rfl rfl rfl rfl | fail)
     | (apply opk ⟨_, .build _ _, _, _, _, _⟩; first | exact opv_build (T := TT) rfl rfl rfl rfl rfl | fail)
     | (apply opk ⟨_, .pick _ _ _, _, _, _, _⟩; first | (refine opv_pickf rfl ?_ rfl; (next => (first | rfl))) | fail)
     | fail)))
    | refine ar_unwanted' rfl rfl rfl rfl ?_
    | refine ar_seq ?_
    | (refine arE ?_; refine ar_endM [0, 1, 2, 6, 7, 8, 17, 28, 35] rfl ?_)
    | refine ar_region ?_
    | refine ar_block ?_
    | (refine arC (.cond _ _ _) ?_; first | (refine ar_cond_true rfl ?_ ?_; (next => (first | rfl))) | (refine ar_cond_false rfl ?_ ?_; (next => (first | rfl))) | fail)
    | fail)
    refine ar_eff rfl rfl (eff_call (Hp := []) (Hr := []) (insert_cl [.v (.string (mkB nm)), .v (.string (mkB v))] rfl (rowsL_ok [⟨nm, v⟩] _ (List.mem_singleton.2 rfl)).2) (.cons (.rd rfl (Le1.refl _) rfl) (.cons (.rd rfl (Le1.refl _) rfl) (.cons (.rd rfl (Le1.rd _ _ _) rfl) .nil))) (fun i j r hi hj => oneSome_spec (ρs := [none, none, none]) rfl i j r r hi hj) (fun _ _ _ => rfl) (fun k cs hk => by simp [look_nil] at hk) (fun k cs hk => by simp [look_nil] at hk) rfl ?_)
    rintro _ _ ⟨rfl, rfl⟩
    refine ⟨_, rfl, ?_⟩
    repeat (first | ((first | apply ar_un | apply stk_un); (next => (first | (simp only [go_sem, Nat.reduceBEq, Nat.reduceEqDiff, reduceIte, reduceCtorEq, String.reduceEq, Nat.reduceAdd, Int.reduceToNat]; exact rfl)))) | (refine arO _ ?_; first | (refine arO ⟨_, .assign _, _, _, _, _⟩ ?_; first | refine ar_assign_sl rfl rfl rfl rfl ?_ | fail) | fail) | (refine arE ?_; refine ar_endM [0, 1, 2, 6, 7, 8, 17, 28, 35] rfl ?_) | (refine arC .ret ?_; refine ar_retM [6] ?_) | refine stk_c_ret ?_ | refine stk_b_ret ?_ | refine stk_nil ?_ | fail)
    exact ⟨_, rfl, rfl, rfl⟩
set_option maxHeartbeats 2000000
set_option maxRecDepth 100000 in
/-- Set of a name that is not there. -/
theorem set_ins {N : Nat} (a : VLabel) (l : List VLabel) (nm v : List UInt8) (i : Nat) (hi : i ≤ l.length + 1) (hl : l.length < 400000) (h : labels_find N (a :: l) nm = some ((i : Int), false)) (hv : v ≠ []) :
    ACalls Tryz.prog 20 [.sl false 2 (rowsL (a :: l)), .v (.string (mkB nm)), .v (.string (mkB v))] [] (fun out H => out = .ret (.sl true 2 (rowsL ((a :: l).take i ++ ⟨nm, v⟩ :: (a :: l).drop i))) ∧ H = []) := by
  have hf := find_a (a :: l) nm h
  have hve : (decide (mkB v = ⟨#[]⟩)) = false := decide_eq_false fun e => hv (by have := congrArg (fun b => b.data.toList) e; simpa [mkB] using this)
  refine acalls_enter _ 46 [.tmp 6] Tryz.func20 (by kernel_rfl) rfl rfl rfl rfl ?_
  dsimp only [slotsOf]
  repeat (first
    | ((first | apply ar_un); (next => (first | (simp only [go_sem, Nat.reduceBEq, Nat.reduceEqDiff, reduceIte, reduceCtorEq, String.reduceEq, Nat.reduceAdd, Int.reduceToNat]; exact rfl))))
    | (apply ar_op' rfl rfl rfl rfl; (next => (first | (refine evalE_ok (T := TT) rfl ?_; (first | exact trivial)) | fail)))
    | (refine arO _ ?_; first
     | (refine arO ⟨_, .move _, _, _, _, _⟩ ?_; first | refine ar_move_sl rfl rfl rfl rfl ?_ | fail)
     | (refine arO ⟨_, .call { callee := .value _, args := _, argTypes := _ }, _, _, _, _⟩ ?_; first
      | (apply ar_callM0 rfl (hf) rfl rfl; (next => (repeat (first | exact PArgs.nil | (apply PArgs.cons; (next => (first | exact PArg.rd rfl (Le1.refl _) rfl)))))); (next => rfl); (next => rfl); rintro _ _ ⟨rfl, rfl⟩; refine ⟨_, rfl, ?_⟩)
      | fail)
     | fail)
    | refine ar_seq ?_
    | (refine arE ?_; refine ar_endM [0, 1, 2, 6, 7, 8, 17, 28, 35] rfl ?_)
    | refine ar_region ?_
    | fail)
  have hl : l.length < 1000000 := by omega
  refine ar_eff rfl rfl (eff_call (Hp := []) (Hr := []) (clone_a _ _ (by simpa [rowsL] using hl) (rowsL_ok (a :: l))) (.cons (.rd rfl (Le1.refl _) rfl) .nil) (fun i j r hi hj => oneSome_spec (ρs := [none]) rfl i j r r hi hj) (fun _ _ _ => rfl) (fun k cs hk => by simp [look_nil] at hk) (fun k cs hk => by simp [look_nil] at hk) rfl ?_)
  rintro _ _ ⟨k, c, sp, rfl, rfl, hc⟩
  refine ⟨_, rfl, ?_⟩
  repeat (first
    | ((first | apply ar_un); (next => (first | (simp only [go_sem, Nat.reduceBEq, Nat.reduceEqDiff, reduceIte, reduceCtorEq, String.reduceEq, Nat.reduceAdd, Int.reduceToNat]; exact rfl))))
    | (apply ar_op' rfl rfl rfl rfl; (next => (first
     | (refine evalE_ok (T := TT) rfl ?_; (first | exact trivial))
     | (apply opk ⟨_, .binOp .neq _ _ _ _, _, _, _, _⟩; first | (refine opv_sne_t rfl rfl rfl ?_; (next => (first | assumption))) | fail)
     | (apply opk ⟨_, .buildSlice _ _ _, _, _, _, _⟩; first | exact opv_build_slice (T := TT) rfl rfl rfl rfl rfl rfl rfl | fail)
     | (apply opk ⟨_, .build _ _, _, _, _, _⟩; first | exact opv_build (T := TT) rfl rfl rfl rfl rfl | fail)
     | (apply opk ⟨_, .pick _ _ _, _, _, _, _⟩; first | (refine opv_pickf rfl ?_ rfl; (next => (first | rfl))) | fail)
     | fail)))
    | refine ar_unwanted' rfl rfl rfl rfl ?_
    | refine ar_seq ?_
    | (refine arE ?_; refine ar_endM [0, 1, 2, 6, 7, 8, 17, 28, 35] rfl ?_)
    | refine ar_region ?_
    | refine ar_block ?_
    | (refine arC (.cond _ _ _) ?_; first | (refine ar_cond_true rfl ?_ ?_; (next => (first | rfl))) | (refine ar_cond_false rfl ?_ ?_; (next => (first | rfl))) | fail)
    | fail)
  refine ar_eff rfl rfl (eff_call (Hp := [(k, (rowsL (a :: l)).flatten ++ sp)]) (Hr := []) (insert_a k (l.length + 1) c i ((rowsL (a :: l)).flatten ++ sp) [.v (.string (mkB nm)), .v (.string (mkB v))] ?_ ?_ hi (by omega) ?_ rfl (rowsL_ok [⟨nm, v⟩] _ (List.mem_singleton.2 rfl)).2) (.cons (.rd rfl ?_ rfl) (.cons (.rd rfl (Le1.refl _) rfl) (.cons (.rd rfl (Le1.rd _ _ _) rfl) .nil))) (fun i j r hi hj => oneSome_spec (ρs := [none, none, none]) rfl i j r r hi hj) (fun _ _ hh => by simp at hh) (fun k cs hk => hk) (fun k cs hk => by simp [look_nil] at hk) rfl ?_)
  · rw [List.length_append, rowsL_len]; rw [List.length_map] at hc; simp only [List.length_cons]; omega
  · rw [List.length_map] at hc; omega
  · rw [show l.length + 1 = (a :: l).length from rfl, rowsL_take _ _ (Nat.le_refl _), List.take_length]
    exact (rowsL_ok (a :: l)).flat
  · rw [List.length_map]; exact Le1.refl _
  rintro _ H ⟨k', c', sp', rfl, hk', hc'⟩
  refine ⟨_, rfl, ?_⟩
  rw [show l.length + 1 = (a :: l).length from rfl, rowsL_take _ _ hi, rowsL_drop _ _ hi] at hk'
  repeat (first | ((first | apply ar_un); (next => (first | (simp only [go_sem, Nat.reduceBEq, Nat.reduceEqDiff, reduceIte, reduceCtorEq, String.reduceEq, Nat.reduceAdd, Int.reduceToNat]; exact rfl)))) | (apply ar_op' rfl rfl rfl rfl; (next => (first | (refine evalE_ok (T := TT) rfl ?_; (first | exact trivial)) | fail))) | (refine arE ?_; refine ar_endM [0, 1, 2, 6, 7, 8, 17, 28, 35] rfl ?_) | fail | fail)
  have hfl : (rowsL ((a :: l).take i ++ ⟨nm, v⟩ :: (a :: l).drop i)).flatten = (rowsL (List.take i (a :: l))).flatten ++ [AV.v (.string (mkB nm)), AV.v (.string (mkB v))] ++ (rowsL (List.drop i (a :: l))).flatten := by
    simp [rowsL]
  have hll : ((a :: l).take i ++ (⟨nm, v⟩ : VLabel) :: (a :: l).drop i).length = l.length + 1 + 1 := by
    rw [List.length_append, List.length_cons, List.length_take, List.length_drop, List.length_cons]; omega
  rw [← hfl] at hk'
  have hbl : ((rowsL ((a :: l).take i ++ ⟨nm, v⟩ :: (a :: l).drop i)).flatten ++ sp').length = c' * 2 := by
    rw [List.length_append, rowsL_len, hll]; exact hc'
  refine ar_ghost ?_ (fun F X tm hs => SimE.claim (k := k') (d := 6) (L := rowsL ((a :: l).take i ++ ⟨nm, v⟩ :: (a :: l).drop i)) hs rfl hk' (isMpB_even hbl) (by rw [← hll]; simp [rowsL]) (fun r hr => (rowsL_ok _ r hr).1) rfl hbl (by omega))
  repeat (first | ((first | apply stk_un); (next => (first | (simp only [go_sem, Nat.reduceBEq, Nat.reduceEqDiff, reduceIte, reduceCtorEq, String.reduceEq, Nat.reduceAdd, Int.reduceToNat]; exact rfl)))) | (refine arC .ret ?_; refine ar_retM0 [6] ?_) | refine stk_c_ret ?_ | refine stk_b_ret ?_ | refine stk_nil ?_ | fail)
  exact ⟨_, rfl, rfl, rfl⟩
end Go.Proofs.YtgmlkhfjhogdbaaGreat

/- labels.Set: a label taken out. -/
namespace Go.Proofs.YtgmlkhfjhogdbaaGreat
open Go.RowKit P
set_option linter.unusedSimpArgs false
set_option linter.unusedVariables false
attribute [local irreducible] AS.nf OpV ARun Stk QSem QSemA ACalls EffOp AppOk SrcOk Awp Aops NSem CSem
set_option maxHeartbeats 2000000
set_option maxRecDepth 100000 in
/-- Set of a name that is there to nothing. -/
theorem set_del {N : Nat} (a : VLabel) (l : List VLabel) (nm : List UInt8) (i : Nat) (hi : i < l.length + 1) (hl : l.length < 400000) (h : labels_find N (a :: l) nm = some ((i : Int), true)) :
    ACalls Tryz.prog 20 [.sl false 2 (rowsL (a :: l)), .v (.string (mkB nm)), .v (.string (mkB []))] [] (fun out H => out = .ret (.sl true 2 (rowsL ((a :: l).take i ++ (a :: l).drop (i + 1)))) ∧ H = []) := by
  have hf := find_a (a :: l) nm h
  refine acalls_enter _ 46 [.tmp 6] Tryz.func20 (by kernel_rfl) rfl rfl rfl rfl ?_
  dsimp only [slotsOf]
  repeat (first
    | ((first | apply ar_un); (next => (first | (simp only [go_sem, Nat.reduceBEq, Nat.reduceEqDiff, reduceIte, reduceCtorEq, String.reduceEq, Nat.reduceAdd, Int.reduceToNat]; exact rfl))))
    | (apply ar_op' rfl rfl rfl rfl; (next => (first | (refine evalE_ok (T := TT) rfl ?_; (first | exact trivial)) | fail)))
    | (refine arO _ ?_; first
     | (refine arO ⟨_, .move _, _, _, _, _⟩ ?_; first | refine ar_move_sl rfl rfl rfl rfl ?_ | fail)
     | (refine arO ⟨_, .call { callee := .value _, args := _, argTypes := _ }, _, _, _, _⟩ ?_; first
      | (apply ar_callM0 rfl (hf) rfl rfl; (next => (repeat (first | exact PArgs.nil | (apply PArgs.cons; (next => (first | exact PArg.rd rfl (Le1.refl _) rfl)))))); (next => rfl); (next => rfl); rintro _ _ ⟨rfl, rfl⟩; refine ⟨_, rfl, ?_⟩)
      | fail)
     | fail)
    | refine ar_seq ?_
    | (refine arE ?_; refine ar_endM [0, 1, 2, 6, 7, 8, 17, 28, 35] rfl ?_)
    | refine ar_region ?_
    | fail)
  have hl : l.length < 1000000 := by omega
  refine ar_eff rfl rfl (eff_call (Hp := []) (Hr := []) (clone_a _ _ (by simpa [rowsL] using hl) (rowsL_ok (a :: l))) (.cons (.rd rfl (Le1.refl _) rfl) .nil) (fun i j r hi hj => oneSome_spec (ρs := [none]) rfl i j r r hi hj) (fun _ _ _ => rfl) (fun k cs hk => by simp [look_nil] at hk) (fun k cs hk => by simp [look_nil] at hk) rfl ?_)
  rintro _ _ ⟨k, c, sp, rfl, rfl, hc⟩
  refine ⟨_, rfl, ?_⟩
  repeat (first
    | ((first | apply ar_un); (next => (first | (simp only [go_sem, Nat.reduceBEq, Nat.reduceEqDiff, reduceIte, reduceCtorEq, String.reduceEq, Nat.reduceAdd, Int.reduceToNat]; exact rfl))))
    | (apply ar_op' rfl rfl rfl rfl; (next => (first
     | (refine evalE_ok (T := TT) rfl ?_; (first | exact trivial | omega))
     | (apply opk ⟨_, .binOp .eql _ _ _ _, _, _, _, _⟩; first | (refine opv_seq_t rfl rfl rfl ?_; (next => (first | rfl))) | fail)
     | (apply opk ⟨_, .pick _ _ _, _, _, _, _⟩; first | (refine opv_pickt rfl ?_ rfl; (next => (first | rfl))) | fail)
     | fail)))
    | refine ar_seq ?_
    | (refine arE ?_; refine ar_endM [0, 1, 2, 6, 7, 8, 17, 28, 35] rfl ?_)
    | refine ar_region ?_
    | refine ar_block ?_
    | (refine arC (.cond _ _ _) ?_; first | (refine ar_cond_true rfl ?_ ?_; (next => (first | rfl))) | fail)
    | fail)
  rw [List.length_map] at hc
  refine ar_eff rfl rfl (eff_call (Hp := [(k, (rowsL (a :: l)).flatten ++ sp)]) (Hr := []) (delete_a k (l.length + 1) c i (i + 1) ((rowsL (a :: l)).flatten ++ sp) ?_ ?_ (by omega) (by omega) (by omega) ?_) (.cons (.rd rfl ?_ rfl) (.cons (.rd rfl (Le1.refl _) rfl) (.cons (.rd rfl ?_ rfl) .nil))) (fun i j r hi hj => oneSome_spec (ρs := [none, none, none]) rfl i j r r hi hj) (fun _ _ hh => by simp at hh) (fun k cs hk => hk) (fun k cs hk => by simp [look_nil] at hk) rfl ?_)
  · rw [List.length_append, rowsL_len]; simp only [List.length_cons]; omega
  · omega
  · rw [show l.length + 1 = (a :: l).length from rfl, rowsL_take _ _ (Nat.le_refl _), List.take_length]
    exact (rowsL_ok (a :: l)).flat
  · rw [List.length_map]; exact Le1.refl _
  · exact Le1.refl _
  rintro _ H ⟨rfl, hk'⟩
  refine ⟨_, rfl, ?_⟩
  rw [show l.length + 1 = (a :: l).length from rfl, delC_rows (a :: l) sp (by simpa using hi)] at hk'
  repeat (first | ((first | apply ar_un); (next => (first | (simp only [go_sem, Nat.reduceBEq, Nat.reduceEqDiff, reduceIte, reduceCtorEq, String.reduceEq, Nat.reduceAdd, Int.reduceToNat]; exact rfl)))) | (apply ar_op' rfl rfl rfl rfl; (next => (first | (refine evalE_ok (T := TT) rfl ?_; (first | exact trivial)) | fail))) | (refine arE ?_; refine ar_endM [0, 1, 2, 6, 7, 8, 17, 28, 35] rfl ?_) | fail | fail)
  have hll : ((a :: l).take i ++ (a :: l).drop (i + 1)).length = l.length := by
    rw [List.length_append, List.length_take, List.length_drop, List.length_cons]; omega
  have hbl : ((rowsL ((a :: l).take i ++ (a :: l).drop (i + 1))).flatten ++ ((Builtin.zeroCells (Value.agg #[.string ⟨#[]⟩, .string ⟨#[]⟩]).cells 1).toList.map AV.v ++ sp)).length = c * 2 := by
    have hz : (Builtin.zeroCells (Value.agg #[.string ⟨#[]⟩, .string ⟨#[]⟩]).cells 1).toList.length = 1 * 2 := by rw [Array.length_toList, zc_len]
    rw [List.length_append, rowsL_len, hll, List.length_append, List.length_map, hz]; omega
  refine ar_ghost ?_ (fun F X tm hs => SimE.claim (k := k) (d := 6) (L := rowsL ((a :: l).take i ++ (a :: l).drop (i + 1))) hs rfl hk' (isMpB_even hbl) (by rw [show l.length + 1 - (i + 1 - i) = l.length by omega, ← hll]; simp [rowsL]) (fun r hr => (rowsL_ok _ r hr).1) rfl hbl (by omega))
  repeat (first | ((first | apply stk_un); (next => (first | (simp only [go_sem, Nat.reduceBEq, Nat.reduceEqDiff, reduceIte, reduceCtorEq, String.reduceEq, Nat.reduceAdd, Int.reduceToNat]; exact rfl)))) | (refine arC .ret ?_; refine ar_retM0 [6] ?_) | refine stk_c_ret ?_ | refine stk_b_ret ?_ | refine stk_nil ?_ | fail)
  exact ⟨_, rfl, rfl, rfl⟩
end Go.Proofs.YtgmlkhfjhogdbaaGreat

/- labels.Set: a value put in the place of another. -/
namespace Go.Proofs.YtgmlkhfjhogdbaaGreat
open Go.RowKit P
set_option linter.unusedSimpArgs false
set_option linter.unusedVariables false
theorem put_rows (l : List VLabel) (sp : List AV) (v : List UInt8) {i : Nat} (hi : i < l.length) : splice ((rowsL l).flatten ++ sp) (i * 2 + 1) [.v (.string (mkB v))] = (rowsL (l.take i ++ ⟨l[i].Name, v⟩ :: l.drop (i + 1))).flatten ++ sp := by
  have h : (rowsL l).flatten ++ sp = (rowsL (l.take i)).flatten ++ [.v (.string (mkB l[i].Name))] ++ [.v (.string (mkB l[i].Value))] ++ ((rowsL (l.drop (i + 1))).flatten ++ sp) := by
    have h1 : rowsL l = rowsL (l.take i) ++ (rowsL [l[i]] ++ rowsL (l.drop (i + 1))) := by
      simp only [rowsL, ← List.map_append]
      congr 1
      rw [List.singleton_append, List.getElem_cons_drop, List.take_append_drop]
    rw [h1]; simp [rowsL]
  have hA := rowsL_len (l.take i)
  rw [List.length_take, Nat.min_eq_left (by omega)] at hA
  rw [h, splice_mid (M := [.v (.string (mkB l[i].Value))]) (U := [.v (.string (mkB v))]) (by rw [List.length_append, hA]; rfl) rfl]
  simp [rowsL]
attribute [local irreducible] AS.nf OpV ARun Stk QSem QSemA ACalls EffOp AppOk SrcOk Awp Aops NSem CSem
set_option maxHeartbeats 2000000
set_option maxRecDepth 100000 in
/-- Set of a name that is there. -/
theorem set_put {N : Nat} (a : VLabel) (l : List VLabel) (nm v : List UInt8) (i : Nat) (hi : i < (a :: l).length) (hl : l.length < 400000) (h : labels_find N (a :: l) nm = some ((i : Int), true)) (hv : v ≠ []) :
    ACalls Tryz.prog 20 [.sl false 2 (rowsL (a :: l)), .v (.string (mkB nm)), .v (.string (mkB v))] [] (fun out H => out = .ret (.sl true 2 (rowsL ((a :: l).take i ++ ⟨((a :: l)[i]).Name, v⟩ :: (a :: l).drop (i + 1)))) ∧ H = []) := by
  have hf := find_a (a :: l) nm h
  have hve : (decide (mkB v = ⟨#[]⟩)) = false := decide_eq_false fun e => hv (by have := congrArg (fun b => b.data.toList) e; simpa [mkB] using this)
  have hi2 : i < l.length + 1 := hi
  refine acalls_enter _ 46 [.tmp 6] Tryz.func20 (by kernel_rfl) rfl rfl rfl rfl ?_
  dsimp only [slotsOf]
  repeat (first
    | ((first | apply ar_un); (next => (first | (simp only [go_sem, Nat.reduceBEq, Nat.reduceEqDiff, reduceIte, reduceCtorEq, String.reduceEq, Nat.reduceAdd, Int.reduceToNat]; exact rfl))))
    | (apply ar_op' rfl rfl rfl rfl; (next => (first | (refine evalE_ok (T := TT) rfl ?_; (first | exact trivial)) | fail)))
    | (refine arO _ ?_; first
     | (refine arO ⟨_, .move _, _, _, _, _⟩ ?_; first | refine ar_move_sl rfl rfl rfl rfl ?_ | fail)
     | (refine arO ⟨_, .call { callee := .value _, args := _, argTypes := _ }, _, _, _, _⟩ ?_; first
      | (apply ar_callM0 rfl (hf) rfl rfl; (next => (repeat (first | exact PArgs.nil | (apply PArgs.cons; (next => (first | exact PArg.rd rfl (Le1.refl _) rfl)))))); (next => rfl); (next => rfl); rintro _ _ ⟨rfl, rfl⟩; refine ⟨_, rfl, ?_⟩)
      | fail)
     | fail)
    | refine ar_seq ?_
    | (refine arE ?_; refine ar_endM [0, 1, 2, 6, 7, 8, 17, 28, 35] rfl ?_)
    | refine ar_region ?_
    | fail)
  have hl : l.length < 1000000 := by omega
  refine ar_eff rfl rfl (eff_call (Hp := []) (Hr := []) (clone_a _ _ (by simpa [rowsL] using hl) (rowsL_ok (a :: l))) (.cons (.rd rfl (Le1.refl _) rfl) .nil) (fun i j r hi hj => oneSome_spec (ρs := [none]) rfl i j r r hi hj) (fun _ _ _ => rfl) (fun k cs hk => by simp [look_nil] at hk) (fun k cs hk => by simp [look_nil] at hk) rfl ?_)
  rintro _ _ ⟨k, c, sp, rfl, rfl, hc⟩
  refine ⟨_, rfl, ?_⟩
  rw [List.length_map] at hc ⊢
  repeat (first
    | ((first | apply ar_un); (next => (first | (simp only [go_sem, Nat.reduceBEq, Nat.reduceEqDiff, reduceIte, reduceCtorEq, String.reduceEq, Nat.reduceAdd, Int.reduceToNat]; exact rfl))))
    | (apply ar_op' rfl rfl rfl rfl; (next => (first | exact opv_indexaddr_box (T := TT) rfl rfl rfl rfl (by omega) (by omega) | exact opv_field_box (T := TT) rfl rfl rfl rfl rfl | fail)))
    | (apply ar_op' rfl rfl rfl rfl; (next => (first
     | (refine evalE_ok (T := TT) rfl ?_; (first | exact trivial))
     | (apply opk ⟨_, .binOp .eql _ _ _ _, _, _, _, _⟩; first | (refine opv_seq_f rfl rfl rfl ?_; (next => (first | assumption))) | fail)
     | (apply opk ⟨_, .pick _ _ _, _, _, _, _⟩; first | (refine opv_pickt rfl ?_ rfl; (next => (first | rfl))) | fail)
     | fail)))
    | refine ar_seq ?_
    | (refine arE ?_; refine ar_endM [0, 1, 2, 6, 7, 8, 17, 28, 35] rfl ?_)
    | refine ar_region ?_
    | refine ar_block ?_
    | (refine arC (.cond _ _ _) ?_; first | (refine ar_cond_true rfl ?_ ?_; (next => (first | rfl))) | (refine ar_cond_false rfl ?_ ?_; (next => (first | rfl))) | fail)
    | fail)
  have e' := put_rows (a :: l) sp v hi
  have hcl : ((rowsL (a :: l)).flatten ++ sp).length = c * 2 := by
    rw [List.length_append, rowsL_len]; simp only [List.length_cons]; omega
  refine ar_eff rfl rfl (eff_store (T := TT) (n := 1) (cs := (rowsL (a :: l)).flatten ++ sp) rfl (look_h _ _ _) rfl rfl rfl rfl rfl (by intro u hu; simp [AV.rd, AV.cells] at hu; subst hu; rfl) (Nat.ble_eq_true_of_le ?_) ?_ (isMpB_even hcl))
  · rw [hcl]; show 0 + ((i : Nat) : Int).toNat * 2 + 1 + 1 ≤ c * 2; omega
  repeat (first | ((first | apply ar_un); (next => (first | (simp only [go_sem, Nat.reduceBEq, Nat.reduceEqDiff, reduceIte, reduceCtorEq, String.reduceEq, Nat.reduceAdd, Int.reduceToNat]; exact rfl)))) | (apply ar_op' rfl rfl rfl rfl; (next => (first | (refine evalE_ok (T := TT) rfl ?_; (first | exact trivial)) | fail))) | refine ar_seq ?_ | (refine arE ?_; refine ar_endM [0, 1, 2, 6, 7, 8, 17, 28, 35] rfl ?_) | refine ar_region ?_ | refine ar_blk ?_ | refine ar_dedup rfl ?_ | fail | fail)
  have hll : ((a :: l).take i ++ (⟨((a :: l)[i]).Name, v⟩ : VLabel) :: (a :: l).drop (i + 1)).length = l.length + 1 := by
    rw [List.length_append, List.length_cons, List.length_take, List.length_drop, List.length_cons]; omega
  have hbl : ((rowsL ((a :: l).take i ++ ⟨((a :: l)[i]).Name, v⟩ :: (a :: l).drop (i + 1))).flatten ++ sp).length = c * 2 := by
    rw [List.length_append, rowsL_len, hll]; exact hc
  refine ar_ghost ?_ (fun F X tm hs => SimE.claim (k := k) (d := 6) (L := rowsL ((a :: l).take i ++ ⟨((a :: l)[i]).Name, v⟩ :: (a :: l).drop (i + 1))) hs rfl ((look_h _ _ _).trans (congrArg some e')) (isMpB_even hbl) (by rw [← hll]; simp [rowsL]) (fun r hr => (rowsL_ok _ r hr).1) rfl hbl (by omega))
  repeat (first | ((first | apply stk_un); (next => (first | (simp only [go_sem, Nat.reduceBEq, Nat.reduceEqDiff, reduceIte, reduceCtorEq, String.reduceEq, Nat.reduceAdd, Int.reduceToNat]; exact rfl)))) | (refine arC .ret ?_; refine ar_retM0 [6] ?_) | refine stk_nil ?_ | fail)
  exact ⟨_, rfl, rfl, rfl⟩
end Go.Proofs.YtgmlkhfjhogdbaaGreat

/- labels.Set: nothing put where nothing is. -/
namespace Go.Proofs.YtgmlkhfjhogdbaaGreat
open Go.RowKit P
set_option linter.unusedSimpArgs false
set_option linter.unusedVariables false
theorem SimE.cl0 {F : Nat → Prop} {X : GW} {σ : AS} {tm : Array Value} {d sz : Nat} (h : SimE F X σ tm) (hd : look σ.t d = some (.cl sz [])) : SimE F X ⟨σ.n, [(d, .sl false sz [])], [], []⟩ tm := by
  have hown : ∀ r s l, (⟨σ.n, [(d, .sl false sz [])], [], []⟩ : AS).own r = some (s, l) → False := fun r s l ho => by
    cases r with
    | s t =>
      simp only [AS.own, look_cons, look_nil] at ho
      by_cases ht : t = d
      · rw [if_pos ht] at ho; simp [own1] at ho
      · rw [if_neg ht] at ho; simp [own1] at ho
    | c k o => simp [AS.own, look_nil] at ho
  refine ⟨⟨h.size, h.gb, h.fb, fun t u hu => ?_, fun k cs hk => by simp [look_nil] at hk, fun x r hx => by simp [look_nil] at hx, fun r s l ho => (hown r s l ho).elim, fun r r' s1 l1 s2 l2 a n1 c1 a' n2 c2 hne ho => (hown r s1 l1 ho).elim⟩, fun p hp => by cases hp⟩
  rw [look_cons] at hu
  by_cases ht : t = d
  · rw [if_pos ht] at hu; cases hu
    have hr := h.slot d _ hd
    rw [ht]
    generalize tm.getD d undef = v at hr
    cases hr with
    | cl _ _ ad n hr => exact hr
  · rw [if_neg ht] at hu; simp [look_nil] at hu
attribute [local irreducible] AS.nf OpV ARun Stk QSem QSemA ACalls EffOp AppOk SrcOk Awp Aops NSem CSem
set_option maxHeartbeats 2000000
set_option maxRecDepth 100000 in
/-- Set of a name that is not there to nothing. -/
theorem set_same {N : Nat} (a : VLabel) (l : List VLabel) (nm : List UInt8) (i : Int) (hl : l.length < 400000) (h : labels_find N (a :: l) nm = some (i, false)) :
    ACalls Tryz.prog 20 [.sl false 2 (rowsL (a :: l)), .v (.string (mkB nm)), .v (.string (mkB []))] [] (fun out H => out = .ret (.sl true 2 (rowsL (a :: l))) ∧ H = []) := by
  have hf := find_a (a :: l) nm h
  refine acalls_enter _ 46 [.tmp 6] Tryz.func20 (by kernel_rfl) rfl rfl rfl rfl ?_
  dsimp only [slotsOf]
  repeat (first
    | ((first | apply ar_un); (next => (first | (simp only [go_sem, Nat.reduceBEq, Nat.reduceEqDiff, reduceIte, reduceCtorEq, String.reduceEq, Nat.reduceAdd, Int.reduceToNat]; exact rfl))))
    | (apply ar_op' rfl rfl rfl rfl; (next => (first | (refine evalE_ok (T := TT) rfl ?_; (first | exact trivial)) | fail)))
    | (refine arO _ ?_; first
     | (refine arO ⟨_, .move _, _, _, _, _⟩ ?_; first | refine ar_move_sl rfl rfl rfl rfl ?_ | fail)
     | (refine arO ⟨_, .call { callee := .value _, args := _, argTypes := _ }, _, _, _, _⟩ ?_; first
      | (apply ar_callM0 rfl (hf) rfl rfl; (next => (repeat (first | exact PArgs.nil | (apply PArgs.cons; (next => (first | exact PArg.rd rfl (Le1.refl _) rfl)))))); (next => rfl); (next => rfl); rintro _ _ ⟨rfl, rfl⟩; refine ⟨_, rfl, ?_⟩)
      | fail)
     | fail)
    | refine ar_seq ?_
    | (refine arE ?_; refine ar_endM [0, 1, 2, 6, 7, 8, 17, 28, 35] rfl ?_)
    | refine ar_region ?_
    | fail)
  have hl : l.length < 1000000 := by omega
  refine ar_eff rfl rfl (eff_call (Hp := []) (Hr := []) (clone_a _ _ (by simpa [rowsL] using hl) (rowsL_ok (a :: l))) (.cons (.rd rfl (Le1.refl _) rfl) .nil) (fun i j r hi hj => oneSome_spec (ρs := [none]) rfl i j r r hi hj) (fun _ _ _ => rfl) (fun k cs hk => by simp [look_nil] at hk) (fun k cs hk => by simp [look_nil] at hk) rfl ?_)
  rintro _ _ ⟨k, c, sp, rfl, rfl, hc⟩
  refine ⟨_, rfl, ?_⟩
  rw [List.length_map] at hc ⊢
  repeat (first
    | ((first | apply ar_un); (next => (first | (simp only [go_sem, Nat.reduceBEq, Nat.reduceEqDiff, reduceIte, reduceCtorEq, String.reduceEq, Nat.reduceAdd, Int.reduceToNat]; exact rfl))))
    | (apply ar_op' rfl rfl rfl rfl; (next => (first
     | (refine evalE_ok (T := TT) rfl ?_; (first | exact trivial))
     | (apply opk ⟨_, .binOp .neq _ _ _ _, _, _, _, _⟩; first | (refine opv_sne_f rfl rfl rfl ?_; (next => (first | rfl))) | fail)
     | (apply opk ⟨_, .pick _ _ _, _, _, _, _⟩; first | (refine opv_pickf rfl ?_ rfl; (next => (first | rfl))) | fail)
     | fail)))
    | refine ar_unwanted' rfl rfl rfl rfl ?_
    | refine ar_seq ?_
    | (refine arE ?_; refine ar_endM [0, 1, 2, 6, 7, 8, 17, 28, 35] rfl ?_)
    | refine ar_region ?_
    | refine ar_block ?_
    | refine ar_skip ?_
    | refine ar_blk ?_
    | (refine arC (.cond _ _ _) ?_; first | (refine ar_cond_false rfl ?_ ?_; (next => (first | rfl))) | fail)
    | fail
    | fail)
  have hbl : ((rowsL (a :: l)).flatten ++ sp).length = c * 2 := by
    rw [List.length_append, rowsL_len]; simp only [List.length_cons]; omega
  refine ar_ghost ?_ (fun F X tm hs => SimE.claim (k := k) (d := 6) (L := rowsL (a :: l)) hs rfl (look_h _ _ _) (isMpB_even hbl) (by simp [rowsL]) (fun r hr => (rowsL_ok _ r hr).1) rfl hbl (by omega))
  repeat (first | ((first | apply stk_un); (next => (first | (simp only [go_sem, Nat.reduceBEq, Nat.reduceEqDiff, reduceIte, reduceCtorEq, String.reduceEq, Nat.reduceAdd, Int.reduceToNat]; exact rfl)))) | (refine arC .ret ?_; refine ar_retM0 [6] ?_) | refine stk_nil ?_ | fail)
  exact ⟨_, rfl, rfl, rfl⟩
set_option maxHeartbeats 2000000
set_option maxRecDepth 100000 in
theorem set_none0 {N : Nat} (nm : List UInt8) {i : Int} (h : labels_find N [] nm = some (i, false)) :
    ACalls Tryz.prog 20 [.sl false 2 [], .v (.string (mkB nm)), .v (.string (mkB []))] [] (fun out H => out = .ret (.sl false 2 (rowsL [])) ∧ H = []) := by
  have hf := find_a [] nm h
  refine acalls_enter _ 46 [.tmp 6] Tryz.func20 (by kernel_rfl) rfl rfl rfl rfl ?_
  dsimp only [slotsOf]
  repeat (first
    | ((first | apply ar_un); (next => (first | (simp only [go_sem, Nat.reduceBEq, Nat.reduceEqDiff, reduceIte, reduceCtorEq, String.reduceEq, Nat.reduceAdd, Int.reduceToNat]; exact rfl))))
    | (apply ar_op' rfl rfl rfl rfl; (next => (first | (refine evalE_ok (T := TT) rfl ?_; (first | exact trivial)) | fail)))
    | (refine arO _ ?_; first
     | (refine arO ⟨_, .move _, _, _, _, _⟩ ?_; first | refine ar_move_sl rfl rfl rfl rfl ?_ | fail)
     | (refine arO ⟨_, .call { callee := .value _, args := _, argTypes := _ }, _, _, _, _⟩ ?_; first
      | (apply ar_callM0 rfl (hf) rfl rfl; (next => (repeat (first | exact PArgs.nil | (apply PArgs.cons; (next => (first | exact PArg.rd rfl (Le1.refl _) rfl)))))); (next => rfl); (next => rfl); rintro _ _ ⟨rfl, rfl⟩; refine ⟨_, rfl, ?_⟩)
      | fail)
     | fail)
    | refine ar_seq ?_
    | (refine arE ?_; refine ar_endM [0, 1, 2, 6, 7, 8, 17, 28, 35] rfl ?_)
    | refine ar_region ?_
    | fail)
  refine ar_eff rfl rfl (eff_call (Hp := []) (Hr := []) clone0_a (.cons (.rd rfl (Le1.refl _) rfl) .nil) (fun i j r hi hj => oneSome_spec (ρs := [none]) rfl i j r r hi hj) (fun _ _ _ => rfl) (fun k cs hk => by simp [look_nil] at hk) (fun k cs hk => by simp [look_nil] at hk) rfl ?_)
  rintro _ _ ⟨u, rfl, hu, rfl⟩
  refine ⟨_, rfl, ?_⟩
  rcases hu with rfl | rfl
  · repeat (first
    | ((first | apply ar_un); (next => (first | (simp only [go_sem, Nat.reduceBEq, Nat.reduceEqDiff, reduceIte, reduceCtorEq, String.reduceEq, Nat.reduceAdd, Int.reduceToNat]; exact rfl))))
    | (apply ar_op' rfl rfl rfl rfl; (next => (first
     | (refine evalE_ok (T := TT) rfl ?_; (first | exact trivial))
     | (apply opk ⟨_, .binOp .neq _ _ _ _, _, _, _, _⟩; first | (refine opv_sne_f rfl rfl rfl ?_; (next => (first | rfl))) | fail)
     | (apply opk ⟨_, .pick _ _ _, _, _, _, _⟩; first | (refine opv_pickf rfl ?_ rfl; (next => (first | rfl))) | fail)
     | fail)))
    | refine ar_unwanted' rfl rfl rfl rfl ?_
    | refine ar_seq ?_
    | (refine arE ?_; refine ar_endM [0, 1, 2, 6, 7, 8, 17, 28, 35] rfl ?_)
    | refine ar_region ?_
    | refine ar_block ?_
    | refine ar_skip ?_
    | refine ar_blk ?_
    | (refine arC (.cond _ _ _) ?_; first | (refine ar_cond_false rfl ?_ ?_; (next => (first | rfl))) | fail)
    | fail
    | fail)
    refine ar_le (σ' := ⟨46, [(6, .sl false 2 [])], [], []⟩) ⟨rfl, ?_, ?_, rfl⟩ ?_
    · (repeat' (first | exact trivial | refine ⟨⟨_, rfl, ?_⟩, ?_⟩ | exact .nil _ _))
    · (repeat' (first | exact trivial))
    repeat (first | ((first | apply stk_un); (next => (first | (simp only [go_sem, Nat.reduceBEq, Nat.reduceEqDiff, reduceIte, reduceCtorEq, String.reduceEq, Nat.reduceAdd, Int.reduceToNat]; exact rfl)))) | (refine arC .ret ?_; refine ar_retM0 [6] ?_) | refine stk_nil ?_ | fail)
    exact ⟨_, rfl, rfl, rfl⟩
  · repeat (first
    | ((first | apply ar_un); (next => (first | (simp only [go_sem, Nat.reduceBEq, Nat.reduceEqDiff, reduceIte, reduceCtorEq, String.reduceEq, Nat.reduceAdd, Int.reduceToNat]; exact rfl))))
    | (apply ar_op' rfl rfl rfl rfl; (next => (first
     | (refine evalE_ok (T := TT) rfl ?_; (first | exact trivial))
     | (apply opk ⟨_, .binOp .neq _ _ _ _, _, _, _, _⟩; first | (refine opv_sne_f rfl rfl rfl ?_; (next => (first | rfl))) | fail)
     | (apply opk ⟨_, .pick _ _ _, _, _, _, _⟩; first | (refine opv_pickf rfl ?_ rfl; (next => (first | rfl))) | fail)
     | fail)))
    | refine ar_unwanted' rfl rfl rfl rfl ?_
    | refine ar_seq ?_
    | (refine arE ?_; refine ar_endM [0, 1, 2, 6, 7, 8, 17, 28, 35] rfl ?_)
    | refine ar_region ?_
    | refine ar_block ?_
    | refine ar_skip ?_
    | refine ar_blk ?_
    | (refine arC (.cond _ _ _) ?_; first | (refine ar_cond_false rfl ?_ ?_; (next => (first | rfl))) | fail)
    | fail
    | fail)
    refine ar_sub ?_ (fun F X tm hs => SimE.cl0 (d := 6) hs rfl)
    repeat (first | ((first | apply stk_un); (next => (first | (simp only [go_sem, Nat.reduceBEq, Nat.reduceEqDiff, reduceIte, reduceCtorEq, String.reduceEq, Nat.reduceAdd, Int.reduceToNat]; exact rfl)))) | (refine arC .ret ?_; refine ar_retM0 [6] ?_) | refine stk_nil ?_ | fail)
    exact ⟨_, rfl, rfl, rfl⟩
end Go.Proofs.YtgmlkhfjhogdbaaGreat

/- labels.Set, as a callee. -/
namespace Go.Proofs.YtgmlkhfjhogdbaaGreat
open Go.RowKit P
set_option linter.unusedSimpArgs false
set_option linter.unusedVariables false
theorem acalls_rd {P : Program} {f : FuncId} {us : List AV} {o : Bool} {sz : Nat} {l : List (List AV)} (h : ACalls P f us [] (fun out H => out = .ret (.sl o sz l) ∧ H = [])) : ACalls P f us [] (fun out H => out = .ret (.sl false sz l) ∧ H = []) :=
  ⟨h.1, fun F X vs hs => (h.2 F X vs hs).mono fun e w' ⟨X', out, H', h1, ⟨h2, h3⟩, h4, h5⟩ => by
    subst h2
    subst h3
    obtain ⟨v, k1, k2⟩ := h4
    exact ⟨X', _, [], h1, ⟨rfl, rfl⟩, ⟨v, k1, k2.le ⟨rfl, ⟨⟨_, look_hd, .rd _ _ _⟩, trivial⟩, trivial, rfl⟩⟩, h5⟩⟩
/-- What Set answers, with the place of the name and whether it is there. -/
def setL (l : List VLabel) (nm v : List UInt8) (i : Nat) (ok : Bool) : List VLabel := match ok with
  | true => if v = [] then l.take i ++ l.drop (i + 1) else l.take i ++ ⟨(l.getD i ⟨[], []⟩).Name, v⟩ :: l.drop (i + 1)
  | false => if v = [] then l else l.take i ++ ⟨nm, v⟩ :: l.drop i
def b2n : Bool → Nat
  | true => 1
  | false => 0
def labels_Set (N : Nat) (l : List VLabel) (nm v : List UInt8) : Option (List VLabel) := match labels_find N l nm with
  | none => none
  | some (i, ok) => if 0 ≤ i ∧ i.toNat + b2n ok ≤ l.length ∧ l.length < 400000 then some (setL l nm v i.toNat ok) else none
attribute [local irreducible] ACalls
theorem set_call {N : Nat} (l : List VLabel) (nm v : List UInt8) {r : List VLabel} (h : labels_Set N l nm v = some r) : ACalls Tryz.prog 20 [.sl false 2 (rowsL l), .v (.string (mkB nm)), .v (.string (mkB v))] [] (fun out H => out = .ret (.sl false 2 (rowsL r)) ∧ H = []) := by
  unfold labels_Set at h
  split at h
  · cases h
  · rename_i i ok hf
    split at h
    · rename_i hi
      obtain ⟨h0, h1, h2⟩ := hi
      cases h
      obtain ⟨n, rfl⟩ := Int.eq_ofNat_of_zero_le h0
      rw [Int.toNat_natCast] at h1 ⊢
      cases ok with
      | true =>
        simp only [b2n] at h1
        cases l with
        | nil => simp at h1
        | cons a l =>
          simp only [List.length_cons] at h1 h2
          by_cases hv : v = []
          · subst hv
            have := acalls_rd (set_del a l nm n (by omega) (by omega) hf)
            simpa only [setL, if_true] using this
          · have hn : n < (a :: l).length := by simp only [List.length_cons]; omega
            have := acalls_rd (set_put a l nm v n hn (by omega) hf hv)
            simp only [setL, if_neg hv, List.getD_eq_getElem?_getD, List.getElem?_eq_getElem hn, Option.getD_some]
            exact this
      | false =>
        simp only [b2n] at h1
        cases l with
        | nil =>
          have hn : n = 0 := by simpa using h1
          subst hn
          by_cases hv : v = []
          · subst hv
            have e : setL ([] : List VLabel) nm [] 0 false = [] := by simp only [setL, if_true]
            rw [e]
            exact set_none0 nm hf
          · have := acalls_rd (set_none nm v hf hv)
            simp only [setL, if_neg hv, List.take_nil, List.drop_nil, List.nil_append]
            exact this
        | cons a l =>
          simp only [List.length_cons] at h1 h2
          by_cases hv : v = []
          · subst hv
            have := acalls_rd (set_same a l nm _ (by omega) hf)
            simpa only [setL, if_true] using this
          · have := acalls_rd (set_ins a l nm v n (by omega) (by omega) hf hv)
            simp only [setL, if_neg hv]
            exact this
    · cases h
def labels_Set_u (r : List VLabel) : TV EE.T := .a (.d (.sl (.nam 2)) r)
def labels_Set_h (N : Nat) : List (TV EE.T) → PV EE.T
  | [u0, u1, u2] => match argD (.sl (.nam 2)) u0, argD .str u1, argD .str u2 with
    | some x0, some x1, some x2 => .opt (labels_Set N x0 x1 x2) labels_Set_u
    | _, _, _ => .bad
  | _ => .bad
theorem labels_Set_hok (N : Nat) (us : List (TV EE.T)) : (labels_Set_h N us).ok fun u => ∀ ρ, ACalls Tryz.prog 20 (us.map (TV.to EE.toEnc ρ)) [] (fun out H => out = .ret (u.to EE.toEnc ρ) ∧ H = []) := by
  unfold labels_Set_h
  split
  · split
    · rename_i u0 u1 u2 _ _ _ x0 x1 x2 h0 h1 h2
      intro z hz ρ
      refine acalls_le (us' := ([.a (.d (.sl (.nam 2)) x0), .a (.d .str x1), .a (.d .str x2)] : List (TV EE.T))) ⟨argD_le h0 ρ, argD_le h1 ρ, argD_le h2 ρ, trivial⟩ ?_
      exact set_call x0 x1 x2 hz
    · trivial
  · trivial
end Go.Proofs.YtgmlkhfjhogdbaaGreat

/- Plain functions, written by gen/tgl.py out of the program. -/
namespace Go.Proofs.YtgmlkhfjhogdbaaGreat
open Go.RowKit P
set_option linter.unusedVariables false
set_option linter.unusedSimpArgs false
set_option maxRecDepth 100000
/-! ### gleaner/labels.With -/
def labels_With (N : Nat) (x0 : List VLabel) (x1 : List UInt8) (x2 : List UInt8) : Option ((List VLabel) × Int) :=
  (labels_check N ([x0] : List (List VLabel))).bind fun z1 =>
  bif z1 != 0 then
    some (([] : List VLabel), z1)
  else
    (labels_IsName N x1).bind fun z2 =>
    bif !z2 then
      some (([] : List VLabel), 1)
    else
      bif decide ((x2.length : Int) > 100) then
        some (([] : List VLabel), 2)
      else
        (labels_Set N x0 x1 x2).bind fun z3 =>
        bif decide ((z3.length : Int) > 20) then
          some (([] : List VLabel), 2)
        else
          some (z3, 0)
/-! ### gleaner/labels.sum -/
def labels_sum_L2 (N : Nat) : Nat → Int → (List UInt8) → Int → Int → Option Int
  | 0, _, _, _, _ => none
  | n + 1, x0, x10, x11, x12 =>
    bif decide (x12 < x11) then
      (idxC x10 x12).bind fun z2 =>
      labels_sum_L2 N n (IntKind.wrap .u64 ((bits .xor .u64 x0 (IntKind.wrap .u64 (b2i z2))) * 1099511628211)) x10 x11 (w64 (x12 + 1))
    else
      some x0
def labels_sum (N : Nat) (x0 : Int) (x1 : List UInt8) : Option Int :=
  (appC 1 x1 ([255] : List UInt8)).bind fun z1 =>
  labels_sum_L2 N N x0 z1 (z1.length : Int) 0
/-! ### gleaner/labels.RawSum -/
def labels_RawSum_L3 (N : Nat) : Nat → Int → (List VLabel) → Int → Int → Option Int
  | 0, _, _, _, _ => none
  | n + 1, x3, x6, x7, x8 =>
    bif decide (x8 < x7) then
      (idxC x6 x8).bind fun z1 =>
      (labels_sum N x3 z1.Name).bind fun z2 =>
      (labels_sum N z2 z1.Value).bind fun z3 =>
      labels_RawSum_L3 N n z3 x6 x7 (w64 (x8 + 1))
    else
      some x3
def labels_RawSum (N : Nat) (x0 : List VLabel) : Option Int :=
  labels_RawSum_L3 N N 14695981039346656037 x0 (x0.length : Int) 0
/-! ### gleaner/labels.Sum -/
def labels_Sum (N : Nat) (x0 : List VLabel) : Option (Int × Int) :=
  (labels_check N ([x0] : List (List VLabel))).bind fun z1 =>
  bif z1 != 0 then
    some (0, z1)
  else
    (labels_RawSum N x0).bind fun z2 =>
    some (z2, 0)
/-! ### gleaner/gleanerlaw.labelsBegun -/
def law_labelsBegun (N : Nat) : Option Bool :=
  (labels_Text N ([({ Name := ([95, 95, 110, 97, 109, 101, 95, 95] : List UInt8), Value := ([117, 112] : List UInt8) } : VLabel), ({ Name := ([106, 111, 98] : List UInt8), Value := ([120] : List UInt8) } : VLabel)] : List VLabel)).bind fun z1 =>
  (labels_Sum N ([] : List VLabel)).bind fun z2 =>
  bif z1.2 == 0 then
    bif decide (z1.1 = ([117, 112, 123, 106, 111, 98, 61, 34, 120, 34, 125] : List UInt8)) then
      bif z2.2 == 0 then
        some (z2.1 == 14695981039346656037)
      else
        some false
    else
      some false
  else
    some false
/-! ### gleaner/gleanerlaw.LabelsWith -/
/-! ### gleaner/gleanerlaw.LabelsBack -/
def law_LabelsBack (N : Nat) (x0 : List VLabel) (x1 : List UInt8) (x2 : List UInt8) (x3 : List UInt8) : Option Bool :=
  (law_labelsBegun N).bind fun z1 =>
  bif !z1 then
    some false
  else
    (labels_Get N x0 x1).bind fun z2 =>
    bif z2.2 != 0 then
      some true
    else
      (labels_With N x0 x1 ([] : List UInt8)).bind fun z3 =>
      (labels_With N z3.1 x1 z2.1).bind fun z4 =>
      bif z3.2 != 0 then
        some false
      else
        bif z4.2 != 0 then
          some false
        else
          (ref_SameLabels N z4.1 x0).bind fun z5 =>
          bif !z5 then
            some false
          else
            (labels_With N x0 x1 x2).bind fun z6 =>
            bif z6.2 != 0 then
              some true
            else
              (labels_Get N z6.1 x1).bind fun z7 =>
              bif z7.2 != 0 then
                some false
              else
                bif !decide (z7.1 = x2) then
                  some false
                else
                  (labels_Check N z6.1).bind fun z8 =>
                  bif z8 != 0 then
                    some false
                  else
                    (labels_Get N x0 x3).bind fun z9 =>
                    (labels_Get N z6.1 x3).bind fun z10 =>
                    bif z9.2 == z10.2 then
                      bif decide (x3 = x1) then
                        some true
                      else
                        some (decide (z9.1 = z10.1))
                    else
                      some false
end Go.Proofs.YtgmlkhfjhogdbaaGreat

/- What the plain functions come to, if there is fuel enough: labels, shards. -/
namespace Go.Proofs.YtgmlkhfjhogdbaaGreat
open Go.RowKit P
set_option linter.unusedVariables false
set_option linter.unusedSimpArgs false

/-- With fuel enough. -/
def Ev {α : Type} (f : Nat → Option α) (v : α) : Prop := ∃ N0, ∀ N, N0 ≤ N → f N = some v
theorem Ev.mk {α : Type} {f : Nat → Option α} {v : α} (h : ∀ N, f N = some v) : Ev f v := ⟨0, fun N _ => h N⟩
theorem Ev.bind {α β : Type} {a : Nat → Option α} {k : Nat → α → Option β} {x : α} {v : β} (h1 : Ev a x) (h2 : Ev (fun N => k N x) v) : Ev (fun N => (a N).bind (k N)) v := by
  obtain ⟨N1, h1⟩ := h1
  obtain ⟨N2, h2⟩ := h2
  exact ⟨max N1 N2, fun N hN => by simp only [h1 N (by omega), Option.bind_some]; exact h2 N (by omega)⟩
theorem Ev.one {α : Type} {f : Nat → Option α} {v : α} (h : Ev f v) : ∃ N, f N = some v := let ⟨N, h⟩ := h; ⟨N, h N (Nat.le_refl _)⟩

/-! ### Lists and numbers -/
theorem idxC_cat {α : Type} (p : List α) (z : α) (r : List α) : idxC (p ++ z :: r) (p.length : Int) = some z := by
  unfold idxC
  rw [if_pos (by omega)]
  simp
theorem idxC_get {α : Type} {l : List α} {i : Nat} (h : i < l.length) : idxC l (i : Int) = some l[i] := by
  unfold idxC
  rw [if_pos (by omega)]
  simp [h]
theorem w64_id {n : Int} (h1 : -9223372036854775808 ≤ n) (h2 : n < 9223372036854775808) : w64 n = n := by
  unfold w64
  rw [IntKind.wrap_i64]; omega
theorem w64_next {α : Type} (p : List α) (z : α) (h : p.length + 1 < 9223372036854775808) : w64 ((p.length : Int) + 1) = ((p ++ [z]).length : Int) := by
  rw [w64_id (by omega) (by omega)]; simp
theorem cat_next {α : Type} (p : List α) (z : α) (r : List α) : p ++ z :: r = (p ++ [z]) ++ r := by simp
theorem lt_cat {α : Type} (p : List α) (z : α) (r : List α) : decide ((p.length : Int) < ((p ++ z :: r).length : Int)) = true := by
  simp; omega
theorem lt_end {α : Type} (p : List α) : decide ((p.length : Int) < ((p ++ ([] : List α)).length : Int)) = false := by simp

/-! ### Names -/
theorem isName_ev (s : List UInt8) (hs : s.length < 140737488355328) (N : Nat) : labels_IsName N s = some (isNameL s) := by unfold labels_IsName; rw [if_pos hs]

/-! ### Each label -/
def WLab (l : List VLabel) : Prop := l.length < 140737488355328 ∧ ∀ z ∈ l, z.Name.length < 140737488355328 ∧ z.Value.length < 140737488355328
def eachF (e : Bool) : List VLabel → Option Int
  | [] => none
  | z :: r => if isNameL z.Name = false then some 1 else if z.Value = [] ∧ e = false then some 1 else if z.Value.length > 100 then some 2 else eachF e r
def dupP : List VLabel → List VLabel → Bool
  | _, [] => false
  | p, z :: r => p.any (fun y => decide (y.Name = z.Name)) || dupP (p ++ [z]) r
def eachB (e : Bool) (l : List VLabel) : Int := if l.length > 20 then 2 else (eachF e l).getD (if dupP [] l then 6 else 0)
theorem mget_mset {α : Type} (k k' : List UInt8) (u : α) : ∀ (m : List (List UInt8 × α)), mget (mset m k u) k' = if k' = k then some u else mget m k'
  | [] => by simp [mset, mget]
  | (a, b) :: m => by
    have ih := mget_mset k k' u m
    unfold mset
    by_cases h : k = a
    · subst h
      rw [if_pos rfl]
      unfold mget
      by_cases h2 : k' = k
      · simp [h2]
      · simp [h2]
    · rw [if_neg h]
      unfold mget
      by_cases h2 : k' = a
      · subst h2
        have : ¬ k' = k := fun e => h e.symm
        simp [this]
      · simp only [if_neg h2, ih]
theorem each14_is (N : Nat) : ∀ (r p : List VLabel) (n : Nat) (m : List (List UInt8 × Bool)), r.length < n → (p ++ r).length < 140737488355328 → (∀ k, (mget m k).getD false = p.any (fun y => decide (y.Name = k))) → labels_each_L14 N n (p ++ r) ((p ++ r).length : Int) (p.length : Int) m = some (if dupP p r then 6 else 0)
  | [], p, 0, _, h, _, _ => by simp at h
  | c :: r, p, 0, _, h, _, _ => by simp at h
  | [], p, n + 1, m, h, hl, hm => by
    unfold labels_each_L14
    rw [lt_end]; rfl
  | c :: r, p, n + 1, m, h, hl, hm => by
    have hp : p.length + 1 < 9223372036854775808 := by simp at hl; omega
    unfold labels_each_L14
    rw [lt_cat, cond_true, idxC_cat, Option.bind_some, hm, w64_next p c hp]
    simp only [dupP]
    by_cases hd : p.any (fun y => decide (y.Name = c.Name)) = true
    · simp only [hd, cond_true, Bool.true_or, if_true]
    · rw [Bool.not_eq_true] at hd
      simp only [hd, cond_false, Bool.false_or]
      have ih := each14_is N r (p ++ [c]) n (mset m c.Name true) (by simp at h; omega) (by simpa using hl) (fun k => by
        rw [mget_mset, List.any_append, List.any_cons, List.any_nil, Bool.or_false]
        by_cases hk : k = c.Name
        · subst hk; simp
        · rw [if_neg hk, hm]
          have : decide (c.Name = k) = false := by simp; exact fun e => hk e.symm
          rw [this, Bool.or_false])
      rw [← cat_next] at ih
      exact ih
theorem each4_is (N : Nat) (e : Bool) : ∀ (r p : List VLabel) (n : Nat), r.length + (p ++ r).length + 1 < n → WLab (p ++ r) → labels_each_L4 N n (p ++ r) e (p ++ r) ((p ++ r).length : Int) (p.length : Int) = some ((eachF e r).getD (if dupP [] (p ++ r) then 6 else 0))
  | r, p, 0, h, _ => by omega
  | [], p, n + 1, h, hw => by
    unfold labels_each_L4
    rw [lt_end, cond_false]
    have := each14_is N (p ++ []) [] n [] (by simp only [List.length_nil, List.append_nil] at h ⊢; omega) hw.1 (fun k => by simp [mget])
    simpa [eachF] using this
  | z :: r, p, n + 1, h, hw => by
    have hp : p.length + 1 < 9223372036854775808 := by have := hw.1; simp only [List.length_append, List.length_cons] at this; omega
    have hz := hw.2 z (by simp)
    have ih := each4_is N e r (p ++ [z]) n (by rw [← cat_next]; simp only [List.length_cons] at h; omega) (by rw [← cat_next]; exact hw)
    rw [← cat_next] at ih
    unfold labels_each_L4
    rw [lt_cat, cond_true, idxC_cat, Option.bind_some, isName_ev _ hz.1, Option.bind_some]
    unfold labels_each_R9
    rw [w64_next p z hp, ih]
    simp only [eachF]
    cases h1 : isNameL z.Name with
    | false => simp
    | true =>
      by_cases h5 : z.Value.length > 100
      · have h6 : decide ((z.Value.length : Int) > 100) = true := by simp; omega
        by_cases h3 : z.Value = []
        · rw [h3] at h5; simp at h5
        · simp [h3, h6, h5]
      · have h6 : decide ((z.Value.length : Int) > 100) = false := by simp; omega
        by_cases h3 : z.Value = []
        · cases e <;> simp [h3]
        · simp [h3, h6, h5]
theorem eachB_ev (e : Bool) (l : List VLabel) (hw : WLab l) : Ev (fun N => labels_each N l e) (eachB e l) := ⟨2 * l.length + 2, fun N hN => by
  show labels_each N l e = _
  unfold labels_each eachB
  by_cases h : l.length > 20
  · have : decide ((l.length : Int) > 20) = true := by simp; omega
    rw [this]; simp [h]
  · have : decide ((l.length : Int) > 20) = false := by simp; omega
    have h4 := each4_is N e l [] N (by simp only [List.nil_append]; omega) (by simpa using hw)
    rw [this, cond_false, if_neg h]
    simpa using h4⟩
/-! the reference -/
end Go.Proofs.YtgmlkhfjhogdbaaGreat

/- What the plain functions come to: labels and shards, checked. -/
namespace Go.Proofs.YtgmlkhfjhogdbaaGreat
open Go.RowKit P
set_option linter.unusedVariables false
set_option linter.unusedSimpArgs false

def adjB : List VLabel → Bool
  | a :: b :: r => !Op.bytesLess b.Name a.Name && adjB (b :: r)
  | _ => true
theorem adjB_snoc : ∀ (p : List VLabel) (a b : VLabel), adjB (p ++ [a, b]) = (adjB (p ++ [a]) && !Op.bytesLess b.Name a.Name)
  | [], a, b => by simp [adjB]
  | [x], a, b => by simp [adjB, Bool.and_assoc]
  | x :: y :: p, a, b => by
    have ih := adjB_snoc (y :: p) a b
    simp only [List.cons_append] at ih ⊢
    simp only [adjB, ih, Bool.and_assoc]
theorem byName_is (N : Nat) (a b : VLabel) : (labels_byName N a b).bind (fun z => some (decide (z < 0))) = some (Op.bytesLess a.Name b.Name) := by
  unfold labels_byName cmp_Compare_string_ cmp_isNaN_string_
  simp only [Option.bind_some, decide_true, Bool.not_true, cond_false]
  cases Op.bytesLess a.Name b.Name with
  | true => simp
  | false =>
    simp only [cond_false, Bool.false_or]
    by_cases h : a.Name = b.Name
    · simp [h]
    · simp [h]
theorem byName_get (N : Nat) (a b : VLabel) : ∃ z, labels_byName N a b = some z ∧ decide (z < 0) = Op.bytesLess a.Name b.Name := by
  have h := byName_is N a b
  cases hz : labels_byName N a b with
  | none => rw [hz] at h; cases h
  | some z => rw [hz] at h; exact ⟨z, rfl, by simpa using h⟩
theorem sorted_loop (N : Nat) (l : List VLabel) (hl : l.length < 140737488355328) : ∀ (i n : Nat), i < n → i < l.length → slices_IsSortedFunc_api_Label_api_Label__i0_L2 N n l (i : Int) = some (adjB (l.take (i + 1)))
  | i, 0, h, _ => by omega
  | 0, n + 1, _, hi => by
    unfold slices_IsSortedFunc_api_Label_api_Label__i0_L2
    cases l with
    | nil => simp at hi
    | cons a l => simp [adjB]
  | i + 1, n + 1, h, hi => by
    have ih := sorted_loop N l hl i n (by omega) (by omega)
    obtain ⟨z, hz1, hz2⟩ := byName_get N (l[i + 1]'hi) (l[i]'(by omega))
    unfold slices_IsSortedFunc_api_Label_api_Label__i0_L2
    have h1 : decide (((i + 1 : Nat) : Int) > 0) = true := decide_eq_true (by omega)
    have h2 : w64 (((i + 1 : Nat) : Int) - 1) = (i : Int) := by rw [w64_id (by omega) (by omega)]; omega
    rw [h1, cond_true, idxC_get hi, Option.bind_some, h2, idxC_get (by omega), Option.bind_some, hz1, Option.bind_some, hz2, ih]
    have h3 : l.take (i + 1 + 1) = l.take i ++ [l[i]'(by omega), l[i + 1]'hi] := by
      rw [List.take_succ_eq_append_getElem hi, List.take_succ_eq_append_getElem (by omega : i < l.length), List.append_assoc]; rfl
    have h4 : l.take (i + 1) = l.take i ++ [l[i]'(by omega)] := List.take_succ_eq_append_getElem (by omega)
    rw [h3, adjB_snoc, ← h4]
    cases Op.bytesLess (l[i + 1]'hi).Name (l[i]'(by omega)).Name <;> simp
theorem sorted_ev (l : List VLabel) (hl : l.length < 140737488355328) : Ev (fun N => slices_IsSortedFunc_api_Label_api_Label__i0 N l) (adjB l) := ⟨l.length + 1, fun N hN => by
  show slices_IsSortedFunc_api_Label_api_Label__i0 N l = _
  unfold slices_IsSortedFunc_api_Label_api_Label__i0
  cases l with
  | nil =>
    have : w64 ((([] : List VLabel).length : Int) - 1) = -1 := by rw [w64_id] <;> simp
    rw [this]
    cases N with
    | zero => omega
    | succ n =>
      unfold slices_IsSortedFunc_api_Label_api_Label__i0_L2
      simp [adjB]
  | cons a l =>
    have : w64 ((((a :: l).length : Nat) : Int) - 1) = (l.length : Int) := by
      have h1 : ((a :: l).length : Int) = (l.length : Int) + 1 := by simp
      rw [w64_id (by simp only [List.length_cons] at hl; omega) (by simp only [List.length_cons] at hl; omega)]; omega
    rw [this, sorted_loop N (a :: l) hl l.length N (by simp only [List.length_cons] at hN; omega) (by simp)]
    simp⟩
def chkL (l : List VLabel) : Int := if eachB false l = 0 then (if adjB l then 0 else 4) else eachB false l
theorem check_ev (l : List VLabel) (hw : WLab l) : Ev (fun N => labels_Check N l) (chkL l) := by
  obtain ⟨N1, h1⟩ := eachB_ev false l hw
  obtain ⟨N2, h2⟩ := sorted_ev l hw.1
  refine ⟨max N1 N2, fun N hN => ?_⟩
  show labels_Check N l = _
  have h1 := h1 N (by omega)
  have h2 := h2 N (by omega)
  simp only at h1 h2
  unfold labels_Check chkL
  rw [h1, Option.bind_some, h2, Option.bind_some]
  by_cases h : eachB false l = 0
  · rw [if_pos h, h]; cases adjB l <;> simp
  · rw [if_neg h]
    have : (eachB false l != 0) = true := by simpa using h
    rw [this]; rfl
end Go.Proofs.YtgmlkhfjhogdbaaGreat

/- The walks that prove plain functions right, written by gen/tgl.py. -/
namespace Go.Proofs.YtgmlkhfjhogdbaaGreat
open Go.RowKit P
set_option linter.unusedVariables false
set_option linter.unusedSimpArgs false
set_option maxRecDepth 100000
/-! ### gleaner/labels.With -/
def labels_With_u (r : (List VLabel) × Int) : TV EE.T := .tu [.a (.d (.sl (.nam 2)) r.1), .a (.d (.int .i64) r.2)]
def w6enc (r : (List VLabel) × Int) : RL EE.T := .ret (labels_With_u r) []
def w6lv : Lvs := ⟨[], [], [], [], false, [], []⟩
def w6rs : List ResultVar := [.tmp 6, .tmp 7]
def w6G (N : Nat) : Gam EE := ⟨[⟨19, labels_IsName_h N⟩, ⟨20, labels_Set_h N⟩, ⟨18, labels_check_h N⟩], EQT, [], []⟩
theorem w6Gok (N : Nat) : GOk Tryz.prog TT EE (w6G N) := GOk.cons (labels_IsName_hok N) (GOk.cons (labels_Set_hok N) (GOk.cons (labels_check_hok N) (GOk.nil EQT_ok)))
def w6kE0 (c : Code) : List It2 := [.c c]
def w6sE0 (x0 : List VLabel) (x1 : List UInt8) (x2 : List UInt8) : TS EE.T := ⟨29, [(0, .a (.d (.sl (.nam 2)) x0)), (1, .a (.d .str x1)), (2, .a (.d .str x2))], [], []⟩
def w6TE0 (c : Code) (N : Nat) (x0 : List VLabel) (x1 : List UInt8) (x2 : List UInt8) : Tree (Lf EE.T × Option ((List VLabel) × Int)) :=
  .bnd (labels_check N ([x0] : List (List VLabel))) fun z1 =>
  .cond (z1 != 0)
  (
    .leaf (.done (w6enc (([] : List VLabel), z1)), some (([] : List VLabel), z1)))
  (
    .bnd (labels_IsName N x1) fun z2 =>
    .cond (!z2)
    (
      .leaf (.done (w6enc (([] : List VLabel), 1)), some (([] : List VLabel), 1)))
    (
      .cond (decide ((x2.length : Int) > 100))
      (
        .leaf (.done (w6enc (([] : List VLabel), 2)), some (([] : List VLabel), 2)))
      (
        .bnd (labels_Set N x0 x1 x2) fun z3 =>
        .cond (decide ((z3.length : Int) > 20))
        (
          .leaf (.done (w6enc (([] : List VLabel), 2)), some (([] : List VLabel), 2)))
        (
          .leaf (.done (w6enc (z3, 0)), some (z3, 0))))))
theorem w6vE0 (N : Nat) (x0 : List VLabel) (x1 : List UInt8) (x2 : List UInt8) : evM TT EE (w6G N) w6lv w6rs 4000 true (w6kE0 (bodyOf 0 Tryz.f6)) (w6sE0 x0 x1 x2) = (w6TE0 (bodyOf 0 Tryz.f6) N x0 x1 x2).map1 := by kernel_rfl
theorem w6nE0 (N : Nat) (x0 : List VLabel) (x1 : List UInt8) (x2 : List UInt8) : labels_With N x0 x1 x2 = (w6TE0 (bodyOf 0 Tryz.f6) N x0 x1 x2).run := by kernel_rfl
theorem w6oE0 {N : Nat} {r : (List VLabel) × Int} (x0 : List VLabel) (x1 : List UInt8) (x2 : List UInt8) (h : labels_With N x0 x1 x2 = some r) : Ends (Y := TT) EE (w6G N) w6lv w6rs (fun u => u = w6enc r) (w6kE0 (bodyOf 0 Tryz.f6)) (w6sE0 x0 x1 x2) :=
  tree_use (w6vE0 N x0 x1 x2) (w6nE0 N x0 x1 x2) h (show (w6TE0 (bodyOf 0 Tryz.f6) N x0 x1 x2).all _ from fun _ => ⟨retp (enc := w6enc) rfl, fun _ => ⟨retp (enc := w6enc) rfl, ⟨retp (enc := w6enc) rfl, fun _ => ⟨retp (enc := w6enc) rfl, retp (enc := w6enc) rfl⟩⟩⟩⟩)
theorem labels_With_ok {N : Nat} (x0 : List VLabel) (x1 : List UInt8) (x2 : List UInt8) {r : (List VLabel) × Int} (h : labels_With N x0 x1 x2 = some r) (ρ : Nat → Nat) : ACalls Tryz.prog 6 (([.a (.d (.sl (.nam 2)) x0), .a (.d .str x1), .a (.d .str x2)] : List (TV EE.T)).map (TV.to EE.toEnc ρ)) [] (fun out H => out = .ret ((labels_With_u r).to EE.toEnc ρ) ∧ H = []) :=
  (fn_ok (bodyOf 0 Tryz.f6) 29 mixed (w6Gok N) Tryz.func6 (by kernel_rfl) rfl rfl rfl rfl (w6oE0 x0 x1 x2 h) ρ).mono fun out H h => KPost.ret rfl h
def labels_With_h (N : Nat) : List (TV EE.T) → PV EE.T
  | [u0, u1, u2] => match argD (.sl (.nam 2)) u0, argD .str u1, argD .str u2 with
    | some x0, some x1, some x2 => .opt (labels_With N x0 x1 x2) labels_With_u
    | _, _, _ => .bad
  | _ => .bad
theorem labels_With_hok (N : Nat) (us : List (TV EE.T)) : (labels_With_h N us).ok fun u => ∀ ρ, ACalls Tryz.prog 6 (us.map (TV.to EE.toEnc ρ)) [] (fun out H => out = .ret (u.to EE.toEnc ρ) ∧ H = []) := by
  unfold labels_With_h
  split
  · split
    · rename_i h0 h1 h2
      intro z hz ρ; refine acalls_le ?_ (labels_With_ok _ _ _ hz ρ); exact ⟨argD_le h0 ρ, argD_le h1 ρ, argD_le h2 ρ, trivial⟩
    · trivial
  · trivial
/-! ### gleaner/labels.sum -/
def labels_sum_u (r : Int) : TV EE.T := .a (.d (.int .u64) r)
def w53enc (r : Int) : RL EE.T := .ret (labels_sum_u r) []
def w53lv : Lvs := ⟨[], [(2, ⟨[(0, false), (10, false), (11, false), (12, false)], [], []⟩)], [], [], false, [], []⟩
def w53rs : List ResultVar := [.tmp 4]
def w53G (N : Nat) : Gam EE := ⟨[], EQT, [], []⟩
theorem w53Gok (N : Nat) : GOk Tryz.prog TT EE (w53G N) := GOk.nil EQT_ok
def w53kL2 (c : Code) : List It2 := atL 2 c
def w53sL2 (x0 : Int) (x10 : List UInt8) (x11 : Int) (x12 : Int) : TS EE.T := ⟨23, [(0, .a (.d (.int .u64) x0)), (10, .a (.own .byte x10)), (11, .a (.d (.int .i64) x11)), (12, .a (.d (.int .i64) x12))], [], []⟩
def w53kE0 (c : Code) : List It2 := [.c c]
def w53sE0 (x0 : Int) (x1 : List UInt8) : TS EE.T := ⟨23, [(0, .a (.d (.int .u64) x0)), (1, .a (.d .str x1))], [], []⟩
def w53TL2 (c : Code) (N : Nat) (n : Nat) (x0 : Int) (x10 : List UInt8) (x11 : Int) (x12 : Int) : Tree (Lf EE.T × Option Int) :=
  .cond (decide (x12 < x11))
  (
    .bnd (idxC x10 x12) fun z2 =>
    .leaf (.go (w53kL2 c) (w53sL2 (IntKind.wrap .u64 ((bits .xor .u64 x0 (IntKind.wrap .u64 (b2i z2))) * 1099511628211)) x10 x11 (w64 (x12 + 1))), labels_sum_L2 N n (IntKind.wrap .u64 ((bits .xor .u64 x0 (IntKind.wrap .u64 (b2i z2))) * 1099511628211)) x10 x11 (w64 (x12 + 1))))
  (
    .leaf (.done (w53enc x0), some x0))
theorem w53vL2 (N : Nat) (n : Nat) (x0 : Int) (x10 : List UInt8) (x11 : Int) (x12 : Int) : evM TT EE (w53G N) w53lv w53rs 4000 true (w53kL2 (bodyOf 0 Tryz.f53)) (w53sL2 x0 x10 x11 x12) = (w53TL2 (bodyOf 0 Tryz.f53) N n x0 x10 x11 x12).map1 := by kernel_rfl
theorem w53nL2 (N : Nat) (n : Nat) (x0 : Int) (x10 : List UInt8) (x11 : Int) (x12 : Int) : labels_sum_L2 N (n + 1) x0 x10 x11 x12 = (w53TL2 (bodyOf 0 Tryz.f53) N n x0 x10 x11 x12).run := by kernel_rfl
theorem w53oL2 {N : Nat} {r : Int} : ∀ (n : Nat) (x0 : Int) (x10 : List UInt8) (x11 : Int) (x12 : Int), labels_sum_L2 N n x0 x10 x11 x12 = some r → Ends (Y := TT) EE (w53G N) w53lv w53rs (fun u => u = w53enc r) (w53kL2 (bodyOf 0 Tryz.f53)) (w53sL2 x0 x10 x11 x12)
  | 0, _, _, _, _, h => by cases h
  | n + 1, x0, x10, x11, x12, h => tree_use (w53vL2 N n x0 x10 x11 x12) (w53nL2 N n x0 x10 x11 x12) h (show (w53TL2 (bodyOf 0 Tryz.f53) N n x0 x10 x11 x12).all _ from ⟨fun _ => fun h => (w53oL2 n) _ _ _ _ h, retp (enc := w53enc) rfl⟩)
def w53TE0 (c : Code) (N : Nat) (x0 : Int) (x1 : List UInt8) : Tree (Lf EE.T × Option Int) :=
  .bnd (appC 1 x1 ([255] : List UInt8)) fun z1 =>
  .leaf (.go (w53kL2 c) (w53sL2 x0 z1 (z1.length : Int) 0), labels_sum_L2 N N x0 z1 (z1.length : Int) 0)
theorem w53vE0 (N : Nat) (x0 : Int) (x1 : List UInt8) : evM TT EE (w53G N) w53lv w53rs 4000 true (w53kE0 (bodyOf 0 Tryz.f53)) (w53sE0 x0 x1) = (w53TE0 (bodyOf 0 Tryz.f53) N x0 x1).map1 := by kernel_rfl
theorem w53nE0 (N : Nat) (x0 : Int) (x1 : List UInt8) : labels_sum N x0 x1 = (w53TE0 (bodyOf 0 Tryz.f53) N x0 x1).run := by kernel_rfl
theorem w53oE0 {N : Nat} {r : Int} (x0 : Int) (x1 : List UInt8) (h : labels_sum N x0 x1 = some r) : Ends (Y := TT) EE (w53G N) w53lv w53rs (fun u => u = w53enc r) (w53kE0 (bodyOf 0 Tryz.f53)) (w53sE0 x0 x1) :=
  tree_use (w53vE0 N x0 x1) (w53nE0 N x0 x1) h (show (w53TE0 (bodyOf 0 Tryz.f53) N x0 x1).all _ from fun _ => fun h => w53oL2 N _ _ _ _ h)
theorem labels_sum_ok {N : Nat} (x0 : Int) (x1 : List UInt8) {r : Int} (h : labels_sum N x0 x1 = some r) (ρ : Nat → Nat) : ACalls Tryz.prog 53 (([.a (.d (.int .u64) x0), .a (.d .str x1)] : List (TV EE.T)).map (TV.to EE.toEnc ρ)) [] (fun out H => out = .ret ((labels_sum_u r).to EE.toEnc ρ) ∧ H = []) :=
  (fn_ok (bodyOf 0 Tryz.f53) 23 mixed (w53Gok N) Tryz.func53 (by kernel_rfl) rfl rfl rfl rfl (w53oE0 x0 x1 h) ρ).mono fun out H h => KPost.ret rfl h
def labels_sum_h (N : Nat) : List (TV EE.T) → PV EE.T
  | [u0, u1] => match argD (.int .u64) u0, argD .str u1 with
    | some x0, some x1 => .opt (labels_sum N x0 x1) labels_sum_u
    | _, _ => .bad
  | _ => .bad
theorem labels_sum_hok (N : Nat) (us : List (TV EE.T)) : (labels_sum_h N us).ok fun u => ∀ ρ, ACalls Tryz.prog 53 (us.map (TV.to EE.toEnc ρ)) [] (fun out H => out = .ret (u.to EE.toEnc ρ) ∧ H = []) := by
  unfold labels_sum_h
  split
  · split
    · rename_i h0 h1
      intro z hz ρ; refine acalls_le ?_ (labels_sum_ok _ _ hz ρ); exact ⟨argD_le h0 ρ, argD_le h1 ρ, trivial⟩
    · trivial
  · trivial
/-! ### gleaner/labels.RawSum -/
def labels_RawSum_u (r : Int) : TV EE.T := .a (.d (.int .u64) r)
def w39enc (r : Int) : RL EE.T := .ret (labels_RawSum_u r) []
def w39lv : Lvs := ⟨[(5, ⟨[(3, false), (5, false), (6, false), (7, false), (8, false)], [], [(5, (some 2, []))]⟩)], [(3, ⟨[(3, false), (6, false), (7, false), (8, false)], [], []⟩)], [], [], false, [], []⟩
def w39rs : List ResultVar := [.tmp 2]
def w39G (N : Nat) : Gam EE := ⟨[⟨53, labels_sum_h N⟩], EQT, [], []⟩
theorem w39Gok (N : Nat) : GOk Tryz.prog TT EE (w39G N) := GOk.cons (labels_sum_hok N) (GOk.nil EQT_ok)
def w39kL3 (c : Code) : List It2 := atL 3 c
def w39sL3 (x3 : Int) (x6 : List VLabel) (x7 : Int) (x8 : Int) : TS EE.T := ⟨21, [(3, .a (.d (.int .u64) x3)), (6, .a (.d (.sl (.nam 2)) x6)), (7, .a (.d (.int .i64) x7)), (8, .a (.d (.int .i64) x8))], [], []⟩
def w39kE0 (c : Code) : List It2 := [.c c]
def w39sE0 (x0 : List VLabel) : TS EE.T := ⟨21, [(0, .a (.d (.sl (.nam 2)) x0))], [], []⟩
def w39TL3 (c : Code) (N : Nat) (n : Nat) (x3 : Int) (x6 : List VLabel) (x7 : Int) (x8 : Int) : Tree (Lf EE.T × Option Int) :=
  .cond (decide (x8 < x7))
  (
    .bnd (idxC x6 x8) fun z1 =>
    .bnd (labels_sum N x3 z1.Name) fun z2 =>
    .bnd (labels_sum N z2 z1.Value) fun z3 =>
    .leaf (.go (w39kL3 c) (w39sL3 z3 x6 x7 (w64 (x8 + 1))), labels_RawSum_L3 N n z3 x6 x7 (w64 (x8 + 1))))
  (
    .leaf (.done (w39enc x3), some x3))
theorem w39vL3 (N : Nat) (n : Nat) (x3 : Int) (x6 : List VLabel) (x7 : Int) (x8 : Int) : evM TT EE (w39G N) w39lv w39rs 4000 true (w39kL3 (bodyOf 0 Tryz.f39)) (w39sL3 x3 x6 x7 x8) = (w39TL3 (bodyOf 0 Tryz.f39) N n x3 x6 x7 x8).map1 := by kernel_rfl
theorem w39nL3 (N : Nat) (n : Nat) (x3 : Int) (x6 : List VLabel) (x7 : Int) (x8 : Int) : labels_RawSum_L3 N (n + 1) x3 x6 x7 x8 = (w39TL3 (bodyOf 0 Tryz.f39) N n x3 x6 x7 x8).run := by kernel_rfl
theorem w39oL3 {N : Nat} {r : Int} : ∀ (n : Nat) (x3 : Int) (x6 : List VLabel) (x7 : Int) (x8 : Int), labels_RawSum_L3 N n x3 x6 x7 x8 = some r → Ends (Y := TT) EE (w39G N) w39lv w39rs (fun u => u = w39enc r) (w39kL3 (bodyOf 0 Tryz.f39)) (w39sL3 x3 x6 x7 x8)
  | 0, _, _, _, _, h => by cases h
  | n + 1, x3, x6, x7, x8, h => tree_use (w39vL3 N n x3 x6 x7 x8) (w39nL3 N n x3 x6 x7 x8) h (show (w39TL3 (bodyOf 0 Tryz.f39) N n x3 x6 x7 x8).all _ from ⟨fun _ => fun _ => fun _ => fun h => (w39oL3 n) _ _ _ _ h, retp (enc := w39enc) rfl⟩)
def w39TE0 (c : Code) (N : Nat) (x0 : List VLabel) : Tree (Lf EE.T × Option Int) :=
  .leaf (.go (w39kL3 c) (w39sL3 14695981039346656037 x0 (x0.length : Int) 0), labels_RawSum_L3 N N 14695981039346656037 x0 (x0.length : Int) 0)
theorem w39vE0 (N : Nat) (x0 : List VLabel) : evM TT EE (w39G N) w39lv w39rs 4000 true (w39kE0 (bodyOf 0 Tryz.f39)) (w39sE0 x0) = (w39TE0 (bodyOf 0 Tryz.f39) N x0).map1 := by kernel_rfl
theorem w39nE0 (N : Nat) (x0 : List VLabel) : labels_RawSum N x0 = (w39TE0 (bodyOf 0 Tryz.f39) N x0).run := by kernel_rfl
theorem w39oE0 {N : Nat} {r : Int} (x0 : List VLabel) (h : labels_RawSum N x0 = some r) : Ends (Y := TT) EE (w39G N) w39lv w39rs (fun u => u = w39enc r) (w39kE0 (bodyOf 0 Tryz.f39)) (w39sE0 x0) :=
  tree_use (w39vE0 N x0) (w39nE0 N x0) h (show (w39TE0 (bodyOf 0 Tryz.f39) N x0).all _ from fun h => w39oL3 N _ _ _ _ h)
theorem labels_RawSum_ok {N : Nat} (x0 : List VLabel) {r : Int} (h : labels_RawSum N x0 = some r) (ρ : Nat → Nat) : ACalls Tryz.prog 39 (([.a (.d (.sl (.nam 2)) x0)] : List (TV EE.T)).map (TV.to EE.toEnc ρ)) [] (fun out H => out = .ret ((labels_RawSum_u r).to EE.toEnc ρ) ∧ H = []) :=
  (fn_ok (bodyOf 0 Tryz.f39) 21 mixed (w39Gok N) Tryz.func39 (by kernel_rfl) rfl rfl rfl rfl (w39oE0 x0 h) ρ).mono fun out H h => KPost.ret rfl h
def labels_RawSum_h (N : Nat) : List (TV EE.T) → PV EE.T
  | [u0] => match argD (.sl (.nam 2)) u0 with
    | some x0 => .opt (labels_RawSum N x0) labels_RawSum_u
    | _ => .bad
  | _ => .bad
theorem labels_RawSum_hok (N : Nat) (us : List (TV EE.T)) : (labels_RawSum_h N us).ok fun u => ∀ ρ, ACalls Tryz.prog 39 (us.map (TV.to EE.toEnc ρ)) [] (fun out H => out = .ret (u.to EE.toEnc ρ) ∧ H = []) := by
  unfold labels_RawSum_h
  split
  · split
    · rename_i h0
      intro z hz ρ; refine acalls_le ?_ (labels_RawSum_ok _ hz ρ); exact ⟨argD_le h0 ρ, trivial⟩
    · trivial
  · trivial
/-! ### gleaner/labels.Sum -/
def labels_Sum_u (r : Int × Int) : TV EE.T := .tu [.a (.d (.int .u64) r.1), .a (.d (.int .i64) r.2)]
def w24enc (r : Int × Int) : RL EE.T := .ret (labels_Sum_u r) []
def w24lv : Lvs := ⟨[], [], [], [], false, [], []⟩
def w24rs : List ResultVar := [.tmp 2, .tmp 3]
def w24G (N : Nat) : Gam EE := ⟨[⟨39, labels_RawSum_h N⟩, ⟨18, labels_check_h N⟩], EQT, [], []⟩
theorem w24Gok (N : Nat) : GOk Tryz.prog TT EE (w24G N) := GOk.cons (labels_RawSum_hok N) (GOk.cons (labels_check_hok N) (GOk.nil EQT_ok))
def w24kE0 (c : Code) : List It2 := [.c c]
def w24sE0 (x0 : List VLabel) : TS EE.T := ⟨13, [(0, .a (.d (.sl (.nam 2)) x0))], [], []⟩
def w24TE0 (c : Code) (N : Nat) (x0 : List VLabel) : Tree (Lf EE.T × Option (Int × Int)) :=
  .bnd (labels_check N ([x0] : List (List VLabel))) fun z1 =>
  .cond (z1 != 0)
  (
    .leaf (.done (w24enc (0, z1)), some (0, z1)))
  (
    .bnd (labels_RawSum N x0) fun z2 =>
    .leaf (.done (w24enc (z2, 0)), some (z2, 0)))
theorem w24vE0 (N : Nat) (x0 : List VLabel) : evM TT EE (w24G N) w24lv w24rs 4000 true (w24kE0 (bodyOf 0 Tryz.f24)) (w24sE0 x0) = (w24TE0 (bodyOf 0 Tryz.f24) N x0).map1 := by kernel_rfl
theorem w24nE0 (N : Nat) (x0 : List VLabel) : labels_Sum N x0 = (w24TE0 (bodyOf 0 Tryz.f24) N x0).run := by kernel_rfl
theorem w24oE0 {N : Nat} {r : Int × Int} (x0 : List VLabel) (h : labels_Sum N x0 = some r) : Ends (Y := TT) EE (w24G N) w24lv w24rs (fun u => u = w24enc r) (w24kE0 (bodyOf 0 Tryz.f24)) (w24sE0 x0) :=
  tree_use (w24vE0 N x0) (w24nE0 N x0) h (show (w24TE0 (bodyOf 0 Tryz.f24) N x0).all _ from fun _ => ⟨retp (enc := w24enc) rfl, fun _ => retp (enc := w24enc) rfl⟩)
theorem labels_Sum_ok {N : Nat} (x0 : List VLabel) {r : Int × Int} (h : labels_Sum N x0 = some r) (ρ : Nat → Nat) : ACalls Tryz.prog 24 (([.a (.d (.sl (.nam 2)) x0)] : List (TV EE.T)).map (TV.to EE.toEnc ρ)) [] (fun out H => out = .ret ((labels_Sum_u r).to EE.toEnc ρ) ∧ H = []) :=
  (fn_ok (bodyOf 0 Tryz.f24) 13 mixed (w24Gok N) Tryz.func24 (by kernel_rfl) rfl rfl rfl rfl (w24oE0 x0 h) ρ).mono fun out H h => KPost.ret rfl h
def labels_Sum_h (N : Nat) : List (TV EE.T) → PV EE.T
  | [u0] => match argD (.sl (.nam 2)) u0 with
    | some x0 => .opt (labels_Sum N x0) labels_Sum_u
    | _ => .bad
  | _ => .bad
theorem labels_Sum_hok (N : Nat) (us : List (TV EE.T)) : (labels_Sum_h N us).ok fun u => ∀ ρ, ACalls Tryz.prog 24 (us.map (TV.to EE.toEnc ρ)) [] (fun out H => out = .ret (u.to EE.toEnc ρ) ∧ H = []) := by
  unfold labels_Sum_h
  split
  · split
    · rename_i h0
      intro z hz ρ; refine acalls_le ?_ (labels_Sum_ok _ hz ρ); exact ⟨argD_le h0 ρ, trivial⟩
    · trivial
  · trivial
/-! ### gleaner/gleanerlaw.labelsBegun -/
def law_labelsBegun_u (r : Bool) : TV EE.T := .a (.d .bool r)
def w10enc (r : Bool) : RL EE.T := .ret (law_labelsBegun_u r) []
def w10lv : Lvs := ⟨[], [], [], [], false, [], []⟩
def w10rs : List ResultVar := [.tmp 0]
def w10G (N : Nat) : Gam EE := ⟨[⟨24, labels_Sum_h N⟩, ⟨23, labels_Text_h N⟩], EQT, [], []⟩
theorem w10Gok (N : Nat) : GOk Tryz.prog TT EE (w10G N) := GOk.cons (labels_Sum_hok N) (GOk.cons (labels_Text_hok N) (GOk.nil EQT_ok))
def w10kE0 (c : Code) : List It2 := [.c c]
def w10sE0 : TS EE.T := ⟨30, [], [], []⟩
def w10TE0 (c : Code) (N : Nat) : Tree (Lf EE.T × Option Bool) :=
  .bnd (labels_Text N ([({ Name := ([95, 95, 110, 97, 109, 101, 95, 95] : List UInt8), Value := ([117, 112] : List UInt8) } : VLabel), ({ Name := ([106, 111, 98] : List UInt8), Value := ([120] : List UInt8) } : VLabel)] : List VLabel)) fun z1 =>
  .bnd (labels_Sum N ([] : List VLabel)) fun z2 =>
  .cond (z1.2 == 0)
  (
    .cond (decide (z1.1 = ([117, 112, 123, 106, 111, 98, 61, 34, 120, 34, 125] : List UInt8)))
    (
      .cond (z2.2 == 0)
      (
        .leaf (.done (w10enc (z2.1 == 14695981039346656037)), some (z2.1 == 14695981039346656037)))
      (
        .leaf (.done (w10enc false), some false)))
    (
      .leaf (.done (w10enc false), some false)))
  (
    .leaf (.done (w10enc false), some false))
theorem w10vE0 (N : Nat) : evM TT EE (w10G N) w10lv w10rs 4000 true (w10kE0 (bodyOf 0 Tryz.f10)) (w10sE0) = (w10TE0 (bodyOf 0 Tryz.f10) N).map1 := by kernel_rfl
theorem w10nE0 (N : Nat) : law_labelsBegun N = (w10TE0 (bodyOf 0 Tryz.f10) N).run := by kernel_rfl
theorem w10oE0 {N : Nat} {r : Bool} (h : law_labelsBegun N = some r) : Ends (Y := TT) EE (w10G N) w10lv w10rs (fun u => u = w10enc r) (w10kE0 (bodyOf 0 Tryz.f10)) (w10sE0) :=
  tree_use (w10vE0 N) (w10nE0 N) h (show (w10TE0 (bodyOf 0 Tryz.f10) N).all _ from fun _ => fun _ => ⟨⟨⟨retp (enc := w10enc) rfl, retp (enc := w10enc) rfl⟩, retp (enc := w10enc) rfl⟩, retp (enc := w10enc) rfl⟩)
theorem law_labelsBegun_ok {N : Nat} {r : Bool} (h : law_labelsBegun N = some r) (ρ : Nat → Nat) : ACalls Tryz.prog 10 (([] : List (TV EE.T)).map (TV.to EE.toEnc ρ)) [] (fun out H => out = .ret ((law_labelsBegun_u r).to EE.toEnc ρ) ∧ H = []) :=
  (fn_ok (bodyOf 0 Tryz.f10) 30 mixed (w10Gok N) Tryz.func10 (by kernel_rfl) rfl rfl rfl rfl (w10oE0 h) ρ).mono fun out H h => KPost.ret rfl h
def law_labelsBegun_h (N : Nat) : List (TV EE.T) → PV EE.T
  | [] => .opt (law_labelsBegun N) law_labelsBegun_u
  | _ => .bad
theorem law_labelsBegun_hok (N : Nat) (us : List (TV EE.T)) : (law_labelsBegun_h N us).ok fun u => ∀ ρ, ACalls Tryz.prog 10 (us.map (TV.to EE.toEnc ρ)) [] (fun out H => out = .ret (u.to EE.toEnc ρ) ∧ H = []) := by
  unfold law_labelsBegun_h
  split
  · intro z hz ρ; exact law_labelsBegun_ok hz ρ
  · trivial
/-! ### gleaner/gleanerlaw.LabelsWith -/
/-! ### gleaner/gleanerlaw.LabelsBack -/
def law_LabelsBack_u (r : Bool) : TV EE.T := .a (.d .bool r)
def w4enc (r : Bool) : RL EE.T := .ret (law_LabelsBack_u r) []
def w4lv : Lvs := ⟨[], [], [], [], false, [], []⟩
def w4rs : List ResultVar := [.tmp 8]
def w4G (N : Nat) : Gam EE := ⟨[⟨10, law_labelsBegun_h N⟩, ⟨13, ref_SameLabels_h N⟩, ⟨14, labels_Check_h N⟩, ⟨12, labels_Get_h N⟩, ⟨6, labels_With_h N⟩], EQT, [], []⟩
theorem w4Gok (N : Nat) : GOk Tryz.prog TT EE (w4G N) := GOk.cons (law_labelsBegun_hok N) (GOk.cons (ref_SameLabels_hok N) (GOk.cons (labels_Check_hok N) (GOk.cons (labels_Get_hok N) (GOk.cons (labels_With_hok N) (GOk.nil EQT_ok)))))
def w4kE0 (c : Code) : List It2 := [.c c]
def w4sE0 (x0 : List VLabel) (x1 : List UInt8) (x2 : List UInt8) (x3 : List UInt8) : TS EE.T := ⟨105, [(0, .a (.d (.sl (.nam 2)) x0)), (1, .a (.d .str x1)), (2, .a (.d .str x2)), (3, .a (.d .str x3))], [], []⟩
def w4TE0 (c : Code) (N : Nat) (x0 : List VLabel) (x1 : List UInt8) (x2 : List UInt8) (x3 : List UInt8) : Tree (Lf EE.T × Option Bool) :=
  .bnd (law_labelsBegun N) fun z1 =>
  .cond (!z1)
  (
    .leaf (.done (w4enc false), some false))
  (
    .bnd (labels_Get N x0 x1) fun z2 =>
    .cond (z2.2 != 0)
    (
      .leaf (.done (w4enc true), some true))
    (
      .bnd (labels_With N x0 x1 ([] : List UInt8)) fun z3 =>
      .bnd (labels_With N z3.1 x1 z2.1) fun z4 =>
      .cond (z3.2 != 0)
      (
        .leaf (.done (w4enc false), some false))
      (
        .cond (z4.2 != 0)
        (
          .leaf (.done (w4enc false), some false))
        (
          .bnd (ref_SameLabels N z4.1 x0) fun z5 =>
          .cond (!z5)
          (
            .leaf (.done (w4enc false), some false))
          (
            .bnd (labels_With N x0 x1 x2) fun z6 =>
            .cond (z6.2 != 0)
            (
              .leaf (.done (w4enc true), some true))
            (
              .bnd (labels_Get N z6.1 x1) fun z7 =>
              .cond (z7.2 != 0)
              (
                .leaf (.done (w4enc false), some false))
              (
                .cond (!decide (z7.1 = x2))
                (
                  .leaf (.done (w4enc false), some false))
                (
                  .bnd (labels_Check N z6.1) fun z8 =>
                  .cond (z8 != 0)
                  (
                    .leaf (.done (w4enc false), some false))
                  (
                    .bnd (labels_Get N x0 x3) fun z9 =>
                    .bnd (labels_Get N z6.1 x3) fun z10 =>
                    .cond (z9.2 == z10.2)
                    (
                      .cond (decide (x3 = x1))
                      (
                        .leaf (.done (w4enc true), some true))
                      (
                        .leaf (.done (w4enc (decide (z9.1 = z10.1))), some (decide (z9.1 = z10.1)))))
                    (
                      .leaf (.done (w4enc false), some false)))))))))))
theorem w4vE0 (N : Nat) (x0 : List VLabel) (x1 : List UInt8) (x2 : List UInt8) (x3 : List UInt8) : evM TT EE (w4G N) w4lv w4rs 4000 true (w4kE0 (bodyOf 0 Tryz.f4)) (w4sE0 x0 x1 x2 x3) = (w4TE0 (bodyOf 0 Tryz.f4) N x0 x1 x2 x3).map1 := by kernel_rfl
theorem w4nE0 (N : Nat) (x0 : List VLabel) (x1 : List UInt8) (x2 : List UInt8) (x3 : List UInt8) : law_LabelsBack N x0 x1 x2 x3 = (w4TE0 (bodyOf 0 Tryz.f4) N x0 x1 x2 x3).run := by kernel_rfl
theorem w4oE0 {N : Nat} {r : Bool} (x0 : List VLabel) (x1 : List UInt8) (x2 : List UInt8) (x3 : List UInt8) (h : law_LabelsBack N x0 x1 x2 x3 = some r) : Ends (Y := TT) EE (w4G N) w4lv w4rs (fun u => u = w4enc r) (w4kE0 (bodyOf 0 Tryz.f4)) (w4sE0 x0 x1 x2 x3) :=
  tree_use (w4vE0 N x0 x1 x2 x3) (w4nE0 N x0 x1 x2 x3) h (show (w4TE0 (bodyOf 0 Tryz.f4) N x0 x1 x2 x3).all _ from fun _ => ⟨retp (enc := w4enc) rfl, fun _ => ⟨retp (enc := w4enc) rfl, fun _ => fun _ => ⟨retp (enc := w4enc) rfl, ⟨retp (enc := w4enc) rfl, fun _ => ⟨retp (enc := w4enc) rfl, fun _ => ⟨retp (enc := w4enc) rfl, fun _ => ⟨retp (enc := w4enc) rfl, ⟨retp (enc := w4enc) rfl, fun _ => ⟨retp (enc := w4enc) rfl, fun _ => fun _ => ⟨⟨retp (enc := w4enc) rfl, retp (enc := w4enc) rfl⟩, retp (enc := w4enc) rfl⟩⟩⟩⟩⟩⟩⟩⟩⟩⟩)
theorem law_LabelsBack_ok {N : Nat} (x0 : List VLabel) (x1 : List UInt8) (x2 : List UInt8) (x3 : List UInt8) {r : Bool} (h : law_LabelsBack N x0 x1 x2 x3 = some r) (ρ : Nat → Nat) : ACalls Tryz.prog 4 (([.a (.d (.sl (.nam 2)) x0), .a (.d .str x1), .a (.d .str x2), .a (.d .str x3)] : List (TV EE.T)).map (TV.to EE.toEnc ρ)) [] (fun out H => out = .ret ((law_LabelsBack_u r).to EE.toEnc ρ) ∧ H = []) :=
  (fn_ok (bodyOf 0 Tryz.f4) 105 mixed (w4Gok N) Tryz.func4 (by kernel_rfl) rfl rfl rfl rfl (w4oE0 x0 x1 x2 x3 h) ρ).mono fun out H h => KPost.ret rfl h
end Go.Proofs.YtgmlkhfjhogdbaaGreat

/- Arguments opened: what a reading tells, as typed values. -/
namespace Go.Proofs.YtgmlkhfjhogdbaaGreat
open Go.RowKit Go.Deep Go.ChangeShapes Go.WideShapes Go.ChangeAt P
set_option linter.unusedSimpArgs false
set_option linter.unusedVariables false

def RelCs (w : World) (us : List AV) (cs : List Value) : Prop := us.length = cs.length ∧ ∀ (i : Nat) u v, us[i]? = some u → cs[i]? = some v → Rel (allW w) u v
def RelAt (w : World) (us : List AV) (off : Nat) (cs : List Value) : Prop := ∀ (i : Nat) u v, us[i]? = some u → cs[off + i]? = some v → Rel (allW w) u v
theorem RelAt.of_piece {w : World} {us : List AV} {off k : Nat} {cs : List Value} (h : RelCs w us ((cs.drop off).take k)) : RelAt w us off cs := fun i u v hu hv => by
  refine h.2 i u v hu ?_
  have hi : i < ((cs.drop off).take k).length := by rw [← h.1]; exact (List.getElem?_eq_some_iff.1 hu).1
  have hk : i < k := by rw [List.length_take] at hi; omega
  rw [List.getElem?_take, if_pos hk, List.getElem?_drop]; exact hv
theorem RelAt.nil {w : World} {off : Nat} {cs : List Value} : RelAt w [] off cs := fun i u v hu => by simp at hu
theorem RelAt.cat {w : World} {us us' : List AV} {off off' : Nat} {cs : List Value} (h : RelAt w us off cs) (h' : RelAt w us' off' cs) (e : off' = off + us.length) : RelAt w (us ++ us') off cs := fun i u v hu hv => by
  by_cases hi : i < us.length
  · rw [List.getElem?_append_left hi] at hu; exact h i u v hu hv
  · rw [List.getElem?_append_right (by omega)] at hu
    exact h' (i - us.length) u v hu (by rw [e, show off + us.length + (i - us.length) = off + i by omega]; exact hv)
theorem RelAt.whole {w : World} {us : List AV} {cs : List Value} (h : RelAt w us 0 cs) (e : us.length = cs.length) : RelCs w us cs := ⟨e, fun i u v hu hv => h i u v hu (by simpa using hv)⟩
section
variable {H : Type} {enc : TypeId × Value → H} {Pr : Program} {w : World} {base : Nat} {spare : Nat → Bool} {held : Bool}
def Opens {H : Type} (enc : TypeId × Value → H) (Pr : Program) (w : World) (base : Nat) (spare : Nat → Bool) (held : Bool) (t : TypeId) {α : Type} (ec : α → List AV) (Wf : α → Prop) : Prop :=
  ∀ (fuel : Nat) (cs : List Value) (x : DataW H × List MemPlace), DataW.trod enc Pr w base spare held fuel t cs = some x → (∀ n ∈ x.1.weights Pr t, n ≤ reachBytes) → ∃ z, Wf z ∧ RelCs w (ec z) cs
theorem opens_int {t : TypeId} {k : IntKind} (ht : Pr.underlying t = some (.int k)) : Opens enc Pr w base spare held t (fun n : Int => [.v (.int k n)]) (fun n => (Lit.int k n).wf = true) := by
  intro fuel cs x h hw
  obtain ⟨n, rfl, rfl, hwf⟩ := DataW.trod_int ht h
  refine ⟨n, hwf, rfl, fun i u v hu hv => ?_⟩
  match i, hu, hv with
  | 0, hu, hv => simp at hu hv; subst hu hv; exact .v _
  | i + 1, hu, hv => simp at hu
theorem opens_bool {t : TypeId} (ht : Pr.underlying t = some .bool) : Opens enc Pr w base spare held t (fun b : Bool => [.v (.bool b)]) (fun _ => True) := by
  intro fuel cs x h hw
  have : ∃ b, cs = [.bool b] := by
    cases fuel with
    | zero => simp [DataW.trod] at h
    | succ n =>
      unfold DataW.trod at h
      rw [ht] at h
      split at h <;> simp_all
  obtain ⟨b, rfl⟩ := this
  refine ⟨b, trivial, rfl, fun i u v hu hv => ?_⟩
  match i, hu, hv with
  | 0, hu, hv => simp at hu hv; subst hu hv; exact .v _
  | i + 1, hu, hv => simp at hu
theorem opens_str {t : TypeId} (ht : Pr.underlying t = some .string) : Opens enc Pr w base spare held t (fun s : List UInt8 => [.v (.string (mkB s))]) (fun s => s.length ≤ reachBytes) := by
  intro fuel cs x h hw
  obtain ⟨s, rfl, rfl, hs⟩ := DataW.trod_string ht h
  refine ⟨s.data.toList, hw _ (by simp [DataW.weights]), rfl, fun i u v hu hv => ?_⟩
  match i, hu, hv with
  | 0, hu, hv => simp at hu hv; subst hu hv; exact .v _
  | i + 1, hu, hv => simp at hu
theorem weightsAll_mem' {e : TypeId} : ∀ {l : List (DataW H)} {d : DataW H}, d ∈ l → ∀ n ∈ d.weights Pr e, n ∈ DataW.weightsAll Pr e l
  | [], _, h, _, _ => by cases h
  | x :: l, d, h, n, hn => by
    simp only [DataW.weightsAll, List.mem_append]
    rcases List.mem_cons.1 h with rfl | h
    · exact .inl hn
    · exact .inr (weightsAll_mem' h n hn)
theorem weightsEach_mem' {t : TypeId} : ∀ {ts : List TypeId} {l : List (DataW H)} {j : Nat} {d : DataW H}, ts[j]? = some t → l[j]? = some d → ∀ n ∈ d.weights Pr t, n ∈ DataW.weightsEach Pr ts l
  | [], _, _, _, h, _, _, _ => by simp at h
  | _ :: _, [], _, _, _, h, _, _ => by simp at h
  | t0 :: ts, d0 :: l, 0, d, h1, h2, n, hn => by
    simp at h1 h2; subst h1 h2
    simp only [DataW.weightsEach, List.mem_append]; exact .inl hn
  | t0 :: ts, d0 :: l, j + 1, d, h1, h2, n, hn => by
    simp only [DataW.weightsEach, List.mem_append]
    exact .inr (weightsEach_mem' (j := j) (by simpa using h1) (by simpa using h2) n hn)
theorem cells_get {a : Addr} {n : Nat} {cs : List Value} (h : w.cells? base a n = some cs) : cs.length = n ∧ ∀ j, j < n → w.cell? (a.add j) = cs[j]? := by
  unfold World.cells? at h
  split at h
  · refine ⟨by simpa using mapM_some_length h, fun j hj => ?_⟩
    exact mapM_some_get h j j (by simp [hj])
  · cases h
theorem opens_slice {t e : TypeId} {α : Type} {ec : α → List AV} {Wf : α → Prop} {sz : Nat} (ht : Pr.underlying t = some (.slice e)) (hc : Pr.cellsOf e = sz) (h1 : 1 ≤ sz) (hb : 1 ≤ Pr.bytesOf e) (hlen : ∀ z, (ec z).length = sz) (ho : Opens enc Pr w base spare held e ec Wf) :
    Opens enc Pr w base spare held t (fun l : List α => [.sl false sz (l.map ec)]) (fun l => l.length ≤ reachBytes ∧ ∀ z ∈ l, Wf z) := by
  intro fuel cs x h hw
  have one : ∀ (l : List α) (v : Value), Rel (allW w) (.sl false sz (l.map ec)) v → RelCs w [.sl false sz (l.map ec)] [v] := fun l v hr => ⟨rfl, fun i u v' hu hv => by
    match i, hu, hv with
    | 0, hu, hv => simp at hu hv; subst hu hv; exact hr
    | i + 1, hu, hv => simp at hu⟩
  rcases open_slice ht h with ⟨rfl, rfl⟩ | ⟨a, len, cap, m, n, D, Pl, rfl, hba, hl, hm, hmm, rfl, hel⟩
  · exact ⟨[], ⟨Nat.zero_le _, fun z hz => by cases hz⟩, one [] _ (.nl _ _ _ _)⟩
  · have hlm : len ≤ m := by rw [hmm]; split <;> omega
    have hlr : len ≤ reachBytes := by
      have := hw ((((List.range len).map D).length + ((List.range (m - len)).map fun j => D (len + j)).length) * Pr.bytesOf e) (by simp only [DataW.weights, ht]; exact List.mem_cons_self ..)
      simp only [List.length_map, List.length_range] at this
      have h2 : (len + (m - len)) * 1 ≤ (len + (m - len)) * Pr.bytesOf e := Nat.mul_le_mul_left _ hb
      omega
    have hwt : ∀ i, i < len → ∀ k ∈ (D i).weights Pr e, k ≤ reachBytes := fun i hi k hk => by
      refine hw k ?_
      simp only [DataW.weights, ht]
      refine List.mem_cons_of_mem _ (List.mem_append.2 (.inl ?_))
      exact weightsAll_mem' (List.mem_map.2 ⟨i, List.mem_range.2 hi, rfl⟩) k hk
    rcases Nat.eq_zero_or_pos len with h0 | hpos
    · subst h0
      exact ⟨[], ⟨Nat.zero_le _, fun z hz => by cases hz⟩, one [] _ (.nl _ _ _ _)⟩
    have each : ∀ i, i < len → ∃ y : α × List Value, Wf y.1 ∧ RelCs w (ec y.1) y.2 ∧ y.2.length = sz ∧ ∀ j, j < sz → w.cell? ((a.add (i * sz)).add j) = y.2[j]? := fun i hi => by
      obtain ⟨cs', h2, h3⟩ := hel i (by omega)
      rw [hc] at h2
      obtain ⟨z, hz, hr⟩ := ho _ _ _ h3 (hwt i hi)
      obtain ⟨k1, k2⟩ := cells_get h2
      exact ⟨(z, cs'), hz, hr, k1, k2⟩
    obtain ⟨y0, _⟩ := each 0 hpos
    haveI : Inhabited (α × List Value) := ⟨y0⟩
    obtain ⟨f, hf⟩ := choose_lt each
    have hspot : a.spot = none := by
      obtain ⟨_, _, k1, k2⟩ := hf 0 hpos
      have := k2 0 (by omega)
      rw [List.getElem?_eq_getElem (by omega)] at this
      obtain ⟨b, off, spot⟩ := a
      simpa [Addr.add] using World.cell?_spot this
    obtain ⟨b, off, spot⟩ := a
    simp only at hspot
    subst hspot
    have hcell : ∀ i, i < len → ∀ j, j < sz → w.cell? ⟨b, off + i * sz + j, none⟩ = (f i).2[j]? := fun i hi j hj => by
      have := (hf i hi).2.2.2 j hj
      rw [add_off, add_off] at this
      exact this
    have hblk : ∃ cs e' fr, w.heap[b]? = some (.cells cs e' fr) ∧ off + (len - 1) * sz + (sz - 1) < cs.size := by
      have c2 := hcell (len - 1) (by omega) (sz - 1) (by omega)
      rw [List.getElem?_eq_getElem (by have := (hf (len - 1) (by omega)).2.2.1; omega)] at c2
      unfold World.cell? at c2
      split at c2
      · rename_i cs e' fr hb'
        exact ⟨cs, e', fr, hb', (Array.getElem?_eq_some_iff.1 c2).1⟩
      all_goals cases c2
    obtain ⟨cs, e', fr, hb', hsz⟩ := hblk
    have hg : (allW w).g b = some cs.size := by simp only [allW, hb']
    have hsum : (len - 1) * sz + sz = len * sz := by rw [← Nat.succ_mul]; congr 1; omega
    refine ⟨(List.range len).map fun i => (f i).1, ⟨by simpa using hlr, fun z hz => ?_⟩, one _ _ ?_⟩
    · obtain ⟨i, hi, rfl⟩ := List.mem_map.1 hz
      exact (hf i (List.mem_range.1 hi)).1
    · have hL : (((List.range len).map fun i => (f i).1).map ec).length = len := by simp
      have hrow : ∀ (i : Nat) r, (((List.range len).map fun i => (f i).1).map ec)[i]? = some r → i < len ∧ r = ec (f i).1 := fun i r hr => by
        have hi : i < len := by have := (List.getElem?_eq_some_iff.1 hr).1; simpa using this
        refine ⟨hi, ?_⟩
        simp [hi] at hr
        exact hr.symm
      have := Rel.sl (X := allW w) false sz (((List.range len).map fun i => (f i).1).map ec) b off cap cs.size (fun i j => ((f i).2[j]?).getD undef) hg (by rw [hL]; omega) (by rw [hL]; exact hl) (fun i r hr => by rw [(hrow i r hr).2]; exact hlen _) (fun i j r u hr hu => by
        obtain ⟨hi, rfl⟩ := hrow i r hr
        have hj : j < sz := by have := (List.getElem?_eq_some_iff.1 hu).1; rw [hlen] at this; exact this
        have hjl : j < (f i).2.length := by rw [(hf i hi).2.2.1]; exact hj
        show w.cell? _ = _
        rw [hcell i hi j hj, List.getElem?_eq_getElem hjl]; rfl) (fun i j r u hr hu => by
        obtain ⟨hi, rfl⟩ := hrow i r hr
        have hj : j < sz := by have := (List.getElem?_eq_some_iff.1 hu).1; rw [hlen] at this; exact this
        have hjl : j < (f i).2.length := by rw [(hf i hi).2.2.1]; exact hj
        refine (hf i hi).2.1.2 j u _ hu ?_
        rw [List.getElem?_eq_getElem hjl]; rfl)
      rw [hL] at this
      exact this
/-- A struct's field. -/
theorem piece {t : TypeId} {fs : Array Field} {xs : List (DataW H × List MemPlace)} {n : Nat} {cs : List Value} {α : Type} {ec : α → List AV} {Wf : α → Prop} (ht : Pr.underlying t = some (.struct fs)) (hlen : xs.length = fs.size)
    (hf : ∀ (i : Nat) (f : Field), fs[i]? = some f → DataW.trod enc Pr w base spare held n f.type ((cs.drop f.offset).take (Pr.cellsOf f.type)) = xs[i]?) (hw : ∀ n ∈ (DataW.agg (xs.map (·.1))).weights Pr t, n ≤ reachBytes)
    (i : Nat) (f : Field) (hi : fs[i]? = some f) (ho : Opens enc Pr w base spare held f.type ec Wf) : ∃ z, Wf z ∧ RelAt w (ec z) f.offset cs := by
  have h1 := hf i f hi
  have hil : i < xs.length := by rw [hlen]; exact (Array.getElem?_eq_some_iff.1 hi).1
  rw [List.getElem?_eq_getElem hil] at h1
  obtain ⟨z, hz, hr⟩ := ho _ _ _ h1 fun k hk => hw k (by
    simp only [DataW.weights, ht]
    exact weightsEach_mem' (j := i) (t := f.type) (by
      have hi' : fs.toList[i]? = some f := by simpa using hi
      simp [hi']) (by simp [List.getElem?_eq_getElem hil]) k hk)
  exact ⟨z, hz, .of_piece hr⟩
/-- A struct handed in. -/
theorem arg_ag {r : Reach} {b0 : Nat} {t : TypeId} {fs : Array Field} {v : Value} {d : DataW H} {ps : List MemPlace} {α : Type} {ec : α → List AV} {Wf : α → Prop} (ho : Opens enc Pr w base spare held t ec Wf) (ht : Pr.underlying t = some (.struct fs)) (hval : Value.okWide Pr w r b0 t v) (hd : DataW.Trod enc Pr w base spare held t v d ps) (hw : ∀ n ∈ d.weights Pr t, n ≤ reachBytes) :
    ∃ z, Wf z ∧ Rel (allW w) (.ag (ec z)) v := by
  obtain ⟨cs, rfl, _⟩ := okWide_struct ht hval
  obtain ⟨fuel, hf⟩ := hd
  obtain ⟨z, hz, hr⟩ := ho _ _ _ hf hw
  refine ⟨z, hz, .ag _ _ (by have := hr.1; simpa [Value.cells] using this) fun i u x hu hx => hr.2 i u x hu (by simpa [Value.cells] using hx)⟩
/-- A slice handed in. -/
theorem arg_sl {r : Reach} {b0 : Nat} {t e : TypeId} {v : Value} {d : DataW H} {ps : List MemPlace} {α : Type} {u : α → AV} {Wf : α → Prop} (ho : Opens enc Pr w base spare held t (fun z => [u z]) Wf) (ht : Pr.underlying t = some (.slice e)) (hval : Value.okWide Pr w r b0 t v) (hd : DataW.Trod enc Pr w base spare held t v d ps) (hw : ∀ n ∈ d.weights Pr t, n ≤ reachBytes) :
    ∃ z, Wf z ∧ Rel (allW w) (u z) v := by
  obtain ⟨oa, ln, cp, rfl⟩ := okWide_slice ht hval
  obtain ⟨fuel, hf⟩ := hd
  obtain ⟨z, hz, hr⟩ := ho _ _ _ hf hw
  exact ⟨z, hz, hr.2 0 _ _ rfl (by simp [Value.cells])⟩
end
end Go.Proofs.YtgmlkhfjhogdbaaGreat

/- The openers of the arguments' types. Written by gen/openers.py. -/
namespace Go.Proofs.YtgmlkhfjhogdbaaGreat
open Go.RowKit Go.Deep Go.ChangeShapes Go.WideShapes Go.ChangeAt P
set_option linter.unusedVariables false
set_option linter.unusedSimpArgs false
theorem Tryz.own : ownKnob Tryz.prog.godebug = none := by kernel_rfl
theorem Tryz.laidOut : laidOutB Tryz.prog = true := by kernel_rfl
def WF_VLabel (z : VLabel) : Prop := (z.Name.length ≤ reachBytes) ∧ (z.Value.length ≤ reachBytes)
theorem opn_VLabel {H : Type} {enc : TypeId × Value → H} {w : World} {base : Nat} {spare : Nat → Bool} {held : Bool} : Opens enc Tryz.prog w base spare held 42 enc_VLabel WF_VLabel := by
  intro fuel cs x h hw
  obtain ⟨xs, n, _, rfl, hl, hlen, hf⟩ := DataW.trod_struct Tryz.underlying42 h
  obtain ⟨z0, w0, r0⟩ := piece Tryz.underlying42 hlen hf hw 0 _ rfl (opens_str Tryz.underlying9)
  obtain ⟨z1, w1, r1⟩ := piece Tryz.underlying42 hlen hf hw 1 _ rfl (opens_str Tryz.underlying9)
  have hcs : Tryz.prog.cellsOf 42 = 2 := by kernel_rfl
  exact ⟨⟨z0, z1⟩, ⟨w0, w1⟩, RelAt.whole (RelAt.cat r0 r1 (by rfl)) (by rw [hl, hcs]; rfl)⟩
theorem opn_sl__api_Label {H : Type} {enc : TypeId × Value → H} {w : World} {base : Nat} {spare : Nat → Bool} {held : Bool} : Opens enc Tryz.prog w base spare held 22 (fun l : List VLabel => [AV.sl false 2 (l.map enc_VLabel)]) (fun l => l.length ≤ reachBytes ∧ ∀ y ∈ l, WF_VLabel y) :=
  opens_slice Tryz.underlying22 (by kernel_rfl) (by decide) (of_decide_eq_true (by kernel_rfl)) (fun z => by rfl) opn_VLabel
end Go.Proofs.YtgmlkhfjhogdbaaGreat

/- What the labels' laws begin with; their arguments' bounds. -/
namespace Go.Proofs.YtgmlkhfjhogdbaaGreat
open Go.ChangeShapes Go.WideShapes Go.ChangeAt Go.RowKit Go.ChangeMaps P
set_option linter.unusedSimpArgs false
set_option linter.unusedVariables false
theorem wlab_of {l : List VLabel} (h1 : l.length ≤ reachBytes) (h2 : ∀ y ∈ l, WF_VLabel y) : WLab l := ⟨by unfold reachBytes at h1; omega, fun z hz => by
  have := h2 z hz
  unfold WF_VLabel at this
  unfold reachBytes at this
  exact ⟨by omega, by omega⟩⟩
set_option maxRecDepth 100000 in
theorem labelsBegun_is (M : Nat) : law_labelsBegun (M + 300) = some true := by kernel_rfl
theorem labelsBegun_ev : Ev law_labelsBegun true := ⟨300, fun N hN => by
  obtain ⟨M, rfl⟩ : ∃ M, N = M + 300 := ⟨N - 300, by omega⟩
  exact labelsBegun_is M⟩
theorem small_reach {n : Nat} (h : n ≤ reachBytes) : Small n := h
theorem text_small {s : ByteArray} (h : Small s.size) : (bsOf s).length < 140737488355328 := by
  have h1 : s.size ≤ reachBytes := h
  unfold reachBytes at h1
  have : (bsOf s).length = s.size := size_bs s
  omega
end Go.Proofs.YtgmlkhfjhogdbaaGreat

/- What labels.Get and labels.Compare come to. -/
namespace Go.Proofs.YtgmlkhfjhogdbaaGreat
open Go.RowKit P
set_option linter.unusedVariables false
set_option linter.unusedSimpArgs false

/-! ### The order of texts -/
theorem wuE {n : Int} (h1 : 0 ≤ n) (h2 : n < 18446744073709551616) : IntKind.wrap .u64 n = n := by rw [IntKind.wrap_u64]; omega
theorem less_irr : ∀ a : List UInt8, Op.bytesLess a a = false
  | [] => rfl
  | a :: x => by simp [Op.bytesLess, less_irr x]
theorem less_tr : ∀ {a b c : List UInt8}, Op.bytesLess a b = true → Op.bytesLess b c = true → Op.bytesLess a c = true
  | _, [], _, h, _ => by simp [Op.bytesLess] at h
  | _, _ :: _, [], _, h => by simp [Op.bytesLess] at h
  | [], _ :: _, _ :: _, _, _ => rfl
  | a :: x, b :: y, c :: z, h1, h2 => by
    simp only [Op.bytesLess, Bool.or_eq_true, decide_eq_true_eq, Bool.and_eq_true, beq_iff_eq] at h1 h2 ⊢
    rcases h1 with h1 | ⟨rfl, h1⟩
    · rcases h2 with h2 | ⟨rfl, h2⟩
      · exact Or.inl (UInt8.lt_trans h1 h2)
      · exact Or.inl h1
    · rcases h2 with h2 | ⟨rfl, h2⟩
      · exact Or.inl h2
      · exact Or.inr ⟨rfl, less_tr h1 h2⟩
theorem less_eq : ∀ {a b : List UInt8}, Op.bytesLess a b = false → Op.bytesLess b a = false → a = b
  | [], [], _, _ => rfl
  | _ :: _, [], _, h => by simp [Op.bytesLess] at h
  | [], _ :: _, h, _ => by simp [Op.bytesLess] at h
  | a :: x, b :: y, h1, h2 => by
    simp only [Op.bytesLess, Bool.or_eq_false_iff, decide_eq_false_iff_not, Bool.and_eq_false_iff, beq_eq_false_iff_ne] at h1 h2
    have e : a = b := by
      have h3 := h1.1
      have h4 := h2.1
      rw [UInt8.lt_iff_toNat_lt] at h3 h4
      exact UInt8.toNat.inj (by omega)
    subst e
    rw [less_eq (h1.2.resolve_left (by simp)) (h2.2.resolve_left (by simp))]
/-- What is not less, and what is not less than that. -/
theorem nless_tr {a b c : List UInt8} (h1 : Op.bytesLess b a = false) (h2 : Op.bytesLess c b = false) : Op.bytesLess c a = false := by
  cases h : Op.bytesLess c a with
  | false => rfl
  | true =>
    cases h3 : Op.bytesLess a b with
    | true => rw [less_tr h h3] at h2; cases h2
    | false => rw [← less_eq h3 h1, h] at h2; cases h2
theorem adj_tail {a : VLabel} {l : List VLabel} (h : adjB (a :: l) = true) : adjB l = true ∧ ∀ y ∈ l, Op.bytesLess y.Name a.Name = false := by
  induction l generalizing a with
  | nil => exact ⟨rfl, fun y hy => by cases hy⟩
  | cons b l ih =>
    simp only [adjB, Bool.and_eq_true, Bool.not_eq_true'] at h
    refine ⟨h.2, fun y hy => ?_⟩
    rcases List.mem_cons.1 hy with rfl | hy
    · exact h.1
    · exact nless_tr h.1 ((ih h.2).2 y hy)
theorem adj_le {l : List VLabel} (h : adjB l = true) : ∀ {i j : Nat} (hj : j < l.length) (hij : i ≤ j), Op.bytesLess l[j].Name (l[i]'(by omega)).Name = false := by
  induction l with
  | nil => intro i j hj; simp at hj
  | cons a l ih =>
    intro i j hj hij
    have ht := adj_tail h
    cases i with
    | zero =>
      cases j with
      | zero => exact less_irr _
      | succ j => exact ht.2 _ (List.getElem_mem _)
    | succ i =>
      cases j with
      | zero => omega
      | succ j => exact ih ht.1 (by simpa using hj) (by omega)

/-! ### The value of a name -/
def nameVal (s : List UInt8) : List VLabel → List UInt8
  | [] => []
  | z :: r => if z.Name = s then z.Value else nameVal s r
theorem nameVal_skip {s : List UInt8} : ∀ (l : List VLabel) (i : Nat) (hi : i ≤ l.length), (∀ j (hj : j < i), (l[j]'(by omega)).Name ≠ s) → nameVal s l = nameVal s (l.drop i)
  | l, 0, _, _ => by simp
  | [], i + 1, hi, _ => by simp at hi
  | z :: l, i + 1, hi, h => by
    have h0 := h 0 (by omega)
    simp only [List.getElem_cons_zero] at h0
    rw [List.drop_succ_cons, ← nameVal_skip l i (by simpa using hi) fun j hj => by simpa using h (j + 1) (by omega)]
    simp [nameVal, h0]
theorem nameVal_none {s : List UInt8} : ∀ (l : List VLabel), (∀ z ∈ l, z.Name ≠ s) → nameVal s l = []
  | [], _ => rfl
  | z :: l, h => by
    rw [nameVal, if_neg (h z (by simp)), nameVal_none l fun y hy => h y (by simp [hy])]
def cmpS (a b : List UInt8) : Int := if Op.bytesLess a b then -1 else if a = b then 0 else 1
theorem compare_is (N : Nat) (a b : List UInt8) : cmp_Compare_string_ N a b = some (cmpS a b) := by
  unfold cmp_Compare_string_ cmp_isNaN_string_ cmpS
  simp only [Option.bind_some, decide_true, Bool.not_true, cond_false]
  cases Op.bytesLess a b with
  | true => simp
  | false => by_cases h : a = b <;> simp [h]
theorem find1_is (N : Nat) (z : VLabel) (s : List UInt8) : labels_find_1 N z s = some (cmpS z.Name s) := by
  unfold labels_find_1; rw [compare_is]; rfl
theorem cmpS_neg {a b : List UInt8} : decide (cmpS a b < 0) = Op.bytesLess a b := by
  unfold cmpS
  cases Op.bytesLess a b with
  | true => rfl
  | false => by_cases h : a = b <;> simp [h]
theorem cmpS_zero {a b : List UInt8} : (cmpS a b == 0) = decide (a = b) := by
  unfold cmpS
  cases h : Op.bytesLess a b with
  | true =>
    have : a ≠ b := fun e => by rw [e, less_irr] at h; cases h
    simp [this]
  | false => by_cases h : a = b <;> simp [h]
theorem half {lo hi : Nat} (h : lo + hi < 9223372036854775808) : shrC .u64 (IntKind.wrap .u64 (w64 ((lo : Int) + (hi : Int)))) 1 = some (((lo + hi) / 2 : Nat) : Int) := by
  rw [w64_id (by omega) (by omega), wuE (by omega) (by omega)]
  unfold shrC
  rw [if_pos (by omega)]
  have : min (1 : Int).toNat IntKind.u64.bits = 1 := by decide
  rw [this]
  have e : ((lo : Int) + (hi : Int)).fdiv (2 ^ 1) = (((lo + hi) / 2 : Nat) : Int) := by
    rw [Int.fdiv_eq_ediv_of_nonneg _ (by omega)]; omega
  rw [e]
/-- What the search ends with: the number of names that are less. -/
theorem search_is (N : Nat) (l : List VLabel) (s : List UInt8) (hs : adjB l = true) (hl : l.length < 140737488355328) : ∀ (n lo hi : Nat), lo ≤ hi → hi ≤ l.length → hi - lo < n →
    (∀ j (hj : j < l.length), j < lo → Op.bytesLess l[j].Name s = true) → (∀ j (hj : j < l.length), hi ≤ j → Op.bytesLess l[j].Name s = false) →
    ∃ k, k ≤ l.length ∧ (∀ j (hj : j < l.length), j < k → Op.bytesLess l[j].Name s = true) ∧ (∀ j (hj : j < l.length), k ≤ j → Op.bytesLess l[j].Name s = false) ∧
      slices_BinarySearchFunc_api_Label_api_Label_string__i0_L3 N n l s (l.length : Int) (lo : Int) (hi : Int) = some ((k : Int), if h : k < l.length then decide (l[k].Name = s) else false)
  | 0, lo, hi, _, _, h, _, _ => by omega
  | n + 1, lo, hi, h1, h2, h3, h4, h5 => by
    unfold slices_BinarySearchFunc_api_Label_api_Label_string__i0_L3
    by_cases hlt : lo < hi
    · have e0 : decide ((lo : Int) < (hi : Int)) = true := by simp; omega
      have hm : (lo + hi) / 2 < l.length := by omega
      rw [e0, cond_true, half (by omega), Option.bind_some, w64_id (by omega) (by omega), idxC_get hm, Option.bind_some, find1_is, Option.bind_some, cmpS_neg, w64_id (by omega) (by omega)]
      cases hc : Op.bytesLess (l[(lo + hi) / 2]'hm).Name s with
      | true =>
        rw [cond_true]
        exact search_is N l s hs hl n ((lo + hi) / 2 + 1) hi (by omega) h2 (by omega) (fun j hj hjl => by
          cases hjs : Op.bytesLess l[j].Name s with
          | true => rfl
          | false =>
            have := adj_le hs hm (by omega : j ≤ (lo + hi) / 2)
            rw [nless_tr (a := s) hjs this] at hc; cases hc) h5
      | false =>
        rw [cond_false]
        exact search_is N l s hs hl n lo ((lo + hi) / 2) (by omega) (by omega) (by omega) h4 fun j hj hjl => nless_tr hc (adj_le hs hj hjl)
    · obtain rfl : lo = hi := by omega
      have e0 : decide ((lo : Int) < (lo : Int)) = false := by simp
      rw [e0, cond_false]
      refine ⟨lo, h2, h4, h5, ?_⟩
      by_cases hlo : lo < l.length
      · have e1 : decide ((lo : Int) < (l.length : Int)) = true := by simp; omega
        rw [e1, cond_true, idxC_get hlo, Option.bind_some, find1_is, Option.bind_some, cmpS_zero, dif_pos hlo]
      · have e1 : decide ((lo : Int) < (l.length : Int)) = false := by simp; omega
        rw [e1, cond_false, dif_neg hlo]
theorem value_ev (l : List VLabel) (hw : WLab l) (hs : adjB l = true) (s : List UInt8) : Ev (fun N => labels_Value N l s) (nameVal s l) := ⟨l.length + 1, fun N hN => by
  obtain ⟨k, h1, h2, h3, h4⟩ := search_is N l s hs hw.1 N 0 l.length (by omega) (by omega) (by omega) (fun j hj h => by omega) (fun j hj h => by omega)
  have hk := nameVal_skip (s := s) l k h1 fun j hj e => by
    have := h2 j (by omega) hj
    rw [e, less_irr] at this; cases this
  show labels_Value N l s = _
  unfold labels_Value labels_find slices_BinarySearchFunc_api_Label_api_Label_string__i0
  rw [show (0 : Int) = ((0 : Nat) : Int) from rfl, h4]
  simp only [Option.bind_some]
  by_cases hkl : k < l.length
  · rw [dif_pos hkl, idxC_get hkl]
    simp only [Option.bind_some]
    rw [hk, List.drop_eq_getElem_cons hkl, nameVal]
    by_cases e : l[k].Name = s
    · simp [e]
    · rw [nameVal_none]
      · simp [e]
      · intro z hz ez
        obtain ⟨j, hj, rfl⟩ := List.getElem_of_mem hz
        simp only [List.length_drop] at hj
        simp only [List.getElem_drop] at ez
        have hj2 : k + 1 + j < l.length := by omega
        have h6 := adj_le hs hj2 (by omega : k ≤ k + 1 + j)
        rw [ez] at h6
        exact e (less_eq (h3 k hkl (Nat.le_refl _)) h6)
  · rw [dif_neg hkl, hk, List.drop_eq_nil_of_le (by omega)]; rfl⟩
theorem check1_is (N : Nat) (l : List VLabel) (e : Int) (h : labels_Check N l = some e) (hN : 3 ≤ N) : labels_check N [l] = some e := by
  unfold labels_check
  have key : ∀ m, labels_check_L2 N (m + 2) [l] 1 0 = some e := fun m => by
    rw [labels_check_L2]
    have e0 : decide ((0 : Int) < 1) = true := rfl
    have e1 : idxC [l] 0 = some l := rfl
    rw [e0, cond_true, e1, Option.bind_some, h, Option.bind_some]
    by_cases he : e = 0
    · have e2 : (e != 0) = false := by simpa using he
      rw [e2, cond_false, labels_check_L2, w64_id (by omega) (by omega)]
      have e3 : decide ((0 : Int) + 1 < 1) = false := rfl
      rw [e3, cond_false, he]
    · have e2 : (e != 0) = true := by simpa using he
      rw [e2, cond_true]
  have := key (N - 2)
  rw [show N - 2 + 2 = N by omega] at this
  exact this
theorem each_small {l : List VLabel} (h : chkL l = 0) : l.length ≤ 20 := by
  unfold chkL at h
  split at h
  · rename_i he
    unfold eachB at he
    split at he
    · omega
    · omega
  · rename_i he; exact absurd h he
theorem eachF_none {e : Bool} : ∀ {l : List VLabel}, eachF e l = none → ∀ z ∈ l, isNameL z.Name = true ∧ z.Value.length ≤ 100
  | [], _, z, hz => by cases hz
  | y :: r, h, z, hz => by
    unfold eachF at h
    split at h
    · cases h
    · rename_i h1
      split at h
      · cases h
      · split at h
        · cases h
        · rename_i h3
          rcases List.mem_cons.1 hz with rfl | hz
          · exact ⟨by simpa using h1, by omega⟩
          · exact eachF_none h z hz
theorem right_labels {l : List VLabel} (h : chkL l = 0) : l.length ≤ 20 ∧ ∀ z ∈ l, z.Name.length ≤ 40 ∧ z.Value.length ≤ 100 := by
  refine ⟨each_small h, fun z hz => ?_⟩
  have h1 : eachB false l = 0 := by
    unfold chkL at h
    split at h
    · assumption
    · exact h
  unfold eachB at h1
  split at h1
  · omega
  · cases hf : eachF false l with
    | some e =>
      rw [hf] at h1
      simp only [Option.getD_some] at h1
      exfalso
      have : ∀ {l : List VLabel} {e : Int}, eachF false l = some e → e ≠ 0 := by
        intro l
        induction l with
        | nil => intro e h; cases h
        | cons y r ih =>
          intro e h
          unfold eachF at h
          split at h
          · cases h; decide
          · split at h
            · cases h; decide
            · split at h
              · cases h; decide
              · exact ih h
      exact this hf h1
    | none =>
      obtain ⟨q1, q2⟩ := eachF_none hf z hz
      unfold isNameL at q1
      simp only [Bool.and_eq_true, decide_eq_true_eq] at q1
      exact ⟨q1.2, q2⟩


theorem right_order {l : List VLabel} (h : chkL l = 0) : adjB l = true := by
  unfold chkL at h
  split at h
  · by_cases ha : adjB l = true
    · exact ha
    · rw [if_neg ha] at h; cases h
  · rename_i he; exact absurd h he
theorem get_ev (l : List VLabel) (hw : WLab l) (s : List UInt8) (hs : s.length < 140737488355328) : Ev (fun N => labels_Get N l s) (if chkL l = 0 then (if isNameL s then (nameVal s l, 0) else ([], 1)) else ([], chkL l)) := by
  obtain ⟨N1, h1⟩ := check_ev l hw
  by_cases hc : chkL l = 0
  · have ha : adjB l = true := by
      unfold chkL at hc
      split at hc
      · split at hc
        · assumption
        · cases hc
      · contradiction
    obtain ⟨N2, h2⟩ := value_ev l hw ha s
    refine ⟨max N1 (max N2 3), fun N hN => ?_⟩
    have h1 := h1 N (by omega)
    have h2 := h2 N (by omega)
    simp only at h1 h2
    show labels_Get N l s = _
    unfold labels_Get
    rw [check1_is N l _ h1 (by omega), Option.bind_some, hc, if_pos rfl, isName_ev s hs N, Option.bind_some, h2]
    cases isNameL s <;> simp
  · refine ⟨max N1 3, fun N hN => ?_⟩
    have h1 := h1 N (by omega)
    simp only at h1
    show labels_Get N l s = _
    unfold labels_Get
    have e2 : (chkL l != 0) = true := by simpa using hc
    rw [check1_is N l _ h1 (by omega), Option.bind_some, e2, cond_true, if_neg hc]

theorem eachF_val : ∀ {l : List VLabel}, eachF false l = none → ∀ z ∈ l, isNameL z.Name = true ∧ z.Value ≠ []
  | [], _, z, hz => by cases hz
  | y :: r, h, z, hz => by
    unfold eachF at h
    split at h
    · cases h
    · rename_i h1
      split at h
      · cases h
      · rename_i h2
        split at h
        · cases h
        · rcases List.mem_cons.1 hz with rfl | hz
          · exact ⟨by simpa using h1, fun e => h2 ⟨e, rfl⟩⟩
          · exact eachF_val h z hz
theorem dup_apart : ∀ {l p : List VLabel}, dupP p l = false → (∀ y ∈ p, ∀ z ∈ l, y.Name ≠ z.Name) ∧ l.Pairwise fun x y => x.Name ≠ y.Name
  | [], p, _ => ⟨fun _ _ z hz => (by cases hz), .nil⟩
  | z :: r, p, h => by
    unfold dupP at h
    rw [Bool.or_eq_false_iff] at h
    obtain ⟨q1, q2⟩ := dup_apart h.2
    have h3 : ∀ y ∈ p, y.Name ≠ z.Name := fun y hy e => by
      have := List.any_eq_false.1 h.1 y hy
      simp [e] at this
    refine ⟨fun y hy w hw => ?_, ?_⟩
    · rcases List.mem_cons.1 hw with rfl | hw
      · exact h3 y hy
      · exact q1 y (by simp [hy]) w hw
    · exact List.pairwise_cons.2 ⟨fun w hw => q1 z (by simp) w hw, q2⟩
structure Right (l : List VLabel) : Prop where
  lab : ∀ z ∈ l, isNameL z.Name = true ∧ z.Value ≠ []
  ord : l.Pairwise fun x y => Op.bytesLess x.Name y.Name = true
theorem adj_pair : ∀ {l : List VLabel}, adjB l = true → l.Pairwise fun x y => Op.bytesLess y.Name x.Name = false
  | [], _ => .nil
  | a :: l, h => by
    obtain ⟨h1, h2⟩ := adj_tail h
    exact List.pairwise_cons.2 ⟨h2, adj_pair h1⟩
theorem right_of {l : List VLabel} (h : chkL l = 0) : Right l := by
  have ho := right_order h
  have h1 : eachB false l = 0 := by
    unfold chkL at h
    split at h
    · assumption
    · exact h
  unfold eachB at h1
  split at h1
  · omega
  · cases hf : eachF false l with
    | some e =>
      rw [hf] at h1
      simp only [Option.getD_some] at h1
      exfalso
      have : ∀ {l : List VLabel} {e : Int}, eachF false l = some e → e ≠ 0 := by
        intro l
        induction l with
        | nil => intro e h; cases h
        | cons y r ih =>
          intro e h
          unfold eachF at h
          split at h
          · cases h; decide
          · split at h
            · cases h; decide
            · split at h
              · cases h; decide
              · exact ih h
      exact this hf h1
    | none =>
      rw [hf] at h1
      simp only [Option.getD_none] at h1
      have hd : dupP [] l = false := by
        cases hq : dupP [] l with
        | false => rfl
        | true => rw [hq] at h1; cases h1
      refine ⟨eachF_val hf, (adj_pair ho).imp₂ (fun x y h1 h2 => ?_) (dup_apart hd).2⟩
      cases hb : Op.bytesLess x.Name y.Name with
      | true => rfl
      | false => exact absurd (less_eq hb h1) h2
end Go.Proofs.YtgmlkhfjhogdbaaGreat

/- What labels.Set, labels.With and the reference's PutLabel come to. -/
namespace Go.Proofs.YtgmlkhfjhogdbaaGreat
open Go.RowKit P
set_option linter.unusedVariables false
set_option linter.unusedSimpArgs false
abbrev Lt (a b : List UInt8) : Prop := Op.bytesLess a b = true
abbrev SS (l : List VLabel) : Prop := l.Pairwise fun x y => Lt x.Name y.Name
theorem lt_irr {a : List UInt8} : ¬ Lt a a := fun h => by unfold Lt at h; rw [less_irr] at h; cases h
theorem lt_asym {a b : List UInt8} (h : Lt a b) : ¬ Lt b a := fun h2 => lt_irr (less_tr h h2)
theorem lt_tri (a b : List UInt8) : Lt a b ∨ a = b ∨ Lt b a := by
  unfold Lt
  cases h1 : Op.bytesLess a b with
  | true => exact .inl rfl
  | false =>
    cases h2 : Op.bytesLess b a with
    | true => exact .inr (.inr rfl)
    | false => exact .inr (.inl (less_eq h1 h2))
/-- The labels of less names, and those of greater ones. -/
def lo (nm : List UInt8) (l : List VLabel) : List VLabel := l.filter fun z => Op.bytesLess z.Name nm
def hi (nm : List UInt8) (l : List VLabel) : List VLabel := l.filter fun z => Op.bytesLess nm z.Name
def lab1 (nm v : List UInt8) : List VLabel := if v = [] then [] else [⟨nm, v⟩]
def putP (l : List VLabel) (nm v : List UInt8) : List VLabel := lo nm l ++ (lab1 nm v ++ hi nm l)
theorem lo_all {nm : List UInt8} {l : List VLabel} (h : ∀ z ∈ l, Lt z.Name nm) : lo nm l = l ∧ hi nm l = [] :=
  ⟨List.filter_eq_self.2 h, List.filter_eq_nil_iff.2 fun z hz e => lt_asym (h z hz) e⟩
theorem hi_all {nm : List UInt8} {l : List VLabel} (h : ∀ z ∈ l, Lt nm z.Name) : lo nm l = [] ∧ hi nm l = l :=
  ⟨List.filter_eq_nil_iff.2 fun z hz e => lt_asym (h z hz) e, List.filter_eq_self.2 h⟩
theorem lo_app (nm : List UInt8) (a b : List VLabel) : lo nm (a ++ b) = lo nm a ++ lo nm b := List.filter_append ..
theorem hi_app (nm : List UInt8) (a b : List VLabel) : hi nm (a ++ b) = hi nm a ++ hi nm b := List.filter_append ..
theorem lo_eq {nm : List UInt8} {z : VLabel} (h : z.Name = nm) (l : List VLabel) : lo nm (z :: l) = lo nm l ∧ hi nm (z :: l) = hi nm l := by
  unfold lo hi
  rw [List.filter_cons, List.filter_cons, h, less_irr]
  exact ⟨rfl, rfl⟩
/-- What lies behind what is not less is greater. -/
theorem ss_from {l : List VLabel} (hs : SS l) {k : Nat} {nm : List UInt8} (h : ∀ j (hj : j < l.length), k ≤ j → Op.bytesLess l[j].Name nm = false) : ∀ z ∈ l.drop (k + 1), Lt nm z.Name := by
  intro z hz
  obtain ⟨j, hj, rfl⟩ := List.getElem_of_mem hz
  simp only [List.length_drop] at hj
  simp only [List.getElem_drop]
  have hk : k < l.length := by omega
  have h1 := List.pairwise_iff_getElem.1 hs k (k + 1 + j) hk (by omega) (by omega)
  rcases lt_tri nm l[k].Name with h2 | h2 | h2
  · exact less_tr h2 h1
  · rw [h2]; exact h1
  · have := h k hk (Nat.le_refl _); unfold Lt at h2; rw [this] at h2; cases h2
theorem split_at (l : List VLabel) (k : Nat) (hk : k < l.length) : l = l.take k ++ l[k] :: l.drop (k + 1) := by
  rw [← List.drop_eq_getElem_cons hk, List.take_append_drop]
theorem lt_take {l : List VLabel} {k : Nat} {nm : List UInt8} (h : ∀ j (hj : j < l.length), j < k → Op.bytesLess l[j].Name nm = true) : ∀ z ∈ l.take k, Lt z.Name nm := by
  intro z hz
  obtain ⟨j, hj, rfl⟩ := List.getElem_of_mem hz
  simp only [List.length_take] at hj
  simp only [List.getElem_take]
  exact h j (by omega) (by omega)
theorem gt_drop {l : List VLabel} (hs : SS l) {k : Nat} {nm : List UInt8} (h : ∀ j (hj : j < l.length), k ≤ j → Op.bytesLess l[j].Name nm = false) (hne : ∀ (hk : k < l.length), l[k].Name ≠ nm) : ∀ z ∈ l.drop k, Lt nm z.Name := by
  intro z hz
  by_cases hk : k < l.length
  · rw [List.drop_eq_getElem_cons hk] at hz
    rcases List.mem_cons.1 hz with rfl | hz
    · rcases lt_tri nm l[k].Name with h2 | h2 | h2
      · exact h2
      · exact absurd h2.symm (hne hk)
      · have := h k hk (Nat.le_refl _); unfold Lt at h2; rw [this] at h2; cases h2
    · exact ss_from hs h z hz
  · rw [List.drop_eq_nil_of_le (by omega)] at hz; cases hz
theorem adj_of_ss : ∀ {l : List VLabel}, SS l → adjB l = true
  | [], _ => rfl
  | [_], _ => rfl
  | a :: b :: l, h => by
    obtain ⟨h1, h2⟩ := List.pairwise_cons.1 h
    unfold adjB
    rw [adj_of_ss h2, Bool.and_true]
    cases e : Op.bytesLess b.Name a.Name with
    | false => rfl
    | true => exact absurd e (lt_asym (h1 b (by simp)))
/-- labels.Set, of labels that are right. -/
theorem set_ev (l : List VLabel) (hs : SS l) (hl : l.length < 400000) (nm v : List UInt8) : Ev (fun N => labels_Set N l nm v) (putP l nm v) := ⟨l.length + 1, fun N hN => by
  obtain ⟨k, h1, h2, h3, h4⟩ := search_is N l nm (adj_of_ss hs) (by omega) N 0 l.length (by omega) (by omega) (by omega) (fun j hj h => by omega) (fun j hj h => by omega)
  have ht := lo_all (lt_take h2)
  show labels_Set N l nm v = _
  unfold labels_Set labels_find slices_BinarySearchFunc_api_Label_api_Label_string__i0
  rw [show (0 : Int) = ((0 : Nat) : Int) from rfl, h4]
  simp only [Option.bind_some]
  unfold putP
  by_cases hk : k < l.length
  · rw [dif_pos hk]
    by_cases he : l[k].Name = nm
    · have hg := hi_all (ss_from hs h3)
      have e := lo_eq he (l.drop (k + 1))
      have e1 : lo nm l = l.take k := by
        conv => lhs; rw [split_at l k hk]
        rw [lo_app, ht.1, e.1, hg.1, List.append_nil]
      have e2 : hi nm l = l.drop (k + 1) := by
        conv => lhs; rw [split_at l k hk]
        rw [hi_app, ht.2, e.2, hg.2, List.nil_append]
      rw [e1, e2, decide_eq_true he]
      simp only [Int.toNat_natCast, setL, b2n]
      rw [if_pos ⟨by omega, by omega, hl⟩]
      unfold lab1
      by_cases hv : v = []
      · rw [if_pos hv, if_pos hv]; rfl
      · rw [if_neg hv, if_neg hv, List.getD_eq_getElem?_getD, List.getElem?_eq_getElem hk, Option.getD_some, he]; rfl
    · have hg := hi_all (gt_drop hs h3 fun _ => he)
      have e1 : lo nm l = l.take k := by
        conv => lhs; rw [← List.take_append_drop k l]
        rw [lo_app, ht.1, hg.1, List.append_nil]
      have e2 : hi nm l = l.drop k := by
        conv => lhs; rw [← List.take_append_drop k l]
        rw [hi_app, ht.2, hg.2, List.nil_append]
      rw [e1, e2, decide_eq_false he]
      simp only [Int.toNat_natCast, setL, b2n]
      rw [if_pos ⟨by omega, by omega, hl⟩]
      unfold lab1
      by_cases hv : v = []
      · rw [if_pos hv, if_pos hv, List.nil_append, List.take_append_drop]
      · rw [if_neg hv, if_neg hv]; rfl
  · rw [dif_neg hk]
    have hg := hi_all (gt_drop hs h3 fun h => absurd h hk)
    have e1 : lo nm l = l.take k := by
      conv => lhs; rw [← List.take_append_drop k l]
      rw [lo_app, ht.1, hg.1, List.append_nil]
    have e2 : hi nm l = l.drop k := by
      conv => lhs; rw [← List.take_append_drop k l]
      rw [hi_app, ht.2, hg.2, List.nil_append]
    rw [e1, e2]
    simp only [Int.toNat_natCast, setL, b2n]
    rw [if_pos ⟨by omega, by omega, hl⟩]
    unfold lab1
    by_cases hv : v = []
    · rw [if_pos hv, if_pos hv, List.nil_append, List.take_append_drop]
    · rw [if_neg hv, if_neg hv]; rfl⟩
/-! ### The reference -/
theorem ne_filter {l : List VLabel} {nm : List UInt8} (hs : SS l) : (l.filter fun z => !decide (z.Name = nm)) = lo nm l ++ hi nm l := by
  induction l with
  | nil => rfl
  | cons z l ih =>
    obtain ⟨h1, h2⟩ := List.pairwise_cons.1 hs
    have ih := ih h2
    rcases lt_tri z.Name nm with h | h | h
    · have hn : ¬ z.Name = nm := fun e => by rw [e] at h; exact lt_irr h
      unfold lo hi at ih ⊢
      rw [List.filter_cons, List.filter_cons, List.filter_cons, if_pos (by simpa using hn), if_pos h, if_neg (fun e => lt_asym h e), ih]
      rfl
    · have e := lo_eq h l
      rw [List.filter_cons, if_neg (by simpa using h), e.1, e.2, ih]
    · have hn : ¬ z.Name = nm := fun e => by rw [e] at h; exact lt_irr h
      have hg := hi_all (nm := nm) (l := z :: l) (fun y hy => by
        rcases List.mem_cons.1 hy with rfl | hy
        · exact h
        · exact less_tr h (h1 y hy))
      rw [hg.1, hg.2, List.nil_append, List.filter_eq_self]
      intro y hy
      have : Lt nm y.Name := by
        rcases List.mem_cons.1 hy with rfl | hy
        · exact h
        · exact less_tr h (h1 y hy)
      have : ¬ y.Name = nm := fun e => by rw [e] at this; exact lt_irr this
      simpa using this
end Go.Proofs.YtgmlkhfjhogdbaaGreat

/- What labels.With comes to, and how puts behind puts do. -/
namespace Go.Proofs.YtgmlkhfjhogdbaaGreat
open Go.RowKit P
set_option linter.unusedVariables false
set_option linter.unusedSimpArgs false
theorem nameVal_le {s : List UInt8} {b : Nat} : ∀ {l : List VLabel}, (∀ z ∈ l, z.Value.length ≤ b) → (nameVal s l).length ≤ b
  | [], _ => by simp [nameVal]
  | z :: r, h => by
    unfold nameVal
    split
    · exact h z (by simp)
    · exact nameVal_le fun y hy => h y (by simp [hy])
theorem wlab_right {l : List VLabel} (h : chkL l = 0) : WLab l := by
  obtain ⟨h1, h2⟩ := right_labels h
  exact ⟨by omega, fun z hz => by have := h2 z hz; omega⟩
theorem sameL_self_loop (N : Nat) : ∀ (r p : List VLabel) (n : Nat), r.length < n → (p ++ r).length < 140737488355328 → ref_SameLabels_L4 N n (p ++ r) (p ++ r) (p.length : Int) = some true
  | r, p, 0, h, _ => by omega
  | [], p, n + 1, h, hl => by
    unfold ref_SameLabels_L4
    rw [lt_end, cond_false]
  | z :: r, p, n + 1, h, hl => by
    have hp : p.length + 1 < 9223372036854775808 := by simp at hl; omega
    have ih := sameL_self_loop N r (p ++ [z]) n (by simp only [List.length_cons] at h; omega) (by rw [← cat_next]; exact hl)
    rw [← cat_next] at ih
    unfold ref_SameLabels_L4
    rw [lt_cat, cond_true, idxC_cat, Option.bind_some, Option.bind_some, w64_next p z hp, ih]
    simp [beqS]
theorem sameL_self (N : Nat) (l : List VLabel) (hl : l.length < 140737488355328) (hN : l.length < N) : ref_SameLabels N l l = some true := by
  unfold ref_SameLabels
  have := sameL_self_loop N l [] N hN (by simpa using hl)
  simp only [List.nil_append, List.length_nil] at this
  simp only [bne_self_eq_false, cond_false]
  exact this
/-- What With answers. -/
def withV (l : List VLabel) (nm v : List UInt8) : List VLabel × Int :=
  if chkL l = 0 then (if isNameL nm then (if 100 < v.length then ([], 2) else if 20 < (putP l nm v).length then ([], 2) else (putP l nm v, 0)) else ([], 1)) else ([], chkL l)
theorem with_ev (l : List VLabel) (hw : WLab l) (nm v : List UInt8) (hn : nm.length < 140737488355328) : Ev (fun N => labels_With N l nm v) (withV l nm v) := by
  obtain ⟨N1, h1⟩ := check_ev l hw
  by_cases hc : chkL l = 0
  · have hs := (right_of hc).ord
    have h20 := (right_labels hc).1
    obtain ⟨N2, h2⟩ := set_ev l hs (by omega) nm v
    refine ⟨max N1 (max N2 3), fun N hN => ?_⟩
    have h1 := h1 N (by omega)
    have h2 := h2 N (by omega)
    simp only at h1 h2
    show labels_With N l nm v = _
    unfold labels_With withV
    rw [check1_is N l _ h1 (by omega), Option.bind_some, hc, if_pos rfl, isName_ev nm hn N, Option.bind_some, h2]
    cases isNameL nm with
    | false => simp
    | true =>
      by_cases hv : 100 < v.length
      · rw [if_pos rfl, if_pos hv, decide_eq_true (by omega)]; rfl
      · rw [if_pos rfl, if_neg hv, decide_eq_false (by omega)]
        by_cases hq : 20 < (putP l nm v).length
        · rw [if_pos hq, Option.bind_some, decide_eq_true (by omega)]; rfl
        · rw [if_neg hq, Option.bind_some, decide_eq_false (by omega)]; rfl
  · refine ⟨max N1 3, fun N hN => ?_⟩
    have h1 := h1 N (by omega)
    simp only at h1
    show labels_With N l nm v = _
    unfold labels_With withV
    have e2 : (chkL l != 0) = true := by simpa using hc
    rw [check1_is N l _ h1 (by omega), Option.bind_some, e2, cond_true, if_neg hc]
/-! ### Labels that pass -/
theorem eachF_mk : ∀ {l : List VLabel}, (∀ z ∈ l, isNameL z.Name = true ∧ z.Value ≠ [] ∧ z.Value.length ≤ 100) → eachF false l = none
  | [], _ => rfl
  | z :: r, h => by
    obtain ⟨h1, h2, h3⟩ := h z (by simp)
    unfold eachF
    rw [if_neg (by simp [h1]), if_neg (fun e => h2 e.1), if_neg (by omega)]
    exact eachF_mk fun y hy => h y (by simp [hy])
theorem dup_mk : ∀ {l p : List VLabel}, SS l → (∀ y ∈ p, ∀ z ∈ l, Lt y.Name z.Name) → dupP p l = false
  | [], _, _, _ => rfl
  | z :: r, p, h, hp => by
    obtain ⟨h1, h2⟩ := List.pairwise_cons.1 h
    unfold dupP
    rw [dup_mk h2 (fun y hy w hw => by
      rcases List.mem_append.1 hy with hy | hy
      · exact hp y hy w (by simp [hw])
      · rw [List.mem_singleton.1 hy]; exact h1 w hw), Bool.or_false, List.any_eq_false]
    intro y hy e
    have h3 := hp y hy z (by simp)
    rw [of_decide_eq_true e] at h3
    exact lt_irr h3
theorem chk_mk {l : List VLabel} (h : l.length ≤ 20) (hz : ∀ z ∈ l, isNameL z.Name = true ∧ z.Value ≠ [] ∧ z.Value.length ≤ 100) (hs : SS l) : chkL l = 0 := by
  have : eachB false l = 0 := by
    unfold eachB
    rw [if_neg (by omega), eachF_mk hz, Option.getD_none, dup_mk hs (fun y hy => by cases hy), if_neg (by decide)]
  unfold chkL
  rw [this, if_pos rfl, adj_of_ss hs, if_pos rfl]
theorem mem_putP {l : List VLabel} {nm v : List UInt8} {z : VLabel} (h : z ∈ putP l nm v) : z ∈ l ∨ (v ≠ [] ∧ z = ⟨nm, v⟩) := by
  unfold putP lo hi lab1 at h
  rcases List.mem_append.1 h with h | h
  · exact .inl (List.mem_filter.1 h).1
  · rcases List.mem_append.1 h with h | h
    · by_cases hv : v = []
      · rw [if_pos hv] at h; cases h
      · rw [if_neg hv] at h; exact .inr ⟨hv, List.mem_singleton.1 h⟩
    · exact .inl (List.mem_filter.1 h).1
theorem mem_lo {l : List VLabel} {nm : List UInt8} {z : VLabel} (h : z ∈ lo nm l) : Lt z.Name nm := (List.mem_filter.1 h).2
theorem mem_hi {l : List VLabel} {nm : List UInt8} {z : VLabel} (h : z ∈ hi nm l) : Lt nm z.Name := (List.mem_filter.1 h).2
theorem mem_lab1 {nm v : List UInt8} {z : VLabel} (h : z ∈ lab1 nm v) : z.Name = nm := by
  unfold lab1 at h
  split at h
  · cases h
  · rw [List.mem_singleton.1 h]
theorem ss_putP {l : List VLabel} (hs : SS l) (nm v : List UInt8) : SS (putP l nm v) := by
  unfold putP
  refine List.pairwise_append.2 ⟨hs.filter _, List.pairwise_append.2 ⟨?_, hs.filter _, fun a ha b hb => ?_⟩, fun a ha b hb => ?_⟩
  · unfold lab1
    split
    · exact .nil
    · exact List.pairwise_singleton ..
  · rw [mem_lab1 ha]; exact mem_hi hb
  · rcases List.mem_append.1 hb with hb | hb
    · rw [mem_lab1 hb]; exact mem_lo ha
    · exact less_tr (mem_lo ha) (mem_hi hb)
theorem chk_putP {l : List VLabel} (h : chkL l = 0) {nm v : List UInt8} (hn : isNameL nm = true) (hv : v.length ≤ 100) (hl : (putP l nm v).length ≤ 20) : chkL (putP l nm v) = 0 := by
  have hr := right_of h
  refine chk_mk hl (fun z hz => ?_) (ss_putP hr.ord nm v)
  rcases mem_putP hz with hz | ⟨h1, rfl⟩
  · exact ⟨(hr.lab z hz).1, (hr.lab z hz).2, ((right_labels h).2 z hz).2⟩
  · exact ⟨hn, h1, hv⟩
theorem lo_putP (l : List VLabel) (nm v : List UInt8) : lo nm (putP l nm v) = lo nm l ∧ hi nm (putP l nm v) = hi nm l := by
  have e1 : lo nm (lab1 nm v) = [] ∧ hi nm (lab1 nm v) = [] := by
    unfold lab1
    split
    · exact ⟨rfl, rfl⟩
    · exact lo_eq rfl []
  have e2 := hi_all (nm := nm) (l := hi nm l) fun z hz => mem_hi hz
  have e3 := lo_all (nm := nm) (l := lo nm l) fun z hz => mem_lo hz
  unfold putP
  rw [lo_app, lo_app, hi_app, hi_app, e1.1, e1.2, e2.1, e2.2, e3.1, e3.2]
  simp
theorem putP_putP (l : List VLabel) (nm v w : List UInt8) : putP (putP l nm v) nm w = putP l nm w := by
  obtain ⟨e1, e2⟩ := lo_putP l nm v
  show lo nm (putP l nm v) ++ (lab1 nm w ++ hi nm (putP l nm v)) = _
  rw [e1, e2]; rfl
theorem putP_same {nm : List UInt8} : ∀ {l : List VLabel}, SS l → (∀ z ∈ l, z.Value ≠ []) → putP l nm (nameVal nm l) = l
  | [], _, _ => rfl
  | z :: l, hs, hv => by
    obtain ⟨h1, h2⟩ := List.pairwise_cons.1 hs
    have ih := putP_same (nm := nm) h2 fun y hy => hv y (by simp [hy])
    rcases lt_tri z.Name nm with h | h | h
    · have hn : ¬ z.Name = nm := fun e => by rw [e] at h; exact lt_irr h
      unfold putP lo hi at ih ⊢
      rw [nameVal, if_neg hn, List.filter_cons, List.filter_cons, if_pos h, if_neg (fun e => lt_asym h e), List.cons_append, ih]
    · have e := lo_eq h l
      have hg := hi_all (nm := nm) (l := l) fun y hy => by have := h1 y hy; rw [h] at this; exact this
      unfold putP lab1
      rw [e.1, e.2, hg.1, hg.2, nameVal, if_pos h, if_neg (hv z (by simp)), ← h]; rfl
    · have hg := hi_all (nm := nm) (l := z :: l) fun y hy => by
        rcases List.mem_cons.1 hy with rfl | hy
        · exact h
        · exact less_tr h (h1 y hy)
      have : nameVal nm (z :: l) = [] := nameVal_none _ fun y hy e => by
        have : Lt nm y.Name := by
          rcases List.mem_cons.1 hy with rfl | hy
          · exact h
          · exact less_tr h (h1 y hy)
        rw [e] at this; exact lt_irr this
      unfold putP lab1
      rw [hg.1, hg.2, this, if_pos rfl]; rfl
theorem nameVal_app {s : List UInt8} : ∀ {a : List VLabel} (b : List VLabel), (∀ z ∈ a, z.Name ≠ s) → nameVal s (a ++ b) = nameVal s b
  | [], _, _ => rfl
  | z :: a, b, h => by
    rw [List.cons_append, nameVal, if_neg (h z (by simp))]
    exact nameVal_app b fun y hy => h y (by simp [hy])
theorem nameVal_put (l : List VLabel) (nm v : List UInt8) : nameVal nm (putP l nm v) = v := by
  unfold putP
  rw [nameVal_app _ fun z hz e => by have := mem_lo hz; rw [e] at this; exact lt_irr this]
  unfold lab1
  split
  · rename_i h
    rw [h, List.nil_append, nameVal_none]
    intro z hz e
    have := mem_hi hz; rw [e] at this; exact lt_irr this
  · rw [List.cons_append, nameVal, if_pos rfl]
theorem nameVal_mid {s : List UInt8} {x : List VLabel} (h : ∀ z ∈ x, z.Name ≠ s) : ∀ (a b : List VLabel), nameVal s (a ++ (x ++ b)) = nameVal s (a ++ b)
  | [], b => nameVal_app b h
  | z :: a, b => by
    rw [List.cons_append, List.cons_append, nameVal, nameVal, nameVal_mid h a b]
theorem nameVal_filter {s nm : List UInt8} (h : s ≠ nm) : ∀ (l : List VLabel), nameVal s (l.filter fun z => !decide (z.Name = nm)) = nameVal s l
  | [] => rfl
  | z :: l => by
    rw [List.filter_cons, nameVal]
    by_cases hz : z.Name = nm
    · rw [if_neg (by simpa using hz), if_neg (fun (e : z.Name = s) => h (e.symm.trans hz)), nameVal_filter h l]
    · rw [if_pos (by simpa using hz), nameVal, nameVal_filter h l]
theorem nameVal_other {l : List VLabel} (hs : SS l) {s nm : List UInt8} (h : s ≠ nm) (v : List UInt8) : nameVal s (putP l nm v) = nameVal s l := by
  unfold putP
  have h1 : ∀ z ∈ lab1 nm v, z.Name ≠ s := fun z hz e => h (e.symm.trans (mem_lab1 hz))
  rw [nameVal_mid h1, ← ne_filter hs, nameVal_filter h]
theorem len_del {l : List VLabel} (hs : SS l) (nm : List UInt8) : (putP l nm []).length ≤ l.length := by
  unfold putP lab1
  rw [if_pos rfl, List.nil_append, ← ne_filter hs]
  exact List.length_filter_le _ _
end Go.Proofs.YtgmlkhfjhogdbaaGreat
