/- labels.Text, of any labels. -/
import Derived.Test.YtgmlkhfjhogdbaaTF
import Derived.Test.YtgmlkhfjhogdbaaTN
import Derived.Test.YtgmlkhfjhogdbaaRPD
import Derived.Test.YtgmlkhfjhogdbaaSJ
import Derived.Test.YtgmlkhfjhogdbaaFF01
namespace Go.Proofs.Ytgmlkhfjhogdbaa
open Go.RowKit P
set_option linter.unusedSimpArgs false
set_option linter.unusedVariables false
def nameB : List UInt8 := [95, 95, 110, 97, 109, 101, 95, 95]
def labA (l : List VLabel) : List (List AV) := l.map fun z => [.v (.string (mkB z.Name)), .v (.string (mkB z.Value))]
def partOf (z : VLabel) : List UInt8 := z.Name ++ [61, 34] ++ escB z.Value ++ [34]
/-- What the labels are told as, but for the name. -/
def partsB : List VLabel → List (List UInt8)
  | [] => []
  | z :: r => if z.Name = nameB then partsB r else partOf z :: partsB r
def textB (l : List VLabel) (v : List UInt8) : List UInt8 := if partsB l = [] ∧ v ≠ [] then v else v ++ [123] ++ Lib.join (partsB l) [44] ++ [125]
def rowsV (ps : List (List UInt8)) : List (List AV) := ps.map fun s => [AV.v (.string (mkB s))]
def partsV (ps : List (List UInt8)) : AV := match ps with
  | [] => .v (.slice none 0 0)
  | _ => .sl true 1 (rowsV ps)
theorem partsB_app : ∀ (a b : List VLabel), partsB (a ++ b) = partsB a ++ partsB b
  | [], b => rfl
  | z :: a, b => by
    rw [List.cons_append]
    have ih := partsB_app a b
    by_cases h : z.Name = nameB
    · simp only [partsB, if_pos h, ih]
    · simp only [partsB, if_neg h, ih]; rfl
theorem partsB_len : ∀ l : List VLabel, (partsB l).length ≤ l.length
  | [] => Nat.le_refl _
  | z :: r => by
    have := partsB_len r
    unfold partsB
    split <;> simp <;> omega
section
variable {P : Program} {L : List Oper} {mN : Nat → Bool} {K : AS → Prop} {k d : Nat} {o : Oper} {rest : List Oper} {σ : AS} {u : AV}
theorem n_op (hm : mN k = true) (h1 : o.dst = some d) (h2 : o.guard = none) (h3 : Nat.ble (d + 1) σ.n = true) (h4 : OpV P o σ u) (h5 : Det L mN o u) (h : NSem P L mN K (k + 1) rest (σ.put d u)) : NSem P L mN K k (o :: rest) σ := by
  unfold NSem; rw [hm]; exact ⟨d, u, h1, h2, h3, h4, h5, h⟩
theorem n_skip (hm : mN k = false) (h : NSem P L mN K (k + 1) rest σ) : NSem P L mN K k (o :: rest) σ := by
  unfold NSem; rw [hm]; exact h
theorem c_op (h : EffOp P o σ (CSem P K rest)) : CSem P K (o :: rest) σ := h
theorem c_val (hdst : o.dst = some d) (hd : Nat.ble (d + 1) σ.n = true) (hv : OpV P o σ u) (h : CSem P K rest ((σ.free d).put d u)) : CSem P K (o :: rest) σ := eff_of_opv hdst hd hv h
theorem c_le {σ' : AS} (hl : Le σ σ') (h : CSem P K (o :: rest) σ') : CSem P K (o :: rest) σ := fun F X a hs => h F X a (hs.le hl)
theorem n_end (h : K σ) : NSem P L mN K k [] σ := h
theorem c_end (h : K σ) : CSem P K [] σ := h
end
theorem join_le (sep : List UInt8) (b : Nat) : ∀ l : List (List UInt8), (∀ s ∈ l, s.length ≤ b) → (Lib.join l sep).length ≤ l.length * (b + sep.length)
  | [], _ => by simp [Lib.join_nil]
  | [x], h => by rw [Lib.join_one]; have := h x (by simp); simp; omega
  | x :: y :: r, h => by
    have ih := join_le sep b (y :: r) fun s hs => h s (by simp [hs])
    have hx := h x (by simp)
    rw [Lib.join_cons]
    rw [Lib.join_cons] at ih
    simp only [Lib.joinTail, List.map_cons, List.flatten_cons, List.length_append, List.length_cons] at ih ⊢
    rw [Nat.succ_mul (r.length + 1)]
    omega
theorem partsB_le : ∀ l : List VLabel, (∀ z ∈ l, z.Name.length ≤ 40 ∧ z.Value.length ≤ 100) → ∀ s ∈ partsB l, s.length ≤ 243
  | [], _, s, hs => by cases hs
  | z :: r, h, s, hs => by
    have ih := partsB_le r fun y hy => h y (by simp [hy])
    have hz := h z (by simp)
    have he := escB_len z.Value
    unfold partsB at hs
    split at hs
    · exact ih s hs
    · rcases List.mem_cons.1 hs with rfl | hs
      · unfold partOf; simp only [List.length_append, List.length_cons, List.length_nil]; omega
      · exact ih s hs
theorem join_small (l : List VLabel) (hl : l.length ≤ 20) (hz : ∀ z ∈ l, z.Name.length ≤ 40 ∧ z.Value.length ≤ 100) : (Lib.join (partsB l) [44]).length ≤ 5000 := by
  have h1 := join_le [44] 243 (partsB l) (partsB_le l hz)
  have h2 := partsB_len l
  have : (partsB l).length * (243 + [(44 : UInt8)].length) ≤ 20 * 244 := Nat.mul_le_mul (by omega) (by decide)
  omega
def AllP {α : Type} (p : α → Prop) : List α → Prop
  | [] => True
  | a :: r => p a ∧ AllP p r
theorem look_allP {α : Type} {l : List (Nat × α)} {f : Nat → Option α} : ∀ {m : List (Nat × α)}, AllP (fun p => f p.1 = some p.2) m → ∀ t u, look m t = some u → f t = some u
  | [], _, t, u, h => by simp [look_nil] at h
  | (a, b) :: m, ha, t, u, h => by
    rw [look_cons] at h
    split at h
    · rename_i e; subst e; cases h; exact ha.1
    · exact look_allP (l := l) ha.2 t u h
section
variable {P : Program} {K : AS → Prop} {o : Oper} {rest : List Oper} {σ : AS}
theorem c_sub {σ' : AS} (hn : σ'.n = σ.n) (ht : AllP (fun p => look σ.t p.1 = some p.2) σ'.t) (hh : AllP (fun p => look σ.h p.1 = some p.2) σ'.h) (he : ∀ p ∈ σ'.e, p ∈ σ.e) (h : CSem P K (o :: rest) σ') : CSem P K (o :: rest) σ := fun F X a hs => h F X a (hs.sub hn (look_allP (l := []) ht) (look_allP (l := []) hh) he)
end
theorem look_h {α : Type} (k : Nat) (a : α) (r : List (Nat × α)) : look ((k, a) :: r) k = some a := by rw [look_cons, if_pos rfl]
attribute [local irreducible] AS.nf OpV ARun Stk QSem QSemA ACalls EffOp AppOk SrcOk Awp Aops NSem CSem
set_option maxHeartbeats 2000000
set_option maxRecDepth 100000 in
theorem text_a (l : List VLabel) (v : List UInt8) (hl : l.length ≤ 20) (hz : ∀ z ∈ l, z.Name.length ≤ 40 ∧ z.Value.length ≤ 100) (hv : v.length ≤ 100)
    (hck : ACalls Try.prog 14 [.sl false 1 [[.sl false 2 (labA l)]]] [] (fun out H => out = .ret (.v (.int .i64 0)) ∧ H = []))
    (hval : ACalls Try.prog 15 [.sl false 2 (labA l), .v (.string (mkB nameB))] [] (fun out H => out = .ret (.v (.string (mkB v))) ∧ H = [])) :
    ACalls Try.prog 5 [.sl false 2 (labA l)] [] (fun out H => out = .ret (.tu [.v (.string (mkB (textB l v))), .v (.int .i64 0)]) ∧ H = []) := by
  have hll : (labA l).length = l.length := by simp [labA]
  unfold nameB at hval
  refine acalls_enter _ 54 [.tmp 2, .tmp 3] Try.func5 (by kernel_rfl) rfl rfl rfl rfl ?_
  dsimp only [slotsOf]
  repeat (first
    | ((first | apply ar_un); (next => (first | (simp only [go_sem, Nat.reduceBEq, Nat.reduceEqDiff, reduceIte, reduceCtorEq, String.reduceEq, Nat.reduceAdd, Int.reduceToNat]; exact rfl))))
    | (apply ar_op' rfl rfl rfl rfl; (next => (first
     | (refine evalE_ok (T := TT) rfl ?_; (first | exact trivial))
     | (apply opk ⟨_, .binOp .neq _ _ _ _, _, _, _, _⟩; first | (refine opv_cmp_f rfl rfl rfl ?_; (next => (first | (simp only [cmpP]; omega)))) | fail)
     | (apply opk ⟨_, .call { callee := .builtin .len, args := _, argTypes := _ }, _, _, _, _⟩; first | exact opv_len_sl (T := TT) rfl rfl rfl | fail)
     | (apply opk ⟨_, .buildSlice _ _ _, _, _, _, _⟩; first | exact opv_build_slice (T := TT) rfl rfl rfl rfl rfl rfl rfl | fail)
     | fail)))
    | (refine arO _ ?_; first
     | (refine arO ⟨_, .move _, _, _, _, _⟩ ?_; first | refine ar_move_sl rfl rfl rfl rfl ?_ | fail)
     | (refine arO ⟨_, .call { callee := .value _, args := _, argTypes := _ }, _, _, _, _⟩ ?_; first
      | (apply ar_callM0 rfl (hck) rfl rfl; (next => (repeat (first | exact PArgs.nil | (apply PArgs.cons; (next => (first | exact PArg.rd rfl (Le1.rd _ _ _) rfl)))))); (next => rfl); (next => rfl); rintro _ _ ⟨rfl, rfl⟩; refine ⟨_, rfl, ?_⟩)
      | (apply ar_callM0 rfl (hval) rfl rfl; (next => (repeat (first | exact PArgs.nil | (apply PArgs.cons; (next => (first | exact PArg.rd rfl (Le1.refl _) rfl)))))); (next => rfl); (next => rfl); rintro _ _ ⟨rfl, rfl⟩; refine ⟨_, rfl, ?_⟩)
      | fail)
     | fail)
    | refine ar_seq ?_
    | (refine arE ?_; refine ar_endM [0, 2, 3, 4, 5, 6, 8, 13, 17, 18, 19, 20, 25, 46] rfl ?_)
    | refine ar_region ?_
    | refine ar_block ?_
    | refine ar_skip ?_
    | (refine arC (.cond _ _ _) ?_; first | (refine ar_cond_false rfl ?_ ?_; (next => (first | rfl))) | fail)
    | fail)
  refine ar_loop (fun y : Nat => ⟨54, [(0, .sl false 2 (labA l)), (5, .v (.string (mkB v))), (6, partsV (partsB (l.take y))), (17, .sl false 2 (labA l)), (18, .v (.int .i64 (l.length : Nat))), (19, .v (.int .i64 (y : Nat)))], [], []⟩) (fun y => y ≤ l.length) (fun y => l.length - y) 0 ⟨rfl, ?_, ?_, rfl⟩ (Nat.zero_le _) ?_
  · (repeat' (first | exact trivial | exact .refl _ | refine ⟨⟨_, rfl, ?_⟩, ?_⟩ | refine Le1.of_eq ?_))
    all_goals (rw [hll])
  · (repeat' (first | exact trivial))
  intro y hy
  by_cases hlt : y < l.length
  · have hget : l[y]? = some l[y] := List.getElem?_eq_getElem hlt
    generalize l[y] = z at hget
    have hzm := hz z (List.mem_of_getElem? hget)
    have hel0 := escB_len z.Value
    have hyl : ((y : Nat) : Int) < (labA l).length := by rw [hll]; omega
    have hel : AV.el ((labA l).getD ((y : Nat) : Int).toNat []) = AV.el [.v (.string (mkB z.Name)), .v (.string (mkB z.Value))] := by
      rw [Int.toNat_natCast]; simp [labA, List.getD, hget]
    have htk : l.take (y + 1) = l.take y ++ [z] := by rw [List.take_add_one, hget]; rfl
    by_cases hn : z.Name = [95, 95, 110, 97, 109, 101, 95, 95]
    · have e7 : partsB (l.take (y + 1)) = partsB (l.take y) := by rw [htk, partsB_app]; simp [partsB, nameB, hn]
      repeat (first
        | ((first | apply ar_un); (next => (first | (simp only [go_sem, Nat.reduceBEq, Nat.reduceEqDiff, reduceIte, reduceCtorEq, String.reduceEq, Nat.reduceAdd, Int.reduceToNat]; exact rfl))))
        | ((first | apply ar_op' rfl rfl rfl rfl); (next => exact opv_eq (opv_indexaddr (T := TT) rfl rfl rfl rfl (Int.natCast_nonneg _) hyl) hel))
        | (apply ar_op' rfl rfl rfl rfl; (next => (first
         | (refine evalE_ok (T := TT) rfl ?_; (first | exact trivial | omega))
         | (apply opk ⟨_, .binOp .neq _ _ _ _, _, _, _, _⟩; first | (refine opv_sne_f rfl rfl rfl ?_; (next => (first | assumption))) | fail)
         | (apply opk ⟨_, .binOp .lss _ _ _ _, _, _, _, _⟩; first | (refine opv_cmp_t rfl rfl rfl ?_; (next => (first | (simp only [cmpP]; omega)))) | fail)
         | (apply opk ⟨_, .fieldAddr _ _ _, _, _, _, _⟩; first | exact opv_field_box (T := TT) rfl rfl rfl rfl rfl | fail)
         | (apply opk ⟨_, .load _ _, _, _, _, _⟩; first | exact opv_load_els (T := TT) rfl rfl rfl rfl | fail)
         | fail)))
        | (refine arO _ ?_; first
         | (refine arO ⟨_, .load _ _, _, _, _, _⟩ ?_; first | refine ar_load_own (T := TT) rfl rfl rfl rfl look_hd rfl rfl rfl rfl ?_ | fail)
         | (refine arO ⟨_, .store _ _ _, _, _, _, _⟩ ?_; first
          | (apply ar_effM rfl rfl; (next => (first
           | (apply effTo_store (T := TT) rfl; (next => (first | exact look_hd | fail)); (next => rfl); (next => rfl); (next => rfl); (next => rfl); (next => rfl); (next => rfl); (next => rfl); (next => rfl))
           | fail)))
          | fail)
         | (refine arO ⟨_, .alloc _, _, _, _, _⟩ ?_; first
          | (refine ar_eff rfl rfl (eff_alloc (T := TT) rfl rfl ?_); intro kb hkb; (repeat (have hkn := (freshK_ne hkb).1; replace hkb := (freshK_ne hkb).2)); (try have hkl := freshK_look hkb); clear hkb; refine ar_nf ?_)
          | fail)
         | fail)
        | refine ar_seq ?_
        | (refine arE ?_; refine ar_endM [0, 2, 3, 4, 5, 6, 8, 13, 17, 18, 19, 20, 25, 46] rfl ?_)
        | refine ar_region ?_
        | refine ar_block ?_
        | refine ar_skip ?_
        | refine ar_blk ?_
        | refine ar_dedup rfl ?_
        | (refine arC (.cond _ _ _) ?_; first | (refine ar_cond_true rfl ?_ ?_; (next => (first | rfl))) | (refine ar_cond_false rfl ?_ ?_; (next => (first | rfl))) | fail)
        | fail)
      refine ar_back ⟨y + 1, ⟨rfl, ?_, ?_, rfl⟩, by omega, by omega⟩
      · (repeat' (first | exact trivial | exact .refl _ | refine ⟨⟨_, rfl, ?_⟩, ?_⟩ | refine Le1.of_eq ?_))
        all_goals rw [e7]
      · (repeat' (first | exact trivial))
    · have hnb : partsB [z] = [partOf z] := by simp [partsB, nameB, hn]
      have hpl := partsB_len (l.take y)
      rw [List.length_take_of_le hy] at hpl
      by_cases hps : partsB (l.take y) = []
      · have e6 : partsV (partsB (l.take y)) = .v (.slice none 0 0) := by rw [hps]; rfl
        have e7 : partsV (partsB (l.take (y + 1))) = .sl true 1 (rowsV [partOf z]) := by rw [htk, partsB_app, hps, hnb]; rfl
        rw [e6]
        repeat (first
          | ((first | apply ar_un); (next => (first | (simp only [go_sem, Nat.reduceBEq, Nat.reduceEqDiff, reduceIte, reduceCtorEq, String.reduceEq, Nat.reduceAdd, Int.reduceToNat]; exact rfl))))
          | ((first | apply ar_op' rfl rfl rfl rfl); (next => exact opv_eq (opv_indexaddr (T := TT) rfl rfl rfl rfl (Int.natCast_nonneg _) hyl) hel))
          | (apply ar_op' rfl rfl rfl rfl; (next => (first
           | (apply opk ⟨_, .binOp .neq _ _ _ _, _, _, _, _⟩; first | (refine opv_sne_t rfl rfl rfl ?_; (next => (first | assumption))) | fail)
           | (apply opk ⟨_, .binOp .lss _ _ _ _, _, _, _, _⟩; first | (refine opv_cmp_t rfl rfl rfl ?_; (next => (first | (simp only [cmpP]; omega)))) | fail)
           | (apply opk ⟨_, .fieldAddr _ _ _, _, _, _, _⟩; first | exact opv_field_box (T := TT) rfl rfl rfl rfl rfl | fail)
           | (apply opk ⟨_, .load _ _, _, _, _, _⟩; first | exact opv_load_els (T := TT) rfl rfl rfl rfl | fail)
           | fail)))
          | (refine arO _ ?_; first
           | (refine arO ⟨_, .load _ _, _, _, _, _⟩ ?_; first | refine ar_load_own (T := TT) rfl rfl rfl rfl look_hd rfl rfl rfl rfl ?_ | fail)
           | (refine arO ⟨_, .store _ _ _, _, _, _, _⟩ ?_; first
            | (apply ar_effM rfl rfl; (next => (first
             | (apply effTo_store (T := TT) rfl; (next => (first | exact look_hd | fail)); (next => rfl); (next => rfl); (next => rfl); (next => rfl); (next => rfl); (next => rfl); (next => rfl); (next => rfl))
             | fail)))
            | fail)
           | (refine arO ⟨_, .alloc _, _, _, _, _⟩ ?_; first
            | (refine ar_eff rfl rfl (eff_alloc (T := TT) rfl rfl ?_); intro kb hkb; (repeat (have hkn := (freshK_ne hkb).1; replace hkb := (freshK_ne hkb).2)); (try have hkl := freshK_look hkb); clear hkb; refine ar_nf ?_)
            | fail)
           | fail)
          | refine ar_seq ?_
          | (refine arE ?_; refine ar_endM [0, 2, 3, 4, 5, 6, 8, 13, 17, 18, 19, 20, 25, 46] rfl ?_)
          | refine ar_region ?_
          | refine ar_block ?_
          | refine ar_skip ?_
          | refine ar_dedup rfl ?_
          | (refine arC (.cond _ _ _) ?_; first | (refine ar_cond_true rfl ?_ ?_; (next => (first | rfl))) | fail)
          | fail)
        refine ar_drawM (st := fun _ => true) (mN := fun i => [0, 1, 2, 3, 6, 7].contains i) (cs := [4, 5, 8, 9, 10, 11, 12, 13]) mixed (mixB_ok (by kernel_rfl)) rfl (fun k c hk => ?_) ?_
        · simp only [List.filter_cons, List.filter_nil, if_true, look_cons, look_nil] at hk
          split at hk
          · cases hk; rfl
          · cases hk
        refine n_op (d := 26) (u := .v (.slice none 0 0)) rfl rfl rfl rfl (opv_move_rd (u := .v (.slice none 0 0)) rfl (.inl rfl)) ⟨rfl, .inl ⟨_, rfl⟩⟩ ?_
        refine n_op (d := 27) (u := .v (.pointer (some ⟨kb, 0, none⟩))) rfl rfl rfl rfl (opv_eq (opv_field_box (T := TT) rfl rfl rfl rfl rfl) rfl) ⟨rfl, .inl ⟨_, rfl⟩⟩ ?_
        refine n_op (d := 28) (u := .v (.string (mkB z.Name))) rfl rfl rfl rfl (opv_load_box (u := .v (.string (mkB z.Name))) (T := TT) rfl (look_h _ _ _) rfl rfl rfl rfl) ⟨rfl, .inl ⟨_, rfl⟩⟩ ?_
        refine n_op (d := 29) (u := .v (.string (mkB (z.Name ++ [61, 34])))) rfl rfl rfl rfl (opv_eq (opv_cat rfl rfl (by show z.Name.length + 2 ≤ _; omega)) rfl) ⟨rfl, .inl ⟨_, rfl⟩⟩ ?_
        refine n_skip rfl (n_skip rfl ?_)
        refine n_op (d := 32) (u := .v (.pointer (some ⟨kb, 1, none⟩))) rfl rfl rfl rfl (opv_eq (opv_field_box (T := TT) rfl rfl rfl rfl rfl) rfl) ⟨rfl, .inl ⟨_, rfl⟩⟩ ?_
        refine n_op (d := 33) (u := .v (.string (mkB z.Value))) rfl rfl rfl rfl (opv_load_box (u := .v (.string (mkB z.Value))) (T := TT) rfl (look_h _ _ _) rfl rfl rfl rfl) ⟨rfl, .inl ⟨_, rfl⟩⟩ ?_
        refine n_skip rfl (n_skip rfl (n_skip rfl (n_skip rfl (n_skip rfl (n_skip rfl (n_end ?_))))))
        refine c_le (σ' := ⟨54, [(0, .sl false 2 (labA l)), (5, .v (.string (mkB v))), (17, .sl false 2 (labA l)), (18, .v (.int .i64 (l.length : Nat))), (19, .v (.int .i64 (y : Nat))), (26, .v (.slice none 0 0)), (29, .v (.string (mkB (z.Name ++ [61, 34])))), (33, .v (.string (mkB z.Value)))], [], []⟩) ⟨rfl, ?_, ?_, rfl⟩ ?_
        · (repeat' (first | exact trivial | exact .refl _ | refine ⟨⟨_, rfl, ?_⟩, ?_⟩))
        · (repeat' (first | exact trivial))
        refine c_val (d := 30) (u := .sl true 1 six) rfl rfl (opv_eq (opv_build_slice (T := TT) rfl rfl rfl rfl rfl rfl rfl) (by kernel_rfl)) ?_
        refine c_op (eff_call (Hp := []) (Hr := []) newReplacer_a (.cons (.rd rfl (Le1.rd _ _ _) rfl) .nil) (fun i j r hi hj => oneSome_spec (ρs := [none]) rfl i j r r hi hj) (fun _ _ _ => rfl) (fun k cs hk => by simp [look_nil] at hk) (fun k cs hk => by simp [look_nil] at hk) rfl ?_)
        rintro _ _ ⟨B, rfl, rfl⟩
        refine ⟨_, rfl, ?_⟩
        refine c_op (eff_call (Hp := [(B, repA)]) (Hr := []) (repl_a B z.Value (escB z.Value) (fun k r hkr => rep_a k r hkr z.Value (by omega))) (.cons (.rd rfl (Le1.refl _) rfl) (.cons (.rd rfl (Le1.refl _) rfl) .nil)) (fun i j r hi hj => oneSome_spec (ρs := [none, none]) rfl i j r r hi hj) (fun _ _ hh => by simp at hh) (fun k cs hk => hk) (fun k cs hk => by simp [look_nil] at hk) rfl ?_)
        rintro _ _ ⟨rfl, rfl⟩
        refine ⟨_, rfl, ?_⟩
        refine c_le (σ' := ⟨54, [(0, .sl false 2 (labA l)), (5, .v (.string (mkB v))), (17, .sl false 2 (labA l)), (18, .v (.int .i64 (l.length : Nat))), (19, .v (.int .i64 (y : Nat))), (26, .v (.slice none 0 0)), (29, .v (.string (mkB (z.Name ++ [61, 34])))), (34, .v (.string (mkB (escB z.Value))))], [], []⟩) ⟨rfl, ?_, ?_, rfl⟩ ?_
        · (repeat' (first | exact trivial | exact .refl _ | refine ⟨⟨_, rfl, ?_⟩, ?_⟩))
        · (repeat' (first | exact trivial))
        refine c_val (d := 35) (u := .v (.string (mkB (z.Name ++ [61, 34] ++ escB z.Value)))) rfl rfl (opv_eq (opv_cat rfl rfl (by show (z.Name ++ [61, 34]).length + (escB z.Value).length ≤ _; rw [List.length_append]; simp only [List.length_cons, List.length_nil]; omega)) rfl) ?_
        refine c_val (d := 36) (u := .v (.string (mkB (partOf z)))) rfl rfl (opv_eq (opv_cat rfl rfl (by show (z.Name ++ [61, 34] ++ escB z.Value).length + 1 ≤ _; simp only [List.length_append, List.length_cons, List.length_nil]; omega)) rfl) ?_
        refine c_val (d := 37) (u := .sl true 1 [[.v (.string (mkB (partOf z)))]]) rfl rfl (opv_eq (opv_build_slice (T := TT) rfl rfl rfl rfl rfl rfl rfl) rfl) ?_
        refine c_op (eff_append_nil (T := TT) (m := [[.v (.string (mkB (partOf z)))]]) (sz := 1) rfl rfl rfl (.inr ⟨_, rfl⟩) rfl rfl (fun F X a hs => adds_rel (fun r hr u hu => by simp at hr; subst hr; simp at hu; subst hu; rfl) X a (Rel.own (o := true) (opV_rel' hs rfl))) (by show 1 * 16 ≤ _; omega) rfl ?_)
        refine c_le (σ' := ⟨54, [(0, .sl false 2 (labA l)), (5, .v (.string (mkB v))), (17, .sl false 2 (labA l)), (18, .v (.int .i64 (l.length : Nat))), (19, .v (.int .i64 (y : Nat))), (38, .sl true 1 (rowsV [partOf z]))], [], []⟩) ⟨rfl, ?_, ?_, rfl⟩ ?_
        · (repeat' (first | exact trivial | exact .refl _ | refine ⟨⟨_, rfl, ?_⟩, ?_⟩))
        · (repeat' (first | exact trivial))
        refine c_op (eff_assign_sl (u := .sl true 1 (rowsV [partOf z])) rfl rfl ?_)
        refine c_end (ar_blk ?_)
        refine ar_keep [0, 5, 6, 17, 18, 19] ?_
        refine ar_le (σ' := ⟨54, [(0, .sl false 2 (labA l)), (5, .v (.string (mkB v))), (17, .sl false 2 (labA l)), (18, .v (.int .i64 (l.length : Nat))), (19, .v (.int .i64 (y : Nat))), (6, .sl true 1 (rowsV [partOf z]))], [], []⟩) ⟨rfl, ?_, ?_, rfl⟩ ?_
        · (repeat' (first | exact trivial | exact .refl _ | refine ⟨⟨_, rfl, ?_⟩, ?_⟩))
        · (repeat' (first | exact trivial))
        repeat (first | ((first | apply ar_un); (next => (first | (simp only [go_sem, Nat.reduceBEq, Nat.reduceEqDiff, reduceIte, reduceCtorEq, String.reduceEq, Nat.reduceAdd, Int.reduceToNat]; exact rfl)))) | (apply ar_op' rfl rfl rfl rfl; (next => (first | (refine evalE_ok (T := TT) rfl ?_; (first | exact trivial | omega)) | fail))) | (refine arE ?_; refine ar_endM [0, 2, 3, 4, 5, 6, 8, 13, 17, 18, 19, 20, 25, 46] rfl ?_) | refine ar_region ?_ | fail)
        refine ar_back ⟨y + 1, ⟨rfl, ?_, ?_, rfl⟩, by omega, by omega⟩
        · (repeat' (first | exact trivial | exact .refl _ | refine ⟨⟨_, rfl, ?_⟩, ?_⟩ | refine Le1.of_eq ?_))
          all_goals exact e7.symm
        · (repeat' (first | exact trivial))
      · have e6 : partsV (partsB (l.take y)) = .sl true 1 (rowsV (partsB (l.take y))) := by
          generalize partsB (l.take y) = ps at hps
          cases ps with
          | nil => exact absurd rfl hps
          | cons p r => rfl
        have e7 : partsV (partsB (l.take (y + 1))) = .sl true 1 (rowsV (partsB (l.take y) ++ [partOf z])) := by
          rw [htk, partsB_app, hnb]
          generalize partsB (l.take y) = ps
          cases ps <;> rfl
        have hfit : ((rowsV (partsB (l.take y))).length + [[AV.v (.string (mkB (partOf z)))]].length) * 16 ≤ 140737488355328 := by simp [rowsV]; omega
        rw [e6]
        repeat (first
          | ((first | apply ar_un); (next => (first | (simp only [go_sem, Nat.reduceBEq, Nat.reduceEqDiff, reduceIte, reduceCtorEq, String.reduceEq, Nat.reduceAdd, Int.reduceToNat]; exact rfl))))
          | ((first | apply ar_op' rfl rfl rfl rfl); (next => exact opv_eq (opv_indexaddr (T := TT) rfl rfl rfl rfl (Int.natCast_nonneg _) hyl) hel))
          | (apply ar_op' rfl rfl rfl rfl; (next => (first
           | (apply opk ⟨_, .binOp .neq _ _ _ _, _, _, _, _⟩; first | (refine opv_sne_t rfl rfl rfl ?_; (next => (first | assumption))) | fail)
           | (apply opk ⟨_, .binOp .lss _ _ _ _, _, _, _, _⟩; first | (refine opv_cmp_t rfl rfl rfl ?_; (next => (first | (simp only [cmpP]; omega)))) | fail)
           | (apply opk ⟨_, .fieldAddr _ _ _, _, _, _, _⟩; first | exact opv_field_box (T := TT) rfl rfl rfl rfl rfl | fail)
           | (apply opk ⟨_, .load _ _, _, _, _, _⟩; first | exact opv_load_els (T := TT) rfl rfl rfl rfl | fail)
           | fail)))
          | (refine arO _ ?_; first
           | (refine arO ⟨_, .load _ _, _, _, _, _⟩ ?_; first | refine ar_load_own (T := TT) rfl rfl rfl rfl look_hd rfl rfl rfl rfl ?_ | fail)
           | (refine arO ⟨_, .store _ _ _, _, _, _, _⟩ ?_; first
            | (apply ar_effM rfl rfl; (next => (first
             | (apply effTo_store (T := TT) rfl; (next => (first | exact look_hd | fail)); (next => rfl); (next => rfl); (next => rfl); (next => rfl); (next => rfl); (next => rfl); (next => rfl); (next => rfl))
             | fail)))
            | fail)
           | (refine arO ⟨_, .alloc _, _, _, _, _⟩ ?_; first
            | (refine ar_eff rfl rfl (eff_alloc (T := TT) rfl rfl ?_); intro kb hkb; (repeat (have hkn := (freshK_ne hkb).1; replace hkb := (freshK_ne hkb).2)); (try have hkl := freshK_look hkb); clear hkb; refine ar_nf ?_)
            | fail)
           | fail)
          | refine ar_seq ?_
          | (refine arE ?_; refine ar_endM [0, 2, 3, 4, 5, 6, 8, 13, 17, 18, 19, 20, 25, 46] rfl ?_)
          | refine ar_region ?_
          | refine ar_block ?_
          | refine ar_skip ?_
          | refine ar_dedup rfl ?_
          | (refine arC (.cond _ _ _) ?_; first | (refine ar_cond_true rfl ?_ ?_; (next => (first | rfl))) | fail)
          | fail)
        refine ar_drawM (st := fun _ => true) (mN := fun i => [0, 1, 2, 3, 6, 7].contains i) (cs := [4, 5, 8, 9, 10, 11, 12, 13]) mixed (mixB_ok (by kernel_rfl)) rfl (fun k c hk => ?_) ?_
        · simp only [List.filter_cons, List.filter_nil, if_true, look_cons, look_nil] at hk
          split at hk
          · cases hk; rfl
          · cases hk
        refine n_op (d := 26) (u := .sl false 1 (rowsV (partsB (l.take y)))) rfl rfl rfl rfl (opv_move_rd (u := .sl true 1 (rowsV (partsB (l.take y)))) rfl (.inl rfl)) ⟨rfl, .inr ⟨6, rfl, (fun q o' hq hmq => by
            have : q = 0 ∨ q = 1 ∨ q = 2 ∨ q = 3 ∨ q = 6 ∨ q = 7 := by simpa using hmq
            rcases this with rfl | rfl | rfl | rfl | rfl | rfl <;> (have he := Option.some.inj hq; subst he; intro h; cases h))⟩⟩ ?_
        refine n_op (d := 27) (u := .v (.pointer (some ⟨kb, 0, none⟩))) rfl rfl rfl rfl (opv_eq (opv_field_box (T := TT) rfl rfl rfl rfl rfl) rfl) ⟨rfl, .inl ⟨_, rfl⟩⟩ ?_
        refine n_op (d := 28) (u := .v (.string (mkB z.Name))) rfl rfl rfl rfl (opv_load_box (u := .v (.string (mkB z.Name))) (T := TT) rfl (look_h _ _ _) rfl rfl rfl rfl) ⟨rfl, .inl ⟨_, rfl⟩⟩ ?_
        refine n_op (d := 29) (u := .v (.string (mkB (z.Name ++ [61, 34])))) rfl rfl rfl rfl (opv_eq (opv_cat rfl rfl (by show z.Name.length + 2 ≤ _; omega)) rfl) ⟨rfl, .inl ⟨_, rfl⟩⟩ ?_
        refine n_skip rfl (n_skip rfl ?_)
        refine n_op (d := 32) (u := .v (.pointer (some ⟨kb, 1, none⟩))) rfl rfl rfl rfl (opv_eq (opv_field_box (T := TT) rfl rfl rfl rfl rfl) rfl) ⟨rfl, .inl ⟨_, rfl⟩⟩ ?_
        refine n_op (d := 33) (u := .v (.string (mkB z.Value))) rfl rfl rfl rfl (opv_load_box (u := .v (.string (mkB z.Value))) (T := TT) rfl (look_h _ _ _) rfl rfl rfl rfl) ⟨rfl, .inl ⟨_, rfl⟩⟩ ?_
        refine n_skip rfl (n_skip rfl (n_skip rfl (n_skip rfl (n_skip rfl (n_skip rfl (n_end ?_))))))
        refine c_sub (σ' := ⟨54, [(0, .sl false 2 (labA l)), (5, .v (.string (mkB v))), (17, .sl false 2 (labA l)), (18, .v (.int .i64 (l.length : Nat))), (19, .v (.int .i64 (y : Nat))), (6, .sl true 1 (rowsV (partsB (l.take y)))), (26, .sl false 1 (rowsV (partsB (l.take y)))), (29, .v (.string (mkB (z.Name ++ [61, 34])))), (33, .v (.string (mkB z.Value)))], [], [(26, .s 6)]⟩) rfl ?_ ?_ (fun p hp => by have := List.mem_singleton.1 hp; subst this; exact List.mem_cons_self) ?_
        · repeat refine ⟨rfl, ?_⟩
          exact trivial
        · exact trivial
        refine c_val (d := 30) (u := .sl true 1 six) rfl rfl (opv_eq (opv_build_slice (T := TT) rfl rfl rfl rfl rfl rfl rfl) (by kernel_rfl)) ?_
        refine c_op (eff_call (Hp := []) (Hr := []) newReplacer_a (.cons (.rd rfl (Le1.rd _ _ _) rfl) .nil) (fun i j r hi hj => oneSome_spec (ρs := [none]) rfl i j r r hi hj) (fun _ _ _ => rfl) (fun k cs hk => by simp [look_nil] at hk) (fun k cs hk => by simp [look_nil] at hk) rfl ?_)
        rintro _ _ ⟨B, rfl, rfl⟩
        refine ⟨_, rfl, ?_⟩
        refine c_op (eff_call (Hp := [(B, repA)]) (Hr := []) (repl_a B z.Value (escB z.Value) (fun k r hkr => rep_a k r hkr z.Value (by omega))) (.cons (.rd rfl (Le1.refl _) rfl) (.cons (.rd rfl (Le1.refl _) rfl) .nil)) (fun i j r hi hj => oneSome_spec (ρs := [none, none]) rfl i j r r hi hj) (fun _ _ hh => by simp at hh) (fun k cs hk => hk) (fun k cs hk => by simp [look_nil] at hk) rfl ?_)
        rintro _ _ ⟨rfl, rfl⟩
        refine ⟨_, rfl, ?_⟩
        refine c_sub (σ' := ⟨54, [(0, .sl false 2 (labA l)), (5, .v (.string (mkB v))), (17, .sl false 2 (labA l)), (18, .v (.int .i64 (l.length : Nat))), (19, .v (.int .i64 (y : Nat))), (6, .sl true 1 (rowsV (partsB (l.take y)))), (26, .sl false 1 (rowsV (partsB (l.take y)))), (29, .v (.string (mkB (z.Name ++ [61, 34])))), (34, .v (.string (mkB (escB z.Value))))], [], [(26, .s 6)]⟩) rfl ?_ ?_ (fun p hp => by have := List.mem_singleton.1 hp; subst this; exact List.mem_cons_self) ?_
        · repeat refine ⟨rfl, ?_⟩
          exact trivial
        · exact trivial
        refine c_val (d := 35) (u := .v (.string (mkB (z.Name ++ [61, 34] ++ escB z.Value)))) rfl rfl (opv_eq (opv_cat rfl rfl (by show (z.Name ++ [61, 34]).length + (escB z.Value).length ≤ _; rw [List.length_append]; simp only [List.length_cons, List.length_nil]; omega)) rfl) ?_
        refine c_val (d := 36) (u := .v (.string (mkB (partOf z)))) rfl rfl (opv_eq (opv_cat rfl rfl (by show (z.Name ++ [61, 34] ++ escB z.Value).length + 1 ≤ _; simp only [List.length_append, List.length_cons, List.length_nil]; omega)) rfl) ?_
        refine c_val (d := 37) (u := .sl true 1 [[.v (.string (mkB (partOf z)))]]) rfl rfl (opv_eq (opv_build_slice (T := TT) rfl rfl rfl rfl rfl rfl rfl) rfl) ?_
        refine c_op (eff_append (T := TT) (s := 26) (r := .s 6) (L := rowsV (partsB (l.take y))) (m := [[.v (.string (mkB (partOf z)))]]) (sz := 1) rfl rfl rfl rfl (.inr ⟨_, rfl⟩) rfl rfl (fun F X a hs => adds_rel (fun r hr u hu => by simp at hr; subst hr; simp at hu; subst hu; rfl) X a (Rel.own (o := true) (opV_rel' hs rfl))) hfit rfl ?_)
        refine c_le (σ' := ⟨54, [(0, .sl false 2 (labA l)), (5, .v (.string (mkB v))), (17, .sl false 2 (labA l)), (18, .v (.int .i64 (l.length : Nat))), (19, .v (.int .i64 (y : Nat))), (38, .sl true 1 (rowsV (partsB (l.take y) ++ [partOf z])))], [], []⟩) ⟨rfl, ?_, ?_, rfl⟩ ?_
        · (repeat' (first | exact trivial | exact .refl _ | refine ⟨⟨_, rfl, ?_⟩, ?_⟩ | refine Le1.of_eq ?_))
          all_goals (unfold rowsV; rw [List.map_append]; rfl)
        · (repeat' (first | exact trivial))
        refine c_op (eff_assign_sl (u := .sl true 1 (rowsV (partsB (l.take y) ++ [partOf z]))) rfl rfl ?_)
        refine c_end (ar_blk ?_)
        refine ar_keep [0, 5, 6, 17, 18, 19] ?_
        refine ar_le (σ' := ⟨54, [(0, .sl false 2 (labA l)), (5, .v (.string (mkB v))), (17, .sl false 2 (labA l)), (18, .v (.int .i64 (l.length : Nat))), (19, .v (.int .i64 (y : Nat))), (6, .sl true 1 (rowsV (partsB (l.take y) ++ [partOf z])))], [], []⟩) ⟨rfl, ?_, ?_, rfl⟩ ?_
        · (repeat' (first | exact trivial | exact .refl _ | refine ⟨⟨_, rfl, ?_⟩, ?_⟩))
        · (repeat' (first | exact trivial))
        repeat (first | ((first | apply ar_un); (next => (first | (simp only [go_sem, Nat.reduceBEq, Nat.reduceEqDiff, reduceIte, reduceCtorEq, String.reduceEq, Nat.reduceAdd, Int.reduceToNat]; exact rfl)))) | (apply ar_op' rfl rfl rfl rfl; (next => (first | (refine evalE_ok (T := TT) rfl ?_; (first | exact trivial | omega)) | fail))) | (refine arE ?_; refine ar_endM [0, 2, 3, 4, 5, 6, 8, 13, 17, 18, 19, 20, 25, 46] rfl ?_) | refine ar_region ?_ | fail)
        refine ar_back ⟨y + 1, ⟨rfl, ?_, ?_, rfl⟩, by omega, by omega⟩
        · (repeat' (first | exact trivial | exact .refl _ | refine ⟨⟨_, rfl, ?_⟩, ?_⟩ | refine Le1.of_eq ?_))
          all_goals exact e7.symm
        · (repeat' (first | exact trivial))
  · obtain rfl : y = l.length := by omega
    rw [List.take_length]
    have hjl := join_small l hl hz
    have hN : (partsB l).length ≤ 140737488355328 := by have := partsB_len l; omega
    by_cases hps : partsB l = []
    · have e6 : partsV (partsB l) = .v (.slice none 0 0) := by rw [hps]; rfl
      have hjo := join_a [] [44] (by decide) (by decide)
      rw [e6]
      by_cases hv0 : v = []
      · subst hv0
        have ht : textB l [] = [] ++ [123] ++ Lib.join [] [44] ++ [125] := by unfold textB; rw [if_neg (fun h => h.2 rfl), hps]
        repeat (first
          | ((first | apply ar_un | apply stk_un); (next => (first | (simp only [go_sem, Nat.reduceBEq, Nat.reduceEqDiff, reduceIte, reduceCtorEq, String.reduceEq, Nat.reduceAdd, Int.reduceToNat]; exact rfl))))
          | (refine arC .ret ?_; refine ar_retM0 [2, 3] ?_)
          | (refine ar_op' rfl rfl rfl rfl (opv_cat rfl rfl (Nat.le_of_ble_eq_true (by kernel_rfl))) ?_)
          | (apply ar_op' rfl rfl rfl rfl; (next => (first
           | (refine evalE_ok (T := TT) rfl ?_; (first | exact trivial))
           | (apply opk ⟨_, .binOp .eql _ _ _ _, _, _, _, _⟩; first | (refine opv_cmp_t rfl rfl rfl ?_; (next => (first | exact rfl))) | fail)
           | (apply opk ⟨_, .binOp .neq _ _ _ _, _, _, _, _⟩; first | (refine opv_sne_f rfl rfl rfl ?_; (next => (first | rfl))) | fail)
           | (apply opk ⟨_, .binOp .lss _ _ _ _, _, _, _, _⟩; first | (refine opv_cmp_f rfl rfl rfl ?_; (next => (first | (simp only [cmpP]; omega)))) | fail)
           | (apply opk ⟨_, .call { callee := .builtin .len, args := _, argTypes := _ }, _, _, _, _⟩; first | exact opv_len_nil (T := TT) rfl rfl rfl | fail)
           | (apply opk ⟨_, .pick _ _ _, _, _, _, _⟩; first | (refine opv_pickt rfl ?_ rfl; (next => (first | rfl))) | fail)
           | fail)))
          | (refine arO _ ?_; first
           | (refine arO ⟨_, .call { callee := .value _, args := _, argTypes := _ }, _, _, _, _⟩ ?_; first
            | (apply ar_callM0 rfl (hjo) rfl rfl; (next => (repeat (first | exact PArgs.nil | (apply PArgs.cons; (next => (first | exact PArg.rd rfl (Le1.refl _) rfl | exact PArg.rd rfl (Le1.nil _ _) rfl)))))); (next => rfl); (next => rfl); rintro _ _ ⟨rfl, rfl⟩; refine ⟨_, rfl, ?_⟩)
            | fail)
           | fail)
          | refine ar_seq ?_
          | (refine arE ?_; refine ar_endM [0, 2, 3, 4, 5, 6, 8, 13, 17, 18, 19, 20, 25, 46] rfl ?_)
          | refine ar_region ?_
          | refine ar_skip ?_
          | (refine arC (.cond _ _ _) ?_; first | (refine ar_cond_false rfl ?_ ?_; (next => (first | rfl))) | fail)
          | refine ar_exit ?_
          | refine stk_b_hit ?_
          | refine stk_c_exit ?_
          | refine stk_l_exit ?_
          | refine stk_nil ?_
          | fail)
        first | exact qret_mk rfl (⟨by rw [ht]; rfl, rfl⟩) | (trace_state; exact qret_mk rfl (⟨by rw [ht]; rfl, rfl⟩))
      · have ht : textB l v = v := if_pos ⟨hps, hv0⟩
        repeat (first
          | ((first | apply ar_un | apply stk_un); (next => (first | (simp only [go_sem, Nat.reduceBEq, Nat.reduceEqDiff, reduceIte, reduceCtorEq, String.reduceEq, Nat.reduceAdd, Int.reduceToNat]; exact rfl))))
          | (refine arC .ret ?_; refine ar_retM0 [2, 3] ?_)
          | (apply ar_op' rfl rfl rfl rfl; (next => (first
           | (refine evalE_ok (T := TT) rfl ?_; (first | exact trivial))
           | (apply opk ⟨_, .binOp .eql _ _ _ _, _, _, _, _⟩; first | (refine opv_cmp_t rfl rfl rfl ?_; (next => (first | exact rfl))) | fail)
           | (apply opk ⟨_, .binOp .neq _ _ _ _, _, _, _, _⟩; first | (refine opv_sne_t rfl rfl rfl ?_; (next => (first | assumption))) | fail)
           | (apply opk ⟨_, .binOp .lss _ _ _ _, _, _, _, _⟩; first | (refine opv_cmp_f rfl rfl rfl ?_; (next => (first | (simp only [cmpP]; omega)))) | fail)
           | (apply opk ⟨_, .call { callee := .builtin .len, args := _, argTypes := _ }, _, _, _, _⟩; first | exact opv_len_nil (T := TT) rfl rfl rfl | fail)
           | (apply opk ⟨_, .pick _ _ _, _, _, _, _⟩; first | (refine opv_pickt rfl ?_ rfl; (next => (first | rfl))) | fail)
           | fail)))
          | refine ar_seq ?_
          | (refine arE ?_; refine ar_endM [0, 2, 3, 4, 5, 6, 8, 13, 17, 18, 19, 20, 25, 46] rfl ?_)
          | refine ar_region ?_
          | (refine arC (.cond _ _ _) ?_; first | (refine ar_cond_true rfl ?_ ?_; (next => (first | rfl))) | (refine ar_cond_false rfl ?_ ?_; (next => (first | rfl))) | fail)
          | refine ar_exit ?_
          | refine stk_b_hit ?_
          | refine stk_c_exit ?_
          | refine stk_l_exit ?_
          | refine stk_c_ret ?_
          | refine stk_nil ?_
          | fail)
        first | exact qret_mk rfl (⟨by rw [ht]; rfl, rfl⟩) | (trace_state; exact qret_mk rfl (⟨by rw [ht]; rfl, rfl⟩))
    · obtain ⟨p, ps, hpp⟩ : ∃ p ps, partsB l = p :: ps := by
        cases hq : partsB l with
        | nil => exact absurd hq hps
        | cons p r => exact ⟨p, r, rfl⟩
      have e6 : partsV (partsB l) = .sl true 1 ([AV.v (.string (mkB p))] :: rowsV ps) := by rw [hpp]; rfl
      rw [hpp] at hjl hN
      have ht : textB l v = v ++ [123] ++ Lib.join (p :: ps) [44] ++ [125] := by unfold textB; rw [if_neg (fun h => hps h.1), hpp]
      have hjo := join_a (p :: ps) [44] hN (by omega)
      rw [e6]
      repeat (first
        | ((first | apply ar_un | apply stk_un); (next => (first | (simp only [go_sem, Nat.reduceBEq, Nat.reduceEqDiff, reduceIte, reduceCtorEq, String.reduceEq, Nat.reduceAdd, Int.reduceToNat]; exact rfl))))
        | (refine arC .ret ?_; refine ar_retM0 [2, 3] ?_)
        | (refine ar_op' rfl rfl rfl rfl (opv_cat rfl rfl (by first
         | (show v.length + 1 ≤ _; omega)
         | (show (v ++ [123]).length + (Lib.join (p :: ps) [44]).length ≤ _; simp only [List.length_append, List.length_cons, List.length_nil]; omega)
         | (show (v ++ [123] ++ Lib.join (p :: ps) [44]).length + 1 ≤ _; simp only [List.length_append, List.length_cons, List.length_nil]; omega))) ?_)
        | (apply ar_op' rfl rfl rfl rfl; (next => (first
         | (refine evalE_ok (T := TT) rfl ?_; (first | exact trivial))
         | (apply opk ⟨_, .binOp .eql _ _ _ _, _, _, _, _⟩; first | (refine opv_cmp_f rfl rfl rfl ?_; (next => (first | (simp only [cmpP]; simp [NFL] <;> omega)))) | fail)
         | (apply opk ⟨_, .binOp .lss _ _ _ _, _, _, _, _⟩; first | (refine opv_cmp_f rfl rfl rfl ?_; (next => (first | (simp only [cmpP]; omega)))) | fail)
         | (apply opk ⟨_, .call { callee := .builtin .len, args := _, argTypes := _ }, _, _, _, _⟩; first | exact opv_len_sl (T := TT) rfl rfl rfl | fail)
         | (apply opk ⟨_, .pick _ _ _, _, _, _, _⟩; first | (refine opv_pickf rfl ?_ rfl; (next => (first | rfl))) | fail)
         | fail)))
        | (refine arO _ ?_; first
         | (refine arO ⟨_, .move _, _, _, _, _⟩ ?_; first | refine ar_move_sl rfl rfl rfl rfl ?_ | fail)
         | (refine arO ⟨_, .call { callee := .value _, args := _, argTypes := _ }, _, _, _, _⟩ ?_; first
          | (apply ar_callM0 rfl (hjo) rfl rfl; (next => (repeat (first | exact PArgs.nil | (apply PArgs.cons; (next => (first | exact PArg.rd rfl (Le1.refl _) rfl)))))); (next => rfl); (next => rfl); rintro _ _ ⟨rfl, rfl⟩; refine ⟨_, rfl, ?_⟩)
          | fail)
         | fail)
        | refine ar_unwanted' rfl rfl rfl rfl ?_
        | refine ar_seq ?_
        | (refine arE ?_; refine ar_endM [0, 2, 3, 4, 5, 6, 8, 13, 17, 18, 19, 20, 25, 46] rfl ?_)
        | refine ar_region ?_
        | refine ar_skip ?_
        | (refine arC (.cond _ _ _) ?_; first | (refine ar_cond_false rfl ?_ ?_; (next => (first | rfl))) | fail)
        | refine ar_exit ?_
        | refine stk_b_hit ?_
        | refine stk_c_exit ?_
        | refine stk_l_exit ?_
        | refine stk_nil ?_
        | fail)
      first | exact qret_mk rfl (⟨by rw [ht]; rfl, rfl⟩) | (trace_state; exact qret_mk rfl (⟨by rw [ht]; rfl, rfl⟩))
end Go.Proofs.Ytgmlkhfjhogdbaa
