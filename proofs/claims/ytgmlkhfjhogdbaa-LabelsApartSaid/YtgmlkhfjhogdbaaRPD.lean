/- What replaces bytes by texts, of any text: how long that becomes. -/
import Derived.Test.YtgmlkhfjhogdbaaRPC
namespace Go.Proofs.Ytgmlkhfjhogdbaa
open Go.RowKit P
set_option linter.unusedVariables false
set_option linter.unusedSimpArgs false
theorem opv_box_strL {P : Program} {T : Tys P} {σ : AS} {t ty e u : TypeId} {x : Operand} {pos : String} {af : Array Edge} {g : Option (Nat × Bool)} {dd : Option Tmp} {k c n : Nat} {L : List UInt8} (hx : opV σ x = some (.v (.slice (some ⟨k, 0, none⟩) n c))) (hb : look σ.h k = some (byteV L)) (ht : look T.ty t = some (.slice e)) (he : look T.ty e = some (.int .u8)) (hu : look T.ty u = some .string) (hn : n = L.length) {L' : List UInt8} (hL : L = L') :
    OpV P ⟨dd, .convert t u x, ty, pos, af, g⟩ σ (.v (.string (mkB L'))) := by subst hn hL; exact opv_box_str hx hb ht he hu
section
variable {P : Program} {K : AS → Prop} {RP : Value → List (Nat × List AV) → Prop} {l rest : List Oper} {o : Oper} {mN mB : Nat → Bool} {ld : List (Nat × Nat × Nat)} {σ : AS} {k d n : Nat} {u : AV}
theorem nx_op (hm : mN k = true) (h1 : o.dst = some d) (h2 : o.guard = none) (h3 : Nat.ble (d + 1) σ.n = true) (h4 : OpV P o (bst mB k σ) u) (h5 : DetX P l mN mB ld k σ o u) (h : NSemX P l mN mB ld K (k + 1) rest (σ.put d u)) : NSemX P l mN mB ld K k (o :: rest) σ := by
  unfold NSemX; rw [hm]; exact ⟨d, u, h1, h2, h3, h4, h5, h⟩
theorem nx_skip (hm : mN k = false) (h : NSemX P l mN mB ld K (k + 1) rest σ) : NSemX P l mN mB ld K k (o :: rest) σ := by
  unfold NSemX; rw [hm]; exact h
theorem nx_end (h : K σ) : NSemX P l mN mB ld K k [] σ := h
theorem cx_op (hn : σ.n = n) (h : EffOp P o σ (CSemX P n RP K rest)) : CSemX P n RP K (o :: rest) σ := ⟨hn, effX_eff h⟩
theorem cx_val (hn : σ.n = n) (hdst : o.dst = some d) (hd : Nat.ble (d + 1) σ.n = true) (hv : OpV P o σ u) (h : CSemX P n RP K rest ((σ.free d).put d u)) : CSemX P n RP K (o :: rest) σ := ⟨hn, effX_eff (eff_of_opv hdst hd hv (by exact h))⟩
theorem cx_le {σ' : AS} (hl : Le σ σ') (h : CSemX P n RP K (o :: rest) σ') : CSemX P n RP K (o :: rest) σ := by
  have e : σ.n = σ'.n := by have := hl.n; omega
  refine ⟨e.trans h.1, fun F X a hs => ?_⟩
  rw [e]
  exact h.2 F X a (hs.le hl)
theorem cx_end (h : K σ) : CSemX P n RP K [] σ := h
end
theorem tab_mp {r : Nat} : isMpB (tabA r) = false := rfl
theorem escB_app (a b : List UInt8) : escB (a ++ b) = escB a ++ escB b := by unfold escB; rw [List.flatMap_append]
theorem escB_pre (s : List UInt8) (i : Nat) : (escB (s.take i)).length ≤ (escB s).length := by
  have h := congrArg List.length (escB_app (s.take i) (s.drop i))
  rw [List.take_append_drop, List.length_append] at h
  omega
/-- The row, i bytes done. -/
def bufB (s : List UInt8) (i : Nat) : List UInt8 := escB (s.take i) ++ List.replicate ((escB s).length - (escB (s.take i)).length) 0
theorem bufB_len (s : List UInt8) (i : Nat) : (bufB s i).length = (escB s).length := by
  have := escB_pre s i
  unfold bufB
  rw [List.length_append, List.length_replicate]; omega
theorem bufB_end (s : List UInt8) : bufB s s.length = escB s := by
  unfold bufB
  rw [List.take_length]; simp
theorem bufB_set (s : List UInt8) (i : Nat) (h : i < s.length) (he : esc1 (s.getD i 0) = [s.getD i 0]) : (bufB s i).set (escB (s.take i)).length (s.getD i 0) = bufB s (i + 1) := by
  have h1 := escB_take s i h
  have h2 := escB_pre s (i + 1)
  have h3 := congrArg List.length h1
  rw [List.length_append, he, List.length_singleton] at h3
  unfold bufB
  rw [List.set_append_right _ _ (by omega), Nat.sub_self, h1, he]
  obtain ⟨q, hq⟩ : ∃ q, (escB s).length - (escB (s.take i)).length = q + 1 := ⟨(escB s).length - (escB (s.take i)).length - 1, by omega⟩
  rw [hq, List.replicate_succ, List.set_cons_zero, List.length_append, List.length_singleton, show (escB s).length - ((escB (s.take i)).length + 1) = q by omega, List.append_assoc]; rfl
theorem bufB_put (s : List UInt8) (i : Nat) (h : i < s.length) {m : List UInt8} (hm : m.length = 2) (he : esc1 (s.getD i 0) = m) : (bufB s i).take (escB (s.take i)).length ++ m ++ (bufB s i).drop ((escB (s.take i)).length + m.length) = bufB s (i + 1) := by
  have h1 := escB_take s i h
  have h2 := escB_pre s (i + 1)
  have h3 := congrArg List.length h1
  rw [List.length_append, he, hm] at h3
  unfold bufB
  rw [List.take_left, List.drop_append, List.drop_of_length_le (by omega), List.nil_append, List.drop_replicate, h1, he, List.length_append, hm]
  congr 2
  omega
attribute [local irreducible] AS.nf OpV ARun Stk QSem QSemA ACalls EffOp AppOk SrcOk Awp Aops tabA rowA
set_option maxHeartbeats 4000000
theorem cn_le (s : List UInt8) (i : Nat) : cn s i ≤ 3 * s.length := by
  have h1 : Lib.countByte s 10 ≤ s.length := List.count_le_length
  have h2 : Lib.countByte s 34 ≤ s.length := List.count_le_length
  have h3 : Lib.countByte s 92 ≤ s.length := List.count_le_length
  unfold cn
  split <;> omega
set_option maxRecDepth 100000 in
theorem rep_a (k r : Nat) (hkr : k ≠ r) (s : List UInt8) (hs : s.length ≤ 100000) : ACalls Try.prog 106 [.v (.pointer (some ⟨k, 0, none⟩)), .v (.string (mkB s))] [(k, tabA r), (r, rowA)] (fun out H => out = .ret (.v (.string (mkB (escB s)))) ∧ H = []) := by
  refine acalls_enter _ 122 [.tmp 4] Try.func106 (by kernel_rfl) rfl rfl rfl rfl ?_
  dsimp only [slotsOf]
  repeat (first
    | ((first | apply ar_un); (next => (first | (simp only [go_sem, Nat.reduceBEq, Nat.reduceEqDiff, reduceIte, reduceCtorEq, String.reduceEq, Nat.reduceAdd, Int.reduceToNat]; exact rfl))))
    | ((first | apply ar_op' rfl rfl rfl rfl); (next => exact opv_load_box (T := TT) rfl look_hd (tab_at _).2.2.2 rfl rfl rfl))
    | ((first | apply ar_op' rfl rfl rfl rfl); (next => (first
     | (refine evalE_ok (T := TT) rfl ?_; (first | exact trivial | omega))
     | (apply opk ⟨_, .binOp .leq _ _ _ _, _, _, _, _⟩; first | exact opv_bin rfl rfl rfl | fail)
     | (apply opk ⟨_, .call { callee := .builtin .len, args := _, argTypes := _ }, _, _, _, _⟩; first
      | exact opv_len_str (T := TT) rfl rfl rfl
      | exact opv_len_nil (T := TT) rfl rfl rfl
      | fail)
     | (apply opk ⟨_, .fieldAddr _ _ _, _, _, _, _⟩; first | exact opv_field_box (T := TT) rfl rfl rfl rfl rfl | fail)
     | fail)))
    | refine ar_seq ?_
    | (refine arE ?_; refine ar_endM [0, 1, 4, 5, 6, 8, 9, 10, 11, 12, 13, 14, 15, 26, 30, 31, 32, 33, 40, 58, 70, 82, 89, 101] rfl ?_)
    | refine ar_region ?_
    | fail)
  refine ar_join (st := ⟨122, [(0, .v (.pointer (some ⟨k, 0, none⟩))), (1, .v (.string (mkB s))), (5, .v (.int .i64 (((escB s).length : Nat) : Int))), (6, .v (.bool (decide ((escB s).length ≠ s.length)))), (4, .v (.string (mkB [])))], [(k, tabA r), (r, rowA)], []⟩) ?_ fun ks' hj => ?_
  · by_cases hL : (escB s).length = s.length
    · refine ar_le (σ' := ⟨122, [(0, .v (.pointer (some ⟨k, 0, none⟩))), (1, .v (.string (mkB s))), (4, .v (.string (mkB []))), (5, .v (.int .i64 ((escB s).length : Nat))), (6, .v (.bool false))], [(k, tabA r), (r, rowA)], []⟩) ⟨rfl, ?_, ?_, rfl⟩ ?_
      · (repeat' (first | exact trivial | exact .refl _ | refine ⟨⟨_, rfl, ?_⟩, ?_⟩ | refine Le1.of_eq ?_))
        all_goals exact congrArg (fun q => AV.v (Value.bool q)) (decide_eq_false (fun h => h hL))
      · (repeat' (first | exact trivial | exact LeL.refl _ | refine ⟨⟨_, look_hd, ?_⟩, ?_⟩ | refine ⟨⟨_, look_tl (by first | (intro e; exact absurd e.symm (by assumption))) look_hd, ?_⟩, ?_⟩))
      repeat (first
        | ((first | apply ar_un | apply stk_un); (next => (first | (simp only [go_sem, Nat.reduceBEq, Nat.reduceEqDiff, reduceIte, reduceCtorEq, String.reduceEq, Nat.reduceAdd, Int.reduceToNat]; exact rfl))))
        | (refine arC .ret ?_; refine ar_retM0 [4] ?_)
        | ((first | apply ar_op' rfl rfl rfl rfl); (next => (first | (refine evalE_ok (T := TT) rfl ?_; (first | exact trivial)) | fail)))
        | refine ar_seq ?_
        | (refine arE ?_; refine ar_endM [0, 1, 4, 5, 6, 8, 9, 10, 11, 12, 13, 14, 15, 26, 30, 31, 32, 33, 40, 58, 70, 82, 89, 101] rfl ?_)
        | refine ar_region ?_
        | (refine arC (.cond _ _ _) ?_; first | (refine ar_cond_true rfl ?_ ?_; (next => (first | rfl))) | fail)
        | refine stk_c_ret ?_
        | refine stk_nil ?_
        | fail)
      first | exact qret_mk rfl (⟨by rw [escB_same s hL], rfl⟩) | (trace_state; exact qret_mk rfl (⟨by rw [escB_same s hL], rfl⟩))
    · have hel := escB_len s
      refine ar_le (σ' := ⟨122, [(0, .v (.pointer (some ⟨k, 0, none⟩))), (1, .v (.string (mkB s))), (4, .v (.string (mkB []))), (5, .v (.int .i64 ((escB s).length : Nat))), (6, .v (.bool true))], [(k, tabA r), (r, rowA)], []⟩) ⟨rfl, ?_, ?_, rfl⟩ ?_
      · (repeat' (first | exact trivial | exact .refl _ | refine ⟨⟨_, rfl, ?_⟩, ?_⟩ | refine Le1.of_eq ?_))
        all_goals exact congrArg (fun q => AV.v (Value.bool q)) (decide_eq_true hL)
      · (repeat' (first | exact trivial | exact LeL.refl _ | refine ⟨⟨_, look_hd, ?_⟩, ?_⟩ | refine ⟨⟨_, look_tl (by first | (intro e; exact absurd e.symm (by assumption))) look_hd, ?_⟩, ?_⟩))
      repeat (first
        | ((first | apply ar_un); (next => (first | (simp only [go_sem, Nat.reduceBEq, Nat.reduceEqDiff, reduceIte, reduceCtorEq, String.reduceEq, Nat.reduceAdd, Int.reduceToNat]; exact rfl))))
        | ((first | apply ar_op' rfl rfl rfl rfl); (next => (first | (refine evalE_ok (T := TT) rfl ?_; (first | exact trivial)) | fail)))
        | refine ar_seq ?_
        | (refine arE ?_; refine ar_endM [0, 1, 4, 5, 6, 8, 9, 10, 11, 12, 13, 14, 15, 26, 30, 31, 32, 33, 40, 58, 70, 82, 89, 101] rfl ?_)
        | refine ar_region ?_
        | refine ar_skip ?_
        | (refine arC (.cond _ _ _) ?_; first | (refine ar_cond_false rfl ?_ ?_; (next => (first | rfl))) | fail)
        | fail)
      refine ar_eff rfl rfl (eff_makebytes (T := TT) rfl rfl rfl rfl rfl rfl ?_ rfl ?_)
      next => omega
      intro kb hkf
      have hkb : kb ≠ k := fun e => (freshK_ne hkf).1 e.symm
      have hkr2 : kb ≠ r := fun e => (freshK_ne (freshK_ne hkf).2).1 e.symm
      clear hkf
      rw [show (((escB s).length : Nat) : Int).toNat = (escB s).length from Int.toNat_natCast _]
      refine ar_nf ?_
      repeat (first | ((first | apply ar_un); (next => (first | (simp only [go_sem, Nat.reduceBEq, Nat.reduceEqDiff, reduceIte, reduceCtorEq, String.reduceEq, Nat.reduceAdd, Int.reduceToNat]; exact rfl)))) | ((first | apply ar_op' rfl rfl rfl rfl); (next => (first | (refine evalE_ok (T := TT) rfl ?_; (first | exact trivial)) | fail))) | refine ar_seq ?_ | (refine arE ?_; refine ar_endM [0, 1, 4, 5, 6, 8, 9, 10, 11, 12, 13, 14, 15, 26, 30, 31, 32, 33, 40, 58, 70, 82, 89, 101] rfl ?_) | refine ar_region ?_ | refine ar_block ?_ | fail)
      refine ar_loop (fun i : Nat => ⟨122, [(0, .v (.pointer (some ⟨k, 0, none⟩))), (1, .v (.string (mkB s))), (4, .v (.string (mkB []))), (12, .v (.slice (some ⟨kb, 0, none⟩) (escB s).length (escB s).length)), (13, .v (.int .i64 ((escB (s.take i)).length : Nat))), (14, .v (.int .i64 (i : Nat)))], [(kb, byteV (bufB s i)), (k, tabA r), (r, rowA)], []⟩) (fun i => i ≤ s.length) (fun i => s.length - i) 0 ⟨rfl, ?_, ?_, rfl⟩ (Nat.zero_le _) ?_
      · (repeat' (first | exact trivial | exact .refl _ | refine ⟨⟨_, rfl, ?_⟩, ?_⟩))
      · (repeat' (first | exact trivial | exact LeL.refl _ | refine ⟨⟨_, look_hd, ?_⟩, ?_⟩ | refine ⟨⟨_, look_tl (by first | (intro e; exact absurd e.symm (by assumption))) look_hd, ?_⟩, ?_⟩ | refine ⟨⟨_, look_tl (by first | (intro e; exact absurd e.symm (by assumption))) (look_tl (by first | (intro e; exact absurd e.symm (by assumption))) look_hd), ?_⟩, ?_⟩))
      intro i hi
      have hx := escB_len (s.take i)
      rw [List.length_take_of_le hi] at hx
      by_cases hlt : i < s.length
      · have hbt := escB_take s i hlt
        have hx1 := esc1_len (s.getD i 0)
        have hx2 := congrArg List.length hbt
        rw [List.length_append] at hx2
        have hx3 := escB_pre s (i + 1)
        have hz0 : (0 : Int) ≤ ((s.getD i 0).toNat : Int) := Int.natCast_nonneg _
        have hz1 : ((s.getD i 0).toNat : Int) < (256 : Nat) := by have := (s.getD i 0).toNat_lt; omega
        have hzi : 0 + (((s.getD i 0).toNat : Int)).toNat = (s.getD i 0).toNat := by omega
        rcases esc_one (s.getD i 0) with ⟨m, hm, he, hzt⟩ | ⟨he, _, _, _, hzt⟩
        · have hne : bytesR m ≠ [] := fun e => by have := congrArg List.length e; rw [bytesR_len, hm] at this; cases this
          repeat (first
            | ((first | apply ar_un); (next => (first | (simp only [go_sem, Nat.reduceBEq, Nat.reduceEqDiff, reduceIte, reduceCtorEq, String.reduceEq, Nat.reduceAdd, Int.reduceToNat]; exact rfl))))
            | ((first | apply ar_op' rfl rfl rfl rfl); (next => exact opv_eq (opv_index_arr (Y := TT) rfl rfl rfl rfl hz0 hz1) (congrArg (fun q => AV.v (Value.pointer (some ⟨k, q, none⟩))) hzi)))
            | ((first | apply ar_op' rfl rfl rfl rfl); (next => exact opv_load_box (T := TT) rfl (look_tl hkb.symm look_hd) (hzt _) rfl rfl rfl))
            | ((first | apply ar_op' rfl rfl rfl rfl); (next => exact opv_nenil (T := TT) rfl rfl rfl hne))
            | (apply ar_op' rfl rfl rfl rfl; (next => (first
             | (refine evalE_ok (T := TT) rfl ?_; (first | exact trivial | (simp [NFL] <;> omega)))
             | (apply opk ⟨_, .binOp .lss _ _ _ _, _, _, _, _⟩; first | (refine opv_cmp_t rfl rfl rfl ?_; (next => (first | (simp only [cmpP]; simp [NFL] <;> omega)))) | fail)
             | (apply opk ⟨_, .call { callee := .builtin .len, args := _, argTypes := _ }, _, _, _, _⟩; first | exact opv_len_str (T := TT) rfl rfl rfl | fail)
             | (apply opk ⟨_, .fieldAddr _ _ _, _, _, _, _⟩; first | exact opv_field_box (T := TT) rfl rfl rfl rfl rfl | fail)
             | fail)))
            | refine ar_seq ?_
            | (refine arE ?_; refine ar_endM [0, 1, 4, 5, 6, 8, 9, 10, 11, 12, 13, 14, 15, 26, 30, 31, 32, 33, 40, 58, 70, 82, 89, 101] rfl ?_)
            | refine ar_region ?_
            | refine ar_block ?_
            | refine ar_skip ?_
            | (refine arC (.cond _ _ _) ?_; first | (refine ar_cond_true rfl ?_ ?_; (next => (first | rfl))) | fail)
            | fail)
          have hoff : offN 0 (escB s).length (escB (s.take i)).length = (escB (s.take i)).length := by unfold offN; rw [if_neg (by rw [he, hm] at hx2; omega)]; omega
          refine arC (.region _ _ true) ?_
          refine ar_nop (ar_drawX (st := fun _ => true) (mN := fun i => Nat.ble i 9) (mB := fun i => Nat.beq i 9) (ld := [(111, k, (s.getD i 0).toNat)]) (cs1 := []) (cs2 := [10, 11, 12]) mixed (mixB_ok (by kernel_rfl)) (fun i c o hmi hmb hc ho p hp hpc => ?_) rfl (by simp) (fun p hp => ?_) ?_)
          · have h9 : i = 9 := Nat.eq_of_beq_eq_true hmb
            subst h9
            simp only [List.head?_cons, Option.some.injEq] at hc
            subst hc
            exact hp 10 _ rfl hpc 9 (by decide)
          · rw [List.mem_singleton] at hp
            subst hp
            exact ⟨9, _, rfl, rfl, rfl⟩
          refine nx_op (d := 102) rfl rfl rfl rfl (opv_move_rd (u := .v (.int .i64 ((escB (s.take i)).length : Nat))) rfl (.inl rfl)) ⟨rfl, fun d hd => by cases hd; exact .inl ⟨_, rfl⟩⟩ ?_
          refine nx_op (d := 103) rfl rfl rfl rfl (opv_move_rd (u := .v (.slice (some ⟨kb, 0, none⟩) (escB s).length (escB s).length)) rfl (.inl rfl)) ⟨rfl, fun d hd => by cases hd; exact .inl ⟨_, rfl⟩⟩ ?_
          refine nx_op (d := 104) rfl rfl rfl rfl (opv_move_rd (u := .v (.int .i64 ((escB (s.take i)).length : Nat))) rfl (.inl rfl)) ⟨rfl, fun d hd => by cases hd; exact .inl ⟨_, rfl⟩⟩ ?_
          refine nx_op (d := 105) (u := .v (.slice (some ⟨kb, (escB (s.take i)).length, none⟩) ((escB s).length - (escB (s.take i)).length) ((escB s).length - (escB (s.take i)).length))) rfl rfl rfl rfl (opv_eq (opv_slice_bsl (Y := TT) (k := kb) (o := 0) (n := (escB s).length) (c := (escB s).length) (i := (escB (s.take i)).length) (j := (escB s).length) rfl rfl rfl rfl rfl (by omega) (Nat.le_refl _)) (by rw [hoff])) ⟨rfl, fun d hd => by cases hd; exact .inl ⟨_, rfl⟩⟩ ?_
          refine nx_op (d := 106) rfl rfl rfl rfl (opv_move_rd (u := .v (.pointer (some ⟨k, 0, none⟩))) rfl (.inl rfl)) ⟨rfl, fun d hd => by cases hd; exact .inl ⟨_, rfl⟩⟩ ?_
          refine nx_op (d := 107) rfl rfl rfl rfl (opv_move_rd (u := .v (.int .u8 ((s.getD i 0).toNat : Nat))) rfl (.inl rfl)) ⟨rfl, fun d hd => by cases hd; exact .inl ⟨_, rfl⟩⟩ ?_
          refine nx_op (d := 108) rfl rfl rfl rfl (opv_nil (a := ⟨k, 0, none⟩) rfl) ⟨rfl, fun d hd => by cases hd; exact .inl ⟨_, rfl⟩⟩ ?_
          refine nx_op (d := 109) (u := .v (.pointer (some ⟨k, 0, none⟩))) rfl rfl rfl rfl (opv_eq (opv_field_box (T := TT) rfl rfl rfl rfl rfl) rfl) ⟨rfl, fun d hd => by cases hd; exact .inl ⟨_, rfl⟩⟩ ?_
          refine nx_op (d := 110) (u := .v (.pointer (some ⟨k, (s.getD i 0).toNat, none⟩))) rfl rfl rfl rfl (opv_eq (opv_index_arr (Y := TT) rfl rfl rfl rfl hz0 hz1) (congrArg (fun q => AV.v (Value.pointer (some ⟨k, q, none⟩))) hzi)) ⟨rfl, fun d hd => by cases hd; exact .inl ⟨_, rfl⟩⟩ ?_
          refine nx_op (d := 111) (u := .sl false 1 (bytesR m)) rfl rfl rfl rfl (opv_load_box (u := .sl true 1 (bytesR m)) (T := TT) rfl (look_tl hkb.symm look_hd) (hzt _) rfl rfl rfl) ⟨rfl, fun d hd => by cases hd; exact ⟨rfl, loadC_box (u := .sl true 1 (bytesR m)) (T := TT) rfl (look_tl hkb.symm look_hd) (hzt _) rfl rfl tab_mp⟩⟩ ?_
          refine nx_skip rfl (nx_skip rfl (nx_skip rfl (nx_end ?_)))
          refine cx_end ?_
          refine cx_le (σ' := ⟨122, [(0, .v (.pointer (some ⟨k, 0, none⟩))), (1, .v (.string (mkB s))), (4, .v (.string (mkB []))), (12, .v (.slice (some ⟨kb, 0, none⟩) (escB s).length (escB s).length)), (14, .v (.int .i64 (i : Nat))), (102, .v (.int .i64 ((escB (s.take i)).length : Nat))), (105, .v (.slice (some ⟨kb, (escB (s.take i)).length, none⟩) ((escB s).length - (escB (s.take i)).length) ((escB s).length - (escB (s.take i)).length))), (111, .sl false 1 (bytesR m))], [(kb, byteV (bufB s i)), (k, tabA r), (r, rowA)], []⟩) ⟨rfl, ?_, ?_, rfl⟩ ?_
          · (repeat' (first | exact trivial | exact .refl _ | refine ⟨⟨_, rfl, ?_⟩, ?_⟩))
          · (repeat' (first | exact trivial | exact LeL.refl _ | refine ⟨⟨_, look_hd, ?_⟩, ?_⟩ | refine ⟨⟨_, look_tl (by first | (intro e; exact absurd e.symm (by assumption))) look_hd, ?_⟩, ?_⟩ | refine ⟨⟨_, look_tl (by first | (intro e; exact absurd e.symm (by assumption))) (look_tl (by first | (intro e; exact absurd e.symm (by assumption))) look_hd), ?_⟩, ?_⟩))
          refine cx_op rfl (eff_copy (T := TT) (m := m) (l := bufB s i) (off := (escB (s.take i)).length) rfl look_hd rfl rfl rfl (fun e => hne (by rw [e]; rfl)) (by rw [he] at hx2; omega) (by rw [bufB_len]; rw [he] at hx2; omega) rfl ?_)
          rw [bufB_put s i hlt hm he]
          refine cx_val (d := 113) rfl rfl rfl (opv_add64 rfl rfl rfl (by omega)) ?_
          refine cx_val (d := 13) rfl rfl rfl (opv_move_rd rfl (.inr rfl)) ?_
          refine cx_end ?_
          repeat (first | ((first | apply ar_un); (next => (first | (simp only [go_sem, Nat.reduceBEq, Nat.reduceEqDiff, reduceIte, reduceCtorEq, String.reduceEq, Nat.reduceAdd, Int.reduceToNat]; exact rfl)))) | ((first | apply ar_op' rfl rfl rfl rfl); (next => (first | (refine evalE_ok (T := TT) rfl ?_; (first | exact trivial | omega)) | fail))) | (refine arE ?_; refine ar_endM [0, 1, 4, 5, 6, 8, 9, 10, 11, 12, 13, 14, 15, 26, 30, 31, 32, 33, 40, 58, 70, 82, 89, 101] rfl ?_) | refine ar_region ?_ | refine ar_blk ?_ | fail)
          refine ar_back ⟨i + 1, ⟨rfl, ?_, ?_, rfl⟩, by omega, by omega⟩
          · (repeat' (first | exact trivial | exact .refl _ | refine ⟨⟨_, rfl, ?_⟩, ?_⟩ | refine Le1.of_eq ?_))
            all_goals (first | rfl | (refine congrArg (fun q => AV.v (Value.int .i64 q)) ?_; simp only [hx2, he, hm] <;> omega))
          · (repeat' (first | exact trivial | exact LeL.refl _ | refine ⟨⟨_, look_hd, ?_⟩, ?_⟩ | refine ⟨⟨_, look_tl (by first | (intro e; exact absurd e.symm (by assumption))) (look_tl (by first | (intro e; exact absurd e.symm (by assumption))) look_hd), ?_⟩, ?_⟩ | refine ⟨⟨_, look_tl (by first | (intro e; exact absurd e.symm (by assumption))) (look_tl (by first | (intro e; exact absurd e.symm (by assumption))) (look_tl (by first | (intro e; exact absurd e.symm (by assumption))) look_hd)), ?_⟩, ?_⟩))
        · have hj0 : (0 : Int) ≤ ((escB (s.take i)).length : Nat) := Int.natCast_nonneg _
          have hj1 : (((escB (s.take i)).length : Nat) : Int) < ((escB s).length : Nat) := by rw [he] at hx2; simp at hx2; omega
          have hji : 0 + ((((escB (s.take i)).length : Nat) : Int)).toNat * 1 = (escB (s.take i)).length := by omega
          repeat (first
            | ((first | apply ar_un); (next => (first | (simp only [go_sem, Nat.reduceBEq, Nat.reduceEqDiff, reduceIte, reduceCtorEq, String.reduceEq, Nat.reduceAdd, Int.reduceToNat]; exact rfl))))
            | ((first | apply ar_op' rfl rfl rfl rfl); (next => exact opv_nilnil (Y := TT) rfl rfl rfl true (.inr ⟨rfl, rfl⟩)))
            | ((first | apply ar_op' rfl rfl rfl rfl); (next => exact opv_eq (opv_index_arr (Y := TT) rfl rfl rfl rfl hz0 hz1) (congrArg (fun q => AV.v (Value.pointer (some ⟨k, q, none⟩))) hzi)))
            | ((first | apply ar_op' rfl rfl rfl rfl); (next => exact opv_load_box (T := TT) rfl (look_tl hkb.symm look_hd) (hzt _) rfl rfl rfl))
            | ((first | apply ar_op' rfl rfl rfl rfl); (next => exact opv_eq (opv_indexaddr_box (T := TT) rfl rfl rfl rfl hj0 hj1) (congrArg (fun q => AV.v (Value.pointer (some ⟨kb, q, none⟩))) hji)))
            | ((first | apply ar_op' rfl rfl rfl rfl); (next => (first
             | (refine evalE_ok (T := TT) rfl ?_; (first | exact trivial | (simp [NFL] <;> omega)))
             | (apply opk ⟨_, .binOp .lss _ _ _ _, _, _, _, _⟩; first | (refine opv_cmp_t rfl rfl rfl ?_; (next => (first | (simp only [cmpP]; simp [NFL] <;> omega)))) | fail)
             | (apply opk ⟨_, .call { callee := .builtin .len, args := _, argTypes := _ }, _, _, _, _⟩; first | exact opv_len_str (T := TT) rfl rfl rfl | fail)
             | (apply opk ⟨_, .fieldAddr _ _ _, _, _, _, _⟩; first | exact opv_field_box (T := TT) rfl rfl rfl rfl rfl | fail)
             | fail)))
            | refine ar_seq ?_
            | (refine arE ?_; refine ar_endM [0, 1, 4, 5, 6, 8, 9, 10, 11, 12, 13, 14, 15, 26, 30, 31, 32, 33, 40, 58, 70, 82, 89, 101] rfl ?_)
            | refine ar_region ?_
            | refine ar_block ?_
            | refine ar_skip ?_
            | (refine arC (.cond _ _ _) ?_; first | (refine ar_cond_true rfl ?_ ?_; (next => (first | rfl))) | (refine ar_cond_false rfl ?_ ?_; (next => (first | rfl))) | fail)
            | fail)
          refine ar_eff rfl rfl (eff_setbyte (T := TT) (s.getD i 0) rfl look_hd rfl rfl rfl ?_ ?_)
          next => rw [bufB_len]; omega
          rw [bufB_set s i hlt he]
          refine ar_nf ?_
          repeat (first | ((first | apply ar_un); (next => (first | (simp only [go_sem, Nat.reduceBEq, Nat.reduceEqDiff, reduceIte, reduceCtorEq, String.reduceEq, Nat.reduceAdd, Int.reduceToNat]; exact rfl)))) | ((first | apply ar_op' rfl rfl rfl rfl); (next => (first | (refine evalE_ok (T := TT) rfl ?_; (first | exact trivial | omega)) | fail))) | (refine arE ?_; refine ar_endM [0, 1, 4, 5, 6, 8, 9, 10, 11, 12, 13, 14, 15, 26, 30, 31, 32, 33, 40, 58, 70, 82, 89, 101] rfl ?_) | refine ar_region ?_ | refine ar_blk ?_ | fail)
          refine ar_back ⟨i + 1, ⟨rfl, ?_, ?_, rfl⟩, by omega, by omega⟩
          · (repeat' (first | exact trivial | exact .refl _ | refine ⟨⟨_, rfl, ?_⟩, ?_⟩ | refine Le1.of_eq ?_))
            all_goals (refine congrArg (fun q => AV.v (Value.int .i64 q)) ?_; simp only [hx2, he, List.length_singleton] <;> omega)
          · (repeat' (first | exact trivial | exact LeL.refl _ | refine ⟨⟨_, look_hd, ?_⟩, ?_⟩ | refine ⟨⟨_, look_tl (by first | (intro e; exact absurd e.symm (by assumption))) (look_tl (by first | (intro e; exact absurd e.symm (by assumption))) look_hd), ?_⟩, ?_⟩ | refine ⟨⟨_, look_tl (by first | (intro e; exact absurd e.symm (by assumption))) (look_tl (by first | (intro e; exact absurd e.symm (by assumption))) (look_tl (by first | (intro e; exact absurd e.symm (by assumption))) look_hd)), ?_⟩, ?_⟩))
      · have hie : i = s.length := by omega
        subst hie
        have hbuf : bufB s s.length = escB s := bufB_end s
        have hLL : (escB s).length = (bufB s s.length).length := by rw [hbuf]
        repeat (first
          | ((first | apply ar_un); (next => (first | (simp only [go_sem, Nat.reduceBEq, Nat.reduceEqDiff, reduceIte, reduceCtorEq, String.reduceEq, Nat.reduceAdd, Int.reduceToNat]; exact rfl))))
          | ((first | apply ar_op' rfl rfl rfl rfl); (next => (first
           | (refine evalE_ok (T := TT) rfl ?_; (first | exact trivial))
           | (apply opk ⟨_, .binOp .lss _ _ _ _, _, _, _, _⟩; first | (refine opv_cmp_f rfl rfl rfl ?_; (next => (first | (simp only [cmpP]; simp [NFL] <;> omega)))) | fail)
           | (apply opk ⟨_, .call { callee := .builtin .len, args := _, argTypes := _ }, _, _, _, _⟩; first | exact opv_len_str (T := TT) rfl rfl rfl | fail)
           | fail)))
          | refine ar_seq ?_
          | (refine arE ?_; refine ar_endM [0, 1, 4, 5, 6, 8, 9, 10, 11, 12, 13, 14, 15, 26, 30, 31, 32, 33, 40, 58, 70, 82, 89, 101] rfl ?_)
          | refine ar_region ?_
          | (refine arC (.cond _ _ _) ?_; first | (refine ar_cond_false rfl ?_ ?_; (next => (first | rfl))) | fail)
          | refine ar_exit ?_
          | refine stk_b_hit ?_
          | refine stk_c_exit ?_
          | refine stk_l_exit ?_
          | fail)
        refine ar_op' rfl rfl rfl rfl (opv_box_strL (T := TT) rfl look_hd rfl rfl rfl hLL hbuf) ?_
        repeat (first | ((first | apply ar_un | apply stk_un); (next => (first | (simp only [go_sem, Nat.reduceBEq, Nat.reduceEqDiff, reduceIte, reduceCtorEq, String.reduceEq, Nat.reduceAdd, Int.reduceToNat]; exact rfl)))) | (refine arC .ret ?_; refine ar_retM0 [4] ?_) | ((first | apply ar_op' rfl rfl rfl rfl); (next => (first | (refine evalE_ok (T := TT) rfl ?_; (first | exact trivial)) | fail))) | (refine arE ?_; refine ar_endM [0, 1, 4, 5, 6, 8, 9, 10, 11, 12, 13, 14, 15, 26, 30, 31, 32, 33, 40, 58, 70, 82, 89, 101] rfl ?_) | refine stk_nil ?_ | fail)
        first | exact qret_mk rfl (⟨rfl, rfl⟩) | (trace_state; exact qret_mk rfl (⟨rfl, rfl⟩))
  by_cases h24 : 24 ≤ s.length
  · refine ar_le (σ' := ⟨122, [(0, .v (.pointer (some ⟨k, 0, none⟩))), (1, .v (.string (mkB s))), (4, .v (.string (mkB []))), (5, .v (.int .i64 (s.length : Nat))), (6, .v (.bool false)), (26, .v (.bool true))], [(k, tabA r), (r, rowA)], []⟩) ⟨rfl, ?_, ?_, rfl⟩ ?_
    · (repeat' (first | exact trivial | exact .refl _ | refine ⟨⟨_, rfl, ?_⟩, ?_⟩ | refine Le1.of_eq ?_))
      all_goals exact congrArg (fun q => AV.v (Value.bool q)) (decide_eq_true (by omega))
    · (repeat' (first | exact trivial | exact LeL.refl _ | refine ⟨⟨_, look_hd, ?_⟩, ?_⟩ | refine ⟨⟨_, look_tl (by first | (intro e; exact absurd e.symm (by assumption))) look_hd, ?_⟩, ?_⟩))
    repeat (first
      | ((first | apply ar_un); (next => (first | (simp only [go_sem, Nat.reduceBEq, Nat.reduceEqDiff, reduceIte, reduceCtorEq, String.reduceEq, Nat.reduceAdd, Int.reduceToNat]; exact rfl))))
      | ((first | apply ar_op' rfl rfl rfl rfl); (next => exact opv_load_box (T := TT) rfl look_hd (tab_at _).2.2.2 rfl rfl rfl))
      | ((first | apply ar_op' rfl rfl rfl rfl); (next => (first
       | (refine evalE_ok (T := TT) rfl ?_; (first | exact trivial))
       | (apply opk ⟨_, .call { callee := .builtin .len, args := _, argTypes := _ }, _, _, _, _⟩; first | exact opv_len_nil (T := TT) rfl rfl rfl | fail)
       | (apply opk ⟨_, .fieldAddr _ _ _, _, _, _, _⟩; first | exact opv_field_box (T := TT) rfl rfl rfl rfl rfl | fail)
       | fail)))
      | refine ar_seq ?_
      | (refine arE ?_; refine ar_endM [0, 1, 4, 5, 6, 8, 9, 10, 11, 12, 13, 14, 15, 26, 30, 31, 32, 33, 40, 58, 70, 82, 89, 101] rfl ?_)
      | refine ar_region ?_
      | refine ar_block ?_
      | (refine arC (.cond _ _ _) ?_; first | (refine ar_cond_true rfl ?_ ?_; (next => (first | rfl))) | fail)
      | fail)
    refine ar_loop (fun i : Nat => ⟨122, [(0, .v (.pointer (some ⟨k, 0, none⟩))), (1, .v (.string (mkB s))), (5, .v (.int .i64 ((s.length + cn s i : Nat) : Int))), (6, .v (.bool (decide (cn s i ≠ 0)))), (4, .v (.string (mkB []))), (30, .v (.slice (some ⟨r, 0, none⟩) 3 3)), (31, .v (.int .i64 (3 : Nat))), (32, .v (.int .i64 i))], [(k, tabA r), (r, rowA)], []⟩) (fun i => i ≤ 3) (fun i => 3 - i) 0 ⟨rfl, ?_, ?_, rfl⟩ (Nat.zero_le _) ?_
    · (repeat' (first | exact trivial | exact .refl _ | refine ⟨⟨_, rfl, ?_⟩, ?_⟩))
      all_goals (refine congrArg (fun q => AV.v (Value.bool q)) ?_; simp [cn]; done)
    · (repeat' (first | exact trivial | exact LeL.refl _ | refine ⟨⟨_, look_hd, ?_⟩, ?_⟩ | refine ⟨⟨_, look_tl (by first | (intro e; exact absurd e.symm (by assumption))) look_hd, ?_⟩, ?_⟩))
    have hw1 : IntKind.i64.wrap (((bytesR [92, 110]).length : Nat) - 1 : Int) = 1 := rfl
    have hw2 : IntKind.i64.wrap (((bytesR [92, 34]).length : Nat) - 1 : Int) = 1 := rfl
    have hw3 : IntKind.i64.wrap (((bytesR [92, 92]).length : Nat) - 1 : Int) = 1 := rfl
    intro i hi
    obtain rfl | rfl | rfl | rfl : i = 0 ∨ i = 1 ∨ i = 2 ∨ i = 3 := by omega
    · have hcl : Lib.countByte s 10 ≤ s.length := List.count_le_length
      have hcl2 : cn s 0 ≤ 3 * s.length := cn_le s 0
      simp only [cn] at hcl2
      by_cases hc : Lib.countByte s 10 = 0
      · repeat (first
        | ((first | apply ar_un); (next => (first | (simp only [go_sem, Nat.reduceBEq, Nat.reduceEqDiff, reduceIte, reduceCtorEq, String.reduceEq, Nat.reduceAdd, Int.reduceToNat]; exact rfl))))
        | ((first | apply ar_op' rfl rfl rfl rfl); (next => exact opv_load_box (T := TT) rfl (look_tl (Ne.symm hkr) look_hd) row_at.1 rfl rfl rfl))
        | ((first | apply ar_op' rfl rfl rfl rfl); (next => exact opv_indexaddr_box (T := TT) rfl rfl rfl rfl (by decide) (by decide)))
        | ((first | apply ar_op' rfl rfl rfl rfl); (next => (first
         | (refine evalE_ok (T := TT) rfl ?_; (first | exact trivial | omega))
         | (apply opk ⟨_, .binOp .neq _ _ _ _, _, _, _, _⟩; first | (refine opv_cmp_f rfl rfl rfl ?_; (next => (first | (simp only [cmpP]; omega)))) | fail)
         | (apply opk ⟨_, .binOp .lss _ _ _ _, _, _, _, _⟩; first | (refine opv_cmp_t rfl rfl rfl ?_; (next => (first | (simp only [cmpP]; omega)))) | fail)
         | fail)))
        | (refine arO _ ?_; first
         | (refine arO ⟨_, .call { callee := .value _, args := _, argTypes := _ }, _, _, _, _⟩ ?_; first
          | (apply ar_callM0 rfl (count_a s 10) rfl rfl; (next => (repeat (first | exact PArgs.nil | (apply PArgs.cons; (next => (first | exact PArg.rd rfl (Le1.refl _) rfl)))))); (next => rfl); (next => rfl); rintro _ _ ⟨rfl, rfl⟩; refine ⟨_, rfl, ?_⟩)
          | fail)
         | fail)
        | refine ar_seq ?_
        | (refine arE ?_; refine ar_endM [0, 1, 4, 5, 6, 8, 9, 10, 11, 12, 13, 14, 15, 26, 30, 31, 32, 33, 40, 58, 70, 82, 89, 101] rfl ?_)
        | refine ar_region ?_
        | refine ar_block ?_
        | refine ar_skip ?_
        | refine ar_blk ?_
        | (refine arC (.cond _ _ _) ?_; first | (refine ar_cond_true rfl ?_ ?_; (next => (first | rfl))) | (refine ar_cond_false rfl ?_ ?_; (next => (first | rfl))) | fail)
        | fail)
        refine ar_back ⟨1, ⟨rfl, ?_, ?_, rfl⟩, by omega, by omega⟩
        · (repeat' (first | exact trivial | exact .refl _ | refine ⟨⟨_, rfl, ?_⟩, ?_⟩ | refine Le1.of_eq ?_))
          all_goals (first | (refine congrArg (fun q => AV.v (Value.int .i64 q)) ?_; simp only [cn, hc, hw1, hw2, hw3, Int.mul_one, IntKind.wrap_i64] <;> omega) | (refine congrArg (fun q => AV.v (Value.bool q)) ?_; simp [cn, hc]; done))
        · (repeat' (first | exact trivial | exact LeL.refl _ | refine ⟨⟨_, look_hd, ?_⟩, ?_⟩ | refine ⟨⟨_, look_tl (by first | (intro e; exact absurd e.symm (by assumption))) look_hd, ?_⟩, ?_⟩))
      · repeat (first
        | ((first | apply ar_un); (next => (first | (simp only [go_sem, Nat.reduceBEq, Nat.reduceEqDiff, reduceIte, reduceCtorEq, String.reduceEq, Nat.reduceAdd, Int.reduceToNat]; exact rfl))))
        | ((first | apply ar_op' rfl rfl rfl rfl | apply q_op rfl rfl rfl); (next => exact opv_load_box (T := TT) rfl look_hd (tab_at _).1 rfl rfl rfl))
        | ((first | apply ar_op' rfl rfl rfl rfl | apply q_op rfl rfl rfl); (next => exact opv_load_box (T := TT) rfl (look_tl (Ne.symm hkr) look_hd) row_at.1 rfl rfl rfl))
        | ((first | apply ar_op' rfl rfl rfl rfl | apply q_op rfl rfl rfl); (next => exact opv_indexaddr_box (T := TT) rfl rfl rfl rfl (by decide) (by decide)))
        | ((first | apply ar_op' rfl rfl rfl rfl | apply q_op rfl rfl rfl); (next => exact opv_index_arr (Y := TT) rfl rfl rfl rfl (by decide) (by decide)))
        | ((first | apply ar_op' rfl rfl rfl rfl | apply q_op rfl rfl rfl); (next => (first
         | (refine evalE_ok (T := TT) rfl ?_; (first | exact trivial | omega | (simp [NFL] <;> omega)))
         | (apply opk ⟨_, .binOp .add _ _ _ _, _, _, _, _⟩; first | exact opv_bin rfl rfl rfl | fail)
         | (apply opk ⟨_, .binOp .sub _ _ _ _, _, _, _, _⟩; first | exact opv_bin rfl rfl rfl | fail)
         | (apply opk ⟨_, .binOp .mul _ _ _ _, _, _, _, _⟩; first | exact opv_bin rfl rfl rfl | fail)
         | (apply opk ⟨_, .binOp .neq _ _ _ _, _, _, _, _⟩; first | (refine opv_cmp_t rfl rfl rfl ?_; (next => (first | (simp only [cmpP]; omega)))) | fail)
         | (apply opk ⟨_, .binOp .lss _ _ _ _, _, _, _, _⟩; first | (refine opv_cmp_t rfl rfl rfl ?_; (next => (first | (simp only [cmpP]; omega)))) | fail)
         | (apply opk ⟨_, .call { callee := .builtin .len, args := _, argTypes := _ }, _, _, _, _⟩; first | exact opv_len_sl (T := TT) rfl rfl rfl | fail)
         | (apply opk ⟨_, .fieldAddr _ _ _, _, _, _, _⟩; first | exact opv_field_box (T := TT) rfl rfl rfl rfl rfl | fail)
         | fail)))
        | (refine arO _ ?_; first
         | (refine arO ⟨_, .call { callee := .value _, args := _, argTypes := _ }, _, _, _, _⟩ ?_; first
          | (apply ar_callM0 rfl (count_a s 10) rfl rfl; (next => (repeat (first | exact PArgs.nil | (apply PArgs.cons; (next => (first | exact PArg.rd rfl (Le1.refl _) rfl)))))); (next => rfl); (next => rfl); rintro _ _ ⟨rfl, rfl⟩; refine ⟨_, rfl, ?_⟩)
          | fail)
         | fail)
        | refine ar_seq ?_
        | (refine arE ?_; refine ar_endM [0, 1, 4, 5, 6, 8, 9, 10, 11, 12, 13, 14, 15, 26, 30, 31, 32, 33, 40, 58, 70, 82, 89, 101] rfl ?_)
        | refine ar_region ?_
        | refine ar_block ?_
        | refine ar_skip ?_
        | refine ar_blk ?_
        | (refine arC (.cond _ _ _) ?_; first | (refine ar_cond_true rfl ?_ ?_; (next => (first | rfl))) | fail)
        | (refine arC (.region _ _ true) ?_; refine ar_nop (ar_draw mixed (by kernel_rfl) rfl ?_))
        | (refine q_nil ?_; refine ar_endM [0, 1, 4, 5, 6, 8, 9, 10, 11, 12, 13, 14, 15, 26, 30, 31, 32, 33, 40, 58, 70, 82, 89, 101] rfl ?_)
        | fail)
        refine ar_back ⟨1, ⟨rfl, ?_, ?_, rfl⟩, by omega, by omega⟩
        · (repeat' (first | exact trivial | exact .refl _ | refine ⟨⟨_, rfl, ?_⟩, ?_⟩ | refine Le1.of_eq ?_))
          all_goals (first | (refine congrArg (fun q => AV.v (Value.int .i64 q)) ?_; simp only [cn, hc, hw1, hw2, hw3, Int.mul_one, IntKind.wrap_i64] <;> omega) | (refine congrArg (fun q => AV.v (Value.bool q)) ?_; simp [cn, hc]; done))
        · (repeat' (first | exact trivial | exact LeL.refl _ | refine ⟨⟨_, look_hd, ?_⟩, ?_⟩ | refine ⟨⟨_, look_tl (by first | (intro e; exact absurd e.symm (by assumption))) look_hd, ?_⟩, ?_⟩))
    · have hcl : Lib.countByte s 34 ≤ s.length := List.count_le_length
      have hcl2 : cn s 1 ≤ 3 * s.length := cn_le s 1
      simp only [cn] at hcl2
      by_cases hc : Lib.countByte s 34 = 0
      · repeat (first
        | ((first | apply ar_un); (next => (first | (simp only [go_sem, Nat.reduceBEq, Nat.reduceEqDiff, reduceIte, reduceCtorEq, String.reduceEq, Nat.reduceAdd, Int.reduceToNat]; exact rfl))))
        | ((first | apply ar_op' rfl rfl rfl rfl); (next => exact opv_load_box (T := TT) rfl (look_tl (Ne.symm hkr) look_hd) row_at.2.1 rfl rfl rfl))
        | ((first | apply ar_op' rfl rfl rfl rfl); (next => exact opv_indexaddr_box (T := TT) rfl rfl rfl rfl (by decide) (by decide)))
        | ((first | apply ar_op' rfl rfl rfl rfl); (next => (first
         | (refine evalE_ok (T := TT) rfl ?_; (first | exact trivial | omega))
         | (apply opk ⟨_, .binOp .neq _ _ _ _, _, _, _, _⟩; first | (refine opv_cmp_f rfl rfl rfl ?_; (next => (first | (simp only [cmpP]; omega)))) | fail)
         | (apply opk ⟨_, .binOp .lss _ _ _ _, _, _, _, _⟩; first | (refine opv_cmp_t rfl rfl rfl ?_; (next => (first | (simp only [cmpP]; omega)))) | fail)
         | fail)))
        | (refine arO _ ?_; first
         | (refine arO ⟨_, .call { callee := .value _, args := _, argTypes := _ }, _, _, _, _⟩ ?_; first
          | (apply ar_callM0 rfl (count_a s 34) rfl rfl; (next => (repeat (first | exact PArgs.nil | (apply PArgs.cons; (next => (first | exact PArg.rd rfl (Le1.refl _) rfl)))))); (next => rfl); (next => rfl); rintro _ _ ⟨rfl, rfl⟩; refine ⟨_, rfl, ?_⟩)
          | fail)
         | fail)
        | refine ar_seq ?_
        | (refine arE ?_; refine ar_endM [0, 1, 4, 5, 6, 8, 9, 10, 11, 12, 13, 14, 15, 26, 30, 31, 32, 33, 40, 58, 70, 82, 89, 101] rfl ?_)
        | refine ar_region ?_
        | refine ar_block ?_
        | refine ar_skip ?_
        | refine ar_blk ?_
        | (refine arC (.cond _ _ _) ?_; first | (refine ar_cond_true rfl ?_ ?_; (next => (first | rfl))) | (refine ar_cond_false rfl ?_ ?_; (next => (first | rfl))) | fail)
        | fail)
        refine ar_back ⟨2, ⟨rfl, ?_, ?_, rfl⟩, by omega, by omega⟩
        · (repeat' (first | exact trivial | exact .refl _ | refine ⟨⟨_, rfl, ?_⟩, ?_⟩ | refine Le1.of_eq ?_))
          all_goals (first | (refine congrArg (fun q => AV.v (Value.int .i64 q)) ?_; simp only [cn, hc, hw1, hw2, hw3, Int.mul_one, IntKind.wrap_i64] <;> omega) | (refine congrArg (fun q => AV.v (Value.bool q)) ?_; simp [cn, hc]; done))
        · (repeat' (first | exact trivial | exact LeL.refl _ | refine ⟨⟨_, look_hd, ?_⟩, ?_⟩ | refine ⟨⟨_, look_tl (by first | (intro e; exact absurd e.symm (by assumption))) look_hd, ?_⟩, ?_⟩))
      · repeat (first
        | ((first | apply ar_un); (next => (first | (simp only [go_sem, Nat.reduceBEq, Nat.reduceEqDiff, reduceIte, reduceCtorEq, String.reduceEq, Nat.reduceAdd, Int.reduceToNat]; exact rfl))))
        | ((first | apply ar_op' rfl rfl rfl rfl | apply q_op rfl rfl rfl); (next => exact opv_load_box (T := TT) rfl look_hd (tab_at _).2.1 rfl rfl rfl))
        | ((first | apply ar_op' rfl rfl rfl rfl | apply q_op rfl rfl rfl); (next => exact opv_load_box (T := TT) rfl (look_tl (Ne.symm hkr) look_hd) row_at.2.1 rfl rfl rfl))
        | ((first | apply ar_op' rfl rfl rfl rfl | apply q_op rfl rfl rfl); (next => exact opv_indexaddr_box (T := TT) rfl rfl rfl rfl (by decide) (by decide)))
        | ((first | apply ar_op' rfl rfl rfl rfl | apply q_op rfl rfl rfl); (next => exact opv_index_arr (Y := TT) rfl rfl rfl rfl (by decide) (by decide)))
        | ((first | apply ar_op' rfl rfl rfl rfl | apply q_op rfl rfl rfl); (next => (first
         | (refine evalE_ok (T := TT) rfl ?_; (first | exact trivial | omega | (simp [NFL] <;> omega)))
         | (apply opk ⟨_, .binOp .add _ _ _ _, _, _, _, _⟩; first | exact opv_bin rfl rfl rfl | fail)
         | (apply opk ⟨_, .binOp .sub _ _ _ _, _, _, _, _⟩; first | exact opv_bin rfl rfl rfl | fail)
         | (apply opk ⟨_, .binOp .mul _ _ _ _, _, _, _, _⟩; first | exact opv_bin rfl rfl rfl | fail)
         | (apply opk ⟨_, .binOp .neq _ _ _ _, _, _, _, _⟩; first | (refine opv_cmp_t rfl rfl rfl ?_; (next => (first | (simp only [cmpP]; omega)))) | fail)
         | (apply opk ⟨_, .binOp .lss _ _ _ _, _, _, _, _⟩; first | (refine opv_cmp_t rfl rfl rfl ?_; (next => (first | (simp only [cmpP]; omega)))) | fail)
         | (apply opk ⟨_, .call { callee := .builtin .len, args := _, argTypes := _ }, _, _, _, _⟩; first | exact opv_len_sl (T := TT) rfl rfl rfl | fail)
         | (apply opk ⟨_, .fieldAddr _ _ _, _, _, _, _⟩; first | exact opv_field_box (T := TT) rfl rfl rfl rfl rfl | fail)
         | fail)))
        | (refine arO _ ?_; first
         | (refine arO ⟨_, .call { callee := .value _, args := _, argTypes := _ }, _, _, _, _⟩ ?_; first
          | (apply ar_callM0 rfl (count_a s 34) rfl rfl; (next => (repeat (first | exact PArgs.nil | (apply PArgs.cons; (next => (first | exact PArg.rd rfl (Le1.refl _) rfl)))))); (next => rfl); (next => rfl); rintro _ _ ⟨rfl, rfl⟩; refine ⟨_, rfl, ?_⟩)
          | fail)
         | fail)
        | refine ar_seq ?_
        | (refine arE ?_; refine ar_endM [0, 1, 4, 5, 6, 8, 9, 10, 11, 12, 13, 14, 15, 26, 30, 31, 32, 33, 40, 58, 70, 82, 89, 101] rfl ?_)
        | refine ar_region ?_
        | refine ar_block ?_
        | refine ar_skip ?_
        | refine ar_blk ?_
        | (refine arC (.cond _ _ _) ?_; first | (refine ar_cond_true rfl ?_ ?_; (next => (first | rfl))) | fail)
        | (refine arC (.region _ _ true) ?_; refine ar_nop (ar_draw mixed (by kernel_rfl) rfl ?_))
        | (refine q_nil ?_; refine ar_endM [0, 1, 4, 5, 6, 8, 9, 10, 11, 12, 13, 14, 15, 26, 30, 31, 32, 33, 40, 58, 70, 82, 89, 101] rfl ?_)
        | fail)
        refine ar_back ⟨2, ⟨rfl, ?_, ?_, rfl⟩, by omega, by omega⟩
        · (repeat' (first | exact trivial | exact .refl _ | refine ⟨⟨_, rfl, ?_⟩, ?_⟩ | refine Le1.of_eq ?_))
          all_goals (first | (refine congrArg (fun q => AV.v (Value.int .i64 q)) ?_; simp only [cn, hc, hw1, hw2, hw3, Int.mul_one, IntKind.wrap_i64] <;> omega) | (refine congrArg (fun q => AV.v (Value.bool q)) ?_; simp [cn, hc]; done))
        · (repeat' (first | exact trivial | exact LeL.refl _ | refine ⟨⟨_, look_hd, ?_⟩, ?_⟩ | refine ⟨⟨_, look_tl (by first | (intro e; exact absurd e.symm (by assumption))) look_hd, ?_⟩, ?_⟩))
    · have hcl : Lib.countByte s 92 ≤ s.length := List.count_le_length
      have hcl2 : cn s 2 ≤ 3 * s.length := cn_le s 2
      simp only [cn] at hcl2
      by_cases hc : Lib.countByte s 92 = 0
      · repeat (first
        | ((first | apply ar_un); (next => (first | (simp only [go_sem, Nat.reduceBEq, Nat.reduceEqDiff, reduceIte, reduceCtorEq, String.reduceEq, Nat.reduceAdd, Int.reduceToNat]; exact rfl))))
        | ((first | apply ar_op' rfl rfl rfl rfl); (next => exact opv_load_box (T := TT) rfl (look_tl (Ne.symm hkr) look_hd) row_at.2.2 rfl rfl rfl))
        | ((first | apply ar_op' rfl rfl rfl rfl); (next => exact opv_indexaddr_box (T := TT) rfl rfl rfl rfl (by decide) (by decide)))
        | ((first | apply ar_op' rfl rfl rfl rfl); (next => (first
         | (refine evalE_ok (T := TT) rfl ?_; (first | exact trivial | omega))
         | (apply opk ⟨_, .binOp .neq _ _ _ _, _, _, _, _⟩; first | (refine opv_cmp_f rfl rfl rfl ?_; (next => (first | (simp only [cmpP]; omega)))) | fail)
         | (apply opk ⟨_, .binOp .lss _ _ _ _, _, _, _, _⟩; first | (refine opv_cmp_t rfl rfl rfl ?_; (next => (first | (simp only [cmpP]; omega)))) | fail)
         | fail)))
        | (refine arO _ ?_; first
         | (refine arO ⟨_, .call { callee := .value _, args := _, argTypes := _ }, _, _, _, _⟩ ?_; first
          | (apply ar_callM0 rfl (count_a s 92) rfl rfl; (next => (repeat (first | exact PArgs.nil | (apply PArgs.cons; (next => (first | exact PArg.rd rfl (Le1.refl _) rfl)))))); (next => rfl); (next => rfl); rintro _ _ ⟨rfl, rfl⟩; refine ⟨_, rfl, ?_⟩)
          | fail)
         | fail)
        | refine ar_seq ?_
        | (refine arE ?_; refine ar_endM [0, 1, 4, 5, 6, 8, 9, 10, 11, 12, 13, 14, 15, 26, 30, 31, 32, 33, 40, 58, 70, 82, 89, 101] rfl ?_)
        | refine ar_region ?_
        | refine ar_block ?_
        | refine ar_skip ?_
        | refine ar_blk ?_
        | (refine arC (.cond _ _ _) ?_; first | (refine ar_cond_true rfl ?_ ?_; (next => (first | rfl))) | (refine ar_cond_false rfl ?_ ?_; (next => (first | rfl))) | fail)
        | fail)
        refine ar_back ⟨3, ⟨rfl, ?_, ?_, rfl⟩, by omega, by omega⟩
        · (repeat' (first | exact trivial | exact .refl _ | refine ⟨⟨_, rfl, ?_⟩, ?_⟩ | refine Le1.of_eq ?_))
          all_goals (first | (refine congrArg (fun q => AV.v (Value.int .i64 q)) ?_; simp only [cn, hc, hw1, hw2, hw3, Int.mul_one, IntKind.wrap_i64] <;> omega) | (refine congrArg (fun q => AV.v (Value.bool q)) ?_; simp [cn, hc]; done))
        · (repeat' (first | exact trivial | exact LeL.refl _ | refine ⟨⟨_, look_hd, ?_⟩, ?_⟩ | refine ⟨⟨_, look_tl (by first | (intro e; exact absurd e.symm (by assumption))) look_hd, ?_⟩, ?_⟩))
      · repeat (first
        | ((first | apply ar_un); (next => (first | (simp only [go_sem, Nat.reduceBEq, Nat.reduceEqDiff, reduceIte, reduceCtorEq, String.reduceEq, Nat.reduceAdd, Int.reduceToNat]; exact rfl))))
        | ((first | apply ar_op' rfl rfl rfl rfl | apply q_op rfl rfl rfl); (next => exact opv_load_box (T := TT) rfl look_hd (tab_at _).2.2.1 rfl rfl rfl))
        | ((first | apply ar_op' rfl rfl rfl rfl | apply q_op rfl rfl rfl); (next => exact opv_load_box (T := TT) rfl (look_tl (Ne.symm hkr) look_hd) row_at.2.2 rfl rfl rfl))
        | ((first | apply ar_op' rfl rfl rfl rfl | apply q_op rfl rfl rfl); (next => exact opv_indexaddr_box (T := TT) rfl rfl rfl rfl (by decide) (by decide)))
        | ((first | apply ar_op' rfl rfl rfl rfl | apply q_op rfl rfl rfl); (next => exact opv_index_arr (Y := TT) rfl rfl rfl rfl (by decide) (by decide)))
        | ((first | apply ar_op' rfl rfl rfl rfl | apply q_op rfl rfl rfl); (next => (first
         | (refine evalE_ok (T := TT) rfl ?_; (first | exact trivial | omega | (simp [NFL] <;> omega)))
         | (apply opk ⟨_, .binOp .add _ _ _ _, _, _, _, _⟩; first | exact opv_bin rfl rfl rfl | fail)
         | (apply opk ⟨_, .binOp .sub _ _ _ _, _, _, _, _⟩; first | exact opv_bin rfl rfl rfl | fail)
         | (apply opk ⟨_, .binOp .mul _ _ _ _, _, _, _, _⟩; first | exact opv_bin rfl rfl rfl | fail)
         | (apply opk ⟨_, .binOp .neq _ _ _ _, _, _, _, _⟩; first | (refine opv_cmp_t rfl rfl rfl ?_; (next => (first | (simp only [cmpP]; omega)))) | fail)
         | (apply opk ⟨_, .binOp .lss _ _ _ _, _, _, _, _⟩; first | (refine opv_cmp_t rfl rfl rfl ?_; (next => (first | (simp only [cmpP]; omega)))) | fail)
         | (apply opk ⟨_, .call { callee := .builtin .len, args := _, argTypes := _ }, _, _, _, _⟩; first | exact opv_len_sl (T := TT) rfl rfl rfl | fail)
         | (apply opk ⟨_, .fieldAddr _ _ _, _, _, _, _⟩; first | exact opv_field_box (T := TT) rfl rfl rfl rfl rfl | fail)
         | fail)))
        | (refine arO _ ?_; first
         | (refine arO ⟨_, .call { callee := .value _, args := _, argTypes := _ }, _, _, _, _⟩ ?_; first
          | (apply ar_callM0 rfl (count_a s 92) rfl rfl; (next => (repeat (first | exact PArgs.nil | (apply PArgs.cons; (next => (first | exact PArg.rd rfl (Le1.refl _) rfl)))))); (next => rfl); (next => rfl); rintro _ _ ⟨rfl, rfl⟩; refine ⟨_, rfl, ?_⟩)
          | fail)
         | fail)
        | refine ar_seq ?_
        | (refine arE ?_; refine ar_endM [0, 1, 4, 5, 6, 8, 9, 10, 11, 12, 13, 14, 15, 26, 30, 31, 32, 33, 40, 58, 70, 82, 89, 101] rfl ?_)
        | refine ar_region ?_
        | refine ar_block ?_
        | refine ar_skip ?_
        | refine ar_blk ?_
        | (refine arC (.cond _ _ _) ?_; first | (refine ar_cond_true rfl ?_ ?_; (next => (first | rfl))) | fail)
        | (refine arC (.region _ _ true) ?_; refine ar_nop (ar_draw mixed (by kernel_rfl) rfl ?_))
        | (refine q_nil ?_; refine ar_endM [0, 1, 4, 5, 6, 8, 9, 10, 11, 12, 13, 14, 15, 26, 30, 31, 32, 33, 40, 58, 70, 82, 89, 101] rfl ?_)
        | fail)
        refine ar_back ⟨3, ⟨rfl, ?_, ?_, rfl⟩, by omega, by omega⟩
        · (repeat' (first | exact trivial | exact .refl _ | refine ⟨⟨_, rfl, ?_⟩, ?_⟩ | refine Le1.of_eq ?_))
          all_goals (first | (refine congrArg (fun q => AV.v (Value.int .i64 q)) ?_; simp only [cn, hc, hw1, hw2, hw3, Int.mul_one, IntKind.wrap_i64] <;> omega) | (refine congrArg (fun q => AV.v (Value.bool q)) ?_; simp [cn, hc]; done))
        · (repeat' (first | exact trivial | exact LeL.refl _ | refine ⟨⟨_, look_hd, ?_⟩, ?_⟩ | refine ⟨⟨_, look_tl (by first | (intro e; exact absurd e.symm (by assumption))) look_hd, ?_⟩, ?_⟩))
    · repeat (first
      | ((first | apply ar_un); (next => (first | (simp only [go_sem, Nat.reduceBEq, Nat.reduceEqDiff, reduceIte, reduceCtorEq, String.reduceEq, Nat.reduceAdd, Int.reduceToNat]; exact rfl))))
      | ((first | apply ar_op' rfl rfl rfl rfl); (next => (first | (apply opk ⟨_, .binOp .lss _ _ _ _, _, _, _, _⟩; first | (refine opv_cmp_f rfl rfl rfl ?_; (next => (first | (simp only [cmpP]; omega)))) | fail) | fail)))
      | refine ar_seq ?_
      | (refine arE ?_; refine ar_endM [0, 1, 4, 5, 6, 8, 9, 10, 11, 12, 13, 14, 15, 26, 30, 31, 32, 33, 40, 58, 70, 82, 89, 101] rfl ?_)
      | refine ar_region ?_
      | (refine arC (.cond _ _ _) ?_; first | (refine ar_cond_false rfl ?_ ?_; (next => (first | rfl))) | fail)
      | refine ar_exit ?_
      | refine stk_b_hit ?_
      | refine stk_c_exit ?_
      | refine stk_l_exit ?_
      | fail)
      refine hj _ ⟨rfl, ?_, ?_, rfl⟩
      · (repeat' (first | exact trivial | exact .refl _ | refine ⟨⟨_, rfl, ?_⟩, ?_⟩ | refine Le1.of_eq ?_))
        all_goals (first | rfl | (refine congrArg (fun q => AV.v (Value.int .i64 q)) ?_; rw [escB_count]) | (refine congrArg (fun q => AV.v (Value.bool q)) ?_; rw [escB_count]; simp))
      · (repeat' (first | exact trivial | exact LeL.refl _ | refine ⟨⟨_, look_hd, ?_⟩, ?_⟩ | refine ⟨⟨_, look_tl (by first | (intro e; exact absurd e.symm (by assumption))) look_hd, ?_⟩, ?_⟩))
  · refine ar_le (σ' := ⟨122, [(0, .v (.pointer (some ⟨k, 0, none⟩))), (1, .v (.string (mkB s))), (4, .v (.string (mkB []))), (5, .v (.int .i64 (s.length : Nat))), (6, .v (.bool false)), (26, .v (.bool false))], [(k, tabA r), (r, rowA)], []⟩) ⟨rfl, ?_, ?_, rfl⟩ ?_
    · (repeat' (first | exact trivial | exact .refl _ | refine ⟨⟨_, rfl, ?_⟩, ?_⟩ | refine Le1.of_eq ?_))
      all_goals exact congrArg (fun q => AV.v (Value.bool q)) (decide_eq_false (by omega))
    · (repeat' (first | exact trivial | exact LeL.refl _ | refine ⟨⟨_, look_hd, ?_⟩, ?_⟩ | refine ⟨⟨_, look_tl (by first | (intro e; exact absurd e.symm (by assumption))) look_hd, ?_⟩, ?_⟩))
    repeat (first
      | ((first | apply ar_un); (next => (first | (simp only [go_sem, Nat.reduceBEq, Nat.reduceEqDiff, reduceIte, reduceCtorEq, String.reduceEq, Nat.reduceAdd, Int.reduceToNat]; exact rfl))))
      | ((first | apply ar_op' rfl rfl rfl rfl); (next => (first | (refine evalE_ok (T := TT) rfl ?_; (first | exact trivial)) | fail)))
      | refine ar_seq ?_
      | (refine arE ?_; refine ar_endM [0, 1, 4, 5, 6, 8, 9, 10, 11, 12, 13, 14, 15, 26, 30, 31, 32, 33, 40, 58, 70, 82, 89, 101] rfl ?_)
      | refine ar_region ?_
      | refine ar_block ?_
      | (refine arC (.cond _ _ _) ?_; first | (refine ar_cond_false rfl ?_ ?_; (next => (first | rfl))) | fail)
      | fail)
    refine ar_loop (fun i : Nat => ⟨122, [(0, .v (.pointer (some ⟨k, 0, none⟩))), (1, .v (.string (mkB s))), (5, .v (.int .i64 ((s.length + (escB (s.take i)).length - i : Nat) : Int))), (6, .v (.bool (decide ((escB (s.take i)).length ≠ i)))), (4, .v (.string (mkB []))), (10, .v (.int .i64 i))], [(k, tabA r), (r, rowA)], []⟩) (fun i => i ≤ s.length) (fun i => s.length - i) 0 ⟨rfl, ?_, ?_, rfl⟩ (Nat.zero_le _) ?_
    · (repeat' (first | exact trivial | exact .refl _ | refine ⟨⟨_, rfl, ?_⟩, ?_⟩))
      all_goals (refine congrArg (fun q => AV.v (Value.bool q)) ?_; simp [escB]; done)
    · (repeat' (first | exact trivial | exact LeL.refl _ | refine ⟨⟨_, look_hd, ?_⟩, ?_⟩ | refine ⟨⟨_, look_tl (by first | (intro e; exact absurd e.symm (by assumption))) look_hd, ?_⟩, ?_⟩))
    intro i hi
    have hx := escB_len (s.take i)
    rw [List.length_take_of_le hi] at hx
    by_cases hlt : i < s.length
    · have hbt := escB_take s i hlt
      have hx1 := esc1_len (s.getD i 0)
      have hx2 := congrArg List.length hbt
      rw [List.length_append] at hx2
      have hz0 : (0 : Int) ≤ ((s.getD i 0).toNat : Int) := Int.natCast_nonneg _
      have hz1 : ((s.getD i 0).toNat : Int) < (256 : Nat) := by have := (s.getD i 0).toNat_lt; omega
      have hzi : 0 + (((s.getD i 0).toNat : Int)).toNat = (s.getD i 0).toNat := by omega
      rcases esc_one (s.getD i 0) with ⟨m, hm, he, hzt⟩ | ⟨he, _, _, _, hzt⟩
      · have hne : bytesR m ≠ [] := fun e => by have := congrArg List.length e; rw [bytesR_len, hm] at this; cases this
        repeat (first
          | ((first | apply ar_un); (next => (first | (simp only [go_sem, Nat.reduceBEq, Nat.reduceEqDiff, reduceIte, reduceCtorEq, String.reduceEq, Nat.reduceAdd, Int.reduceToNat]; exact rfl))))
          | ((first | apply ar_op' rfl rfl rfl rfl); (next => exact opv_eq (opv_index_arr (Y := TT) rfl rfl rfl rfl hz0 hz1) (congrArg (fun q => AV.v (Value.pointer (some ⟨k, q, none⟩))) hzi)))
          | ((first | apply ar_op' rfl rfl rfl rfl); (next => exact opv_load_box (T := TT) rfl look_hd (hzt _) rfl rfl rfl))
          | ((first | apply ar_op' rfl rfl rfl rfl); (next => exact opv_nenil (T := TT) rfl rfl rfl (by assumption)))
          | ((first | apply ar_op' rfl rfl rfl rfl); (next => (first
           | (refine evalE_ok (T := TT) rfl ?_; (first | exact trivial | omega | (simp [NFL] <;> omega)))
           | (apply opk ⟨_, .binOp .add _ _ _ _, _, _, _, _⟩; first | exact opv_bin rfl rfl rfl | fail)
           | (apply opk ⟨_, .binOp .sub _ _ _ _, _, _, _, _⟩; first | exact opv_bin rfl rfl rfl | fail)
           | (apply opk ⟨_, .binOp .lss _ _ _ _, _, _, _, _⟩; first | (refine opv_cmp_t rfl rfl rfl ?_; (next => (first | (simp only [cmpP]; simp [NFL] <;> omega)))) | fail)
           | (apply opk ⟨_, .call { callee := .builtin .len, args := _, argTypes := _ }, _, _, _, _⟩; first
            | exact opv_len_str (T := TT) rfl rfl rfl
            | exact opv_len_sl (T := TT) rfl rfl rfl
            | fail)
           | (apply opk ⟨_, .fieldAddr _ _ _, _, _, _, _⟩; first | exact opv_field_box (T := TT) rfl rfl rfl rfl rfl | fail)
           | fail)))
          | refine ar_seq ?_
          | (refine arE ?_; refine ar_endM [0, 1, 4, 5, 6, 8, 9, 10, 11, 12, 13, 14, 15, 26, 30, 31, 32, 33, 40, 58, 70, 82, 89, 101] rfl ?_)
          | refine ar_region ?_
          | refine ar_block ?_
          | refine ar_skip ?_
          | refine ar_blk ?_
          | (refine arC (.cond _ _ _) ?_; first | (refine ar_cond_true rfl ?_ ?_; (next => (first | rfl))) | fail)
          | fail)
        refine ar_back ⟨i + 1, ⟨rfl, ?_, ?_, rfl⟩, by omega, by omega⟩
        · (repeat' (first | exact trivial | exact .refl _ | refine ⟨⟨_, rfl, ?_⟩, ?_⟩ | refine Le1.of_eq ?_))
          all_goals (first | (refine congrArg (fun q => AV.v (Value.int .i64 q)) ?_; simp only [bytesR_len, hm, hx2, he, IntKind.wrap_i64] <;> omega) | (refine congrArg (fun q => AV.v (Value.bool q)) ?_; exact (decide_eq_true (by rw [hx2, he]; omega)).symm))
        · (repeat' (first | exact trivial | exact LeL.refl _ | refine ⟨⟨_, look_hd, ?_⟩, ?_⟩ | refine ⟨⟨_, look_tl (by first | (intro e; exact absurd e.symm (by assumption))) look_hd, ?_⟩, ?_⟩))
      · repeat (first
        | ((first | apply ar_un); (next => (first | (simp only [go_sem, Nat.reduceBEq, Nat.reduceEqDiff, reduceIte, reduceCtorEq, String.reduceEq, Nat.reduceAdd, Int.reduceToNat]; exact rfl))))
        | ((first | apply ar_op' rfl rfl rfl rfl); (next => exact opv_nilnil (Y := TT) rfl rfl rfl true (.inr ⟨rfl, rfl⟩)))
        | ((first | apply ar_op' rfl rfl rfl rfl); (next => exact opv_eq (opv_index_arr (Y := TT) rfl rfl rfl rfl hz0 hz1) (congrArg (fun q => AV.v (Value.pointer (some ⟨k, q, none⟩))) hzi)))
        | ((first | apply ar_op' rfl rfl rfl rfl); (next => exact opv_load_box (T := TT) rfl look_hd (hzt _) rfl rfl rfl))
        | ((first | apply ar_op' rfl rfl rfl rfl); (next => (first
         | (refine evalE_ok (T := TT) rfl ?_; (first | exact trivial | omega | (simp [NFL] <;> omega)))
         | (apply opk ⟨_, .binOp .lss _ _ _ _, _, _, _, _⟩; first | (refine opv_cmp_t rfl rfl rfl ?_; (next => (first | (simp only [cmpP]; simp [NFL] <;> omega)))) | fail)
         | (apply opk ⟨_, .call { callee := .builtin .len, args := _, argTypes := _ }, _, _, _, _⟩; first | exact opv_len_str (T := TT) rfl rfl rfl | fail)
         | (apply opk ⟨_, .fieldAddr _ _ _, _, _, _, _⟩; first | exact opv_field_box (T := TT) rfl rfl rfl rfl rfl | fail)
         | fail)))
        | refine ar_seq ?_
        | (refine arE ?_; refine ar_endM [0, 1, 4, 5, 6, 8, 9, 10, 11, 12, 13, 14, 15, 26, 30, 31, 32, 33, 40, 58, 70, 82, 89, 101] rfl ?_)
        | refine ar_region ?_
        | refine ar_block ?_
        | refine ar_skip ?_
        | refine ar_blk ?_
        | (refine arC (.cond _ _ _) ?_; first | (refine ar_cond_true rfl ?_ ?_; (next => (first | rfl))) | (refine ar_cond_false rfl ?_ ?_; (next => (first | rfl))) | fail)
        | fail)
        refine ar_back ⟨i + 1, ⟨rfl, ?_, ?_, rfl⟩, by omega, by omega⟩
        · (repeat' (first | exact trivial | exact .refl _ | refine ⟨⟨_, rfl, ?_⟩, ?_⟩ | refine Le1.of_eq ?_))
          all_goals (first | rfl | (refine congrArg (fun q => AV.v (Value.int .i64 q)) ?_; simp only [hx2, he, List.length_singleton] <;> omega) | (refine congrArg (fun q => AV.v (Value.bool q)) ?_; rw [hx2, he]; simp))
        · (repeat' (first | exact trivial | exact LeL.refl _ | refine ⟨⟨_, look_hd, ?_⟩, ?_⟩ | refine ⟨⟨_, look_tl (by first | (intro e; exact absurd e.symm (by assumption))) look_hd, ?_⟩, ?_⟩))
    · repeat (first
      | ((first | apply ar_un); (next => (first | (simp only [go_sem, Nat.reduceBEq, Nat.reduceEqDiff, reduceIte, reduceCtorEq, String.reduceEq, Nat.reduceAdd, Int.reduceToNat]; exact rfl))))
      | ((first | apply ar_op' rfl rfl rfl rfl); (next => (first
       | (refine evalE_ok (T := TT) rfl ?_; (first | exact trivial))
       | (apply opk ⟨_, .binOp .lss _ _ _ _, _, _, _, _⟩; first | (refine opv_cmp_f rfl rfl rfl ?_; (next => (first | (simp only [cmpP]; simp [NFL] <;> omega)))) | fail)
       | (apply opk ⟨_, .call { callee := .builtin .len, args := _, argTypes := _ }, _, _, _, _⟩; first | exact opv_len_str (T := TT) rfl rfl rfl | fail)
       | fail)))
      | refine ar_seq ?_
      | (refine arE ?_; refine ar_endM [0, 1, 4, 5, 6, 8, 9, 10, 11, 12, 13, 14, 15, 26, 30, 31, 32, 33, 40, 58, 70, 82, 89, 101] rfl ?_)
      | refine ar_region ?_
      | (refine arC (.cond _ _ _) ?_; first | (refine ar_cond_false rfl ?_ ?_; (next => (first | rfl))) | fail)
      | refine ar_exit ?_
      | refine stk_b_hit ?_
      | refine stk_c_exit ?_
      | refine stk_l_exit ?_
      | fail)
      have hie : i = s.length := by omega
      subst hie
      refine hj _ ⟨rfl, ?_, ?_, rfl⟩
      · (repeat' (first | exact trivial | exact .refl _ | refine ⟨⟨_, rfl, ?_⟩, ?_⟩ | refine Le1.of_eq ?_))
        all_goals (first | rfl | (refine congrArg (fun q => AV.v (Value.int .i64 q)) ?_; rw [List.take_length]; omega) | (refine congrArg (fun q => AV.v (Value.bool q)) ?_; rw [List.take_length]))
      · (repeat' (first | exact trivial | exact LeL.refl _ | refine ⟨⟨_, look_hd, ?_⟩, ?_⟩ | refine ⟨⟨_, look_tl (by first | (intro e; exact absurd e.symm (by assumption))) look_hd, ?_⟩, ?_⟩))
end Go.Proofs.Ytgmlkhfjhogdbaa
