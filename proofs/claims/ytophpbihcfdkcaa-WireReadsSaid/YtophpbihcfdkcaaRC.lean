/- wire.fields, walked over abstract values, whatever it hands the fields to. -/
import Derived.Test.YtophpbihcfdkcaaRB
namespace Go.Proofs.Ytophpbihcfdkcaa
open Go.RowKit P
set_option linter.unusedSimpArgs false
set_option linter.unusedVariables false
attribute [local irreducible] AS.nf OpV ARun Stk QSem QSemA ACalls EffOp AppOk SrcOk Awp Aops PanK CallEnd SubS QretC
set_option maxHeartbeats 16000000

/-- What a field may be. -/
def FldOk (v : Fld) : Prop := v.n < 18446744073709551616 ∧ v.num ≤ 536870911 ∧ v.kind ≤ 5 ∧ (v.kind = 1 → v.bs.length = 8)
def fldV (v : Fld) : AV := fldA v.num v.kind v.n v.bs
/-- What is asked of that which the fields are handed to. -/
structure DoOk {α : Type} (st : α → List (Nat × List AV)) (step : α → Fld → Option α) (Pr : Nat → α → Prop) (f : FuncId) (caps : List AV) : Prop where
  cap : caps.all (fun u => (own1 (some u)).isNone) = true
  keys : ∀ a b k, look (st a) k = none → look (st b) k = none
  mono : ∀ m m' a, Pr m a → m' ≤ m → Pr m' a
  good : ∀ a v m a', Pr (m + 1) a → v.bs.length ≤ m → FldOk v → step a v = some a' → Pr m a' ∧ ACalls Try.prog f ([fldV v] ++ caps) (st a) (fun out H' => out = .ret (.tu []) ∧ H' = st a')
  bad : ∀ a v m, Pr (m + 1) a → v.bs.length ≤ m → FldOk v → step a v = none → ACalls Try.prog f ([fldV v] ++ caps) (st a) (fun out H' => out = .pan wrongV ∧ ∃ b, H' = st b)
def fieldsPost {α : Type} (st : α → List (Nat × List AV)) (r : Option α) (out : AOut) (H : List (Nat × List AV)) : Prop := match r with
  | some a' => out = .ret (.tu []) ∧ H = st a'
  | none => out = .pan wrongV ∧ ∃ b, H = st b

set_option maxRecDepth 100000 in
theorem fields_a {α : Type} {st : α → List (Nat × List AV)} {step : α → Fld → Option α} {Pr : Nat → α → Prop} {f : FuncId} {caps : List AV} (hd : DoOk st step Pr f caps) (s : List UInt8) (hs : s.length ≤ 140737488355328) (a : α) (ha : Pr s.length a) :
    ACalls Try.prog 43 [.v (.string (mkB s)), .fn f caps] (st a) (fieldsPost st (runF step s a)) := by
  refine acalls_enterC TT 60 [] Try.func43 (by kernel_rfl) rfl rfl rfl rfl ?_
  dsimp only [slotsOf]
  repeat (first
    | ((first | apply ar_un); (next => (first | (simp only [go_sem, Nat.reduceBEq, Nat.reduceEqDiff, reduceIte, reduceCtorEq, String.reduceEq, Nat.reduceAdd, Int.reduceToNat]; exact rfl))))
    | (apply ar_op' rfl rfl rfl rfl; (next => (first | (refine evalE_ok (T := TT) rfl ?_; (first | exact trivial)) | fail)))
    | (refine arO _ ?_; first
     | (refine arO ⟨_, .box _ _, _, _, _, _⟩ ?_; first
      | (refine ar_eff rfl rfl (eff_boxB rfl rfl rfl rfl ?_); intro kb hkb; (repeat (have hkn := (freshK_ne hkb).1; replace hkb := (freshK_ne hkb).2)); (try have hkl := freshK_look hkb); clear hkb; refine ar_nf ?_)
      | fail)
     | fail)
    | refine ar_seq ?_
    | (refine arE ?_; refine ar_endM [0, 1, 2, 4, 5, 6, 7, 11, 21, 32, 35, 40, 45, 52] rfl ?_)
    | refine ar_region ?_
    | refine ar_block ?_
    | fail)
  dsimp only at hkl
  obtain ⟨kc, hkc⟩ : ∃ kc, kc = kb := ⟨kb, rfl⟩
  subst hkc
  refine ar_loopS (fun y : List UInt8 × α => ⟨60, [(1, .fn f caps), (2, .v (.pointer (some ⟨kc, 0, none⟩))), (4, .fn 57 [.v (.pointer (some ⟨kc, 0, none⟩))]), (5, .fn 58 [.v (.pointer (some ⟨kc, 0, none⟩))])], (kc, [.v (.string (mkB y.1))]) :: st y.2, []⟩) (fun y => runF step y.1 y.2 = runF step s a ∧ Pr y.1.length y.2 ∧ y.1.length ≤ 140737488355328 ∧ look (st y.2) kc = none) (fun y => y.1.length) (s, a) (SubS.mk (by simp only [List.forall_mem_cons]; exact ⟨rfl, rfl, rfl, rfl, by simp⟩) (fun _ _ h => h)) ⟨rfl, ha, hs, hkl⟩ ?_
  rintro ⟨s', b⟩ ⟨hq, hp, hl, hk0⟩
  dsimp only at hq hp hl hk0 ⊢
  clear hkl
  by_cases hs0 : s' = []
  · subst hs0
    rw [runF_nil] at hq
    repeat (first
      | ((first | apply ar_un); (next => (first | (simp only [go_sem, Nat.reduceBEq, Nat.reduceEqDiff, reduceIte, reduceCtorEq, String.reduceEq, Nat.reduceAdd, Int.reduceToNat]; exact rfl))))
      | (apply ar_op' rfl rfl rfl rfl; (next => (first | (apply opk ⟨_, .binOp .neq _ _ _ _, _, _, _, _⟩; first | (refine opv_sne_f rfl rfl rfl ?_; (next => (first | rfl))) | fail) | fail)))
      | (refine arO _ ?_; first
       | (refine arO ⟨_, .load _ _, _, _, _, _⟩ ?_; first | refine ar_load_own (T := TT) rfl rfl rfl rfl look_hd rfl rfl rfl rfl ?_ | fail)
       | fail)
      | refine ar_seq ?_
      | (refine arE ?_; refine ar_endM [0, 1, 2, 4, 5, 6, 7, 11, 21, 32, 35, 40, 45, 52] rfl ?_)
      | refine ar_region ?_
      | (refine arC (.cond _ _ _) ?_; first | (refine ar_cond_false rfl ?_ ?_; (next => (first | rfl))) | fail)
      | refine ar_exit ?_
      | refine stk_b_hit ?_
      | refine stk_c_exit ?_
      | refine stk_l_exit ?_
      | fail)
    refine ar_nil (qretC_mkN (st b) rfl ?_ ?_)
    · exact look_skip hk0 look_rfl
    · rw [← hq]; exact ⟨rfl, rfl⟩
  obtain ⟨m, hm⟩ : ∃ m, s'.length = m + 1 := ⟨s'.length - 1, by have : s'.length ≠ 0 := fun e => hs0 (List.length_eq_zero_iff.1 e); omega⟩
  rw [hm] at hp
  obtain ⟨key, k, e, hrd⟩ : ∃ key k e, rd s' = (key, k, e) := ⟨_, _, _, rfl⟩
  by_cases he : ¬ e = 0
  · have hbad : fldAt s' = none := by unfold fldAt; rw [hrd, if_pos he]
    rw [runF_bad hs0 hbad] at hq
    repeat (first
      | ((first | apply ar_un); (next => (first | (simp only [go_sem, Nat.reduceBEq, Nat.reduceEqDiff, reduceIte, reduceCtorEq, String.reduceEq, Nat.reduceAdd, Int.reduceToNat]; exact rfl))))
      | (apply ar_op' rfl rfl rfl rfl; (next => (first
       | (refine evalE_ok (T := TT) rfl ?_; (first | exact trivial))
       | (apply opk ⟨_, .binOp .neq _ _ _ _, _, _, _, _⟩; first | (refine opv_sne_t rfl rfl rfl ?_; (next => (first | assumption))) | fail)
       | fail)))
      | (refine arO _ ?_; first
       | (refine arO ⟨_, .load _ _, _, _, _, _⟩ ?_; first | refine ar_load_own (T := TT) rfl rfl rfl rfl look_hd rfl rfl rfl rfl ?_ | fail)
       | (refine arO ⟨_, .call { callee := .value _, args := _, argTypes := _ }, _, _, _, _⟩ ?_; first
        | (apply ar_callXFH (us := []) rfl rfl (number_bad kc _ s' key k e hl (by first | exact look_hd | fail) hrd he) rfl rfl; (next => (repeat (first | exact PArgs.nil))); (next => rfl); (next => rfl); (next => rfl); (next => rfl); rintro _ _ ⟨rfl, rfl⟩; (first | refine callEnd_pan ?_))
        | fail)
       | fail)
      | refine ar_seq ?_
      | (refine arE ?_; refine ar_endM [0, 1, 2, 4, 5, 6, 7, 11, 21, 32, 35, 40, 45, 52] rfl ?_)
      | refine ar_region ?_
      | refine ar_block ?_
      | refine ar_skip ?_
      | (refine arC (.cond _ _ _) ?_; first | (refine ar_cond_true rfl ?_ ?_; (next => (first | rfl))) | fail)
      | fail)
    (repeat (first | refine panK_c ?_ | refine panK_b ?_ | refine panK_l ?_ | refine panK_o ?_))
    refine panK_endC (st b) ?_ ?_
    · first | exact look_skip hk0 look_rfl | exact look_skip hk0 (look_app0 look_rfl)
    · rw [← hq]; exact ⟨rfl, b, rfl⟩
  have he0 : e = 0 := by omega
  subst he0
  have hf := rd_fine hrd
  have hdl : (s'.drop k).length = s'.length - k := List.length_drop
  have hl1 : (s'.drop k).length ≤ 140737488355328 := by omega
  obtain ⟨n2, k2, e2, hrd2⟩ : ∃ n2 k2 e2, rd (s'.drop k) = (n2, k2, e2) := ⟨_, _, _, rfl⟩
  have hdl2 : ((s'.drop k).drop k2).length = (s'.drop k).length - k2 := List.length_drop
  have hl2 : ((s'.drop k).drop k2).length ≤ 140737488355328 := by omega
  have hf2 : e2 = 0 → 1 ≤ k2 ∧ k2 ≤ (s'.drop k).length ∧ n2 < 18446744073709551616 := fun e0 => by subst e0; have := rd_fine hrd2; omega
  have hcases : (fldAt s' = none ∧ ((key / 8 = 0) ∨ (¬ key / 8 = 0 ∧ 536870911 < key / 8) ∨ (¬ key / 8 = 0 ∧ ¬ 536870911 < key / 8 ∧ ((key % 8 = 0 ∧ ¬ e2 = 0) ∨ (key % 8 = 1 ∧ (s'.drop k).length < 8) ∨ (key % 8 = 2 ∧ ¬ e2 = 0) ∨ (key % 8 = 2 ∧ e2 = 0 ∧ ((s'.drop k).drop k2).length < n2) ∨ (key % 8 = 5 ∧ (s'.drop k).length < 4) ∨ (¬ key % 8 = 0 ∧ ¬ key % 8 = 1 ∧ ¬ key % 8 = 2 ∧ ¬ key % 8 = 5))))) ∨
      (¬ key / 8 = 0 ∧ ¬ 536870911 < key / 8 ∧ ((key % 8 = 0 ∧ e2 = 0 ∧ fldAt s' = some (⟨key / 8, 0, n2, []⟩, (s'.drop k).drop k2)) ∨ (key % 8 = 1 ∧ 8 ≤ (s'.drop k).length ∧ fldAt s' = some (⟨key / 8, 1, 0, (s'.drop k).take 8⟩, (s'.drop k).drop 8)) ∨
        (key % 8 = 2 ∧ e2 = 0 ∧ n2 ≤ ((s'.drop k).drop k2).length ∧ fldAt s' = some (⟨key / 8, 2, 0, ((s'.drop k).drop k2).take n2⟩, ((s'.drop k).drop k2).drop n2)) ∨ (key % 8 = 5 ∧ 4 ≤ (s'.drop k).length ∧ fldAt s' = some (⟨key / 8, 5, 0, (s'.drop k).take 4⟩, (s'.drop k).drop 4)))) := by
    unfold fldAt
    rw [hrd]
    simp only
    rw [hrd2]
    simp only
    rw [if_neg (by simp)]
    by_cases c0 : key / 8 = 0
    · exact .inl ⟨by rw [if_pos (.inl c0)], .inl c0⟩
    by_cases c1 : 536870911 < key / 8
    · exact .inl ⟨by rw [if_pos (.inr c1)], .inr (.inl ⟨c0, c1⟩)⟩
    rw [if_neg (by omega)]
    by_cases d0 : key % 8 = 0
    · rw [if_pos d0]
      by_cases x : e2 = 0
      · exact .inr ⟨c0, c1, .inl ⟨d0, x, by rw [if_neg (by omega)]⟩⟩
      · exact .inl ⟨by rw [if_pos (by omega)], .inr (.inr ⟨c0, c1, .inl ⟨d0, x⟩⟩)⟩
    rw [if_neg d0]
    by_cases d1 : key % 8 = 1
    · rw [if_pos d1]
      by_cases x : (s'.drop k).length < 8
      · exact .inl ⟨by rw [if_pos x], .inr (.inr ⟨c0, c1, .inr (.inl ⟨d1, x⟩)⟩)⟩
      · exact .inr ⟨c0, c1, .inr (.inl ⟨d1, by omega, by rw [if_neg x]⟩)⟩
    rw [if_neg d1]
    by_cases d2 : key % 8 = 2
    · rw [if_pos d2]
      by_cases x : e2 = 0
      · rw [if_neg (by omega)]
        by_cases z : ((s'.drop k).drop k2).length < n2
        · exact .inl ⟨by rw [if_pos z], .inr (.inr ⟨c0, c1, .inr (.inr (.inr (.inl ⟨d2, x, z⟩)))⟩)⟩
        · exact .inr ⟨c0, c1, .inr (.inr (.inl ⟨d2, x, by omega, by rw [if_neg z]⟩))⟩
      · exact .inl ⟨by rw [if_pos (by omega)], .inr (.inr ⟨c0, c1, .inr (.inr (.inl ⟨d2, x⟩))⟩)⟩
    rw [if_neg d2]
    by_cases d5 : key % 8 = 5
    · rw [if_pos d5]
      by_cases x : (s'.drop k).length < 4
      · exact .inl ⟨by rw [if_pos x], .inr (.inr ⟨c0, c1, .inr (.inr (.inr (.inr (.inl ⟨d5, x⟩))))⟩)⟩
      · exact .inr ⟨c0, c1, .inr (.inr (.inr ⟨d5, by omega, by rw [if_neg x]⟩))⟩
    rw [if_neg d5]
    exact .inl ⟨rfl, .inr (.inr ⟨c0, c1, .inr (.inr (.inr (.inr (.inr ⟨d0, d1, d2, d5⟩))))⟩)⟩
  rcases hcases with ⟨hbad, hc⟩ | ⟨c0, c1, hc⟩
  · rw [runF_bad hs0 hbad] at hq
    rcases hc with c0 | ⟨c0, c1⟩ | ⟨c0, c1, ⟨d0, he2⟩ | ⟨d0, hlen⟩ | ⟨d0, he2⟩ | ⟨d0, hee, hlen⟩ | ⟨d0, hlen⟩ | ⟨d0, d1, d2, d5⟩⟩
    all_goals (first | (have hf3 := hf2 hee; subst hee) | skip)
    all_goals (repeat (first
      | ((first | apply ar_un); (next => (first | (simp only [go_sem, Nat.reduceBEq, Nat.reduceEqDiff, reduceIte, reduceCtorEq, String.reduceEq, Nat.reduceAdd, Int.reduceToNat]; exact rfl))))
      | (apply ar_op' rfl rfl rfl rfl; (next => (first
       | (refine evalE_ok (T := TT) rfl ?_; (first | exact trivial))
       | (apply opk ⟨_, .binOp .and _ _ _ _, _, _, _, _⟩; first
        | (refine opv_and_mod 3 8 rfl rfl rfl ?_ ?_ ?_ ?_ ?_; (next => (first | exact .inr rfl)); (next => (decide)); (next => (decide)); (next => (decide)); (next => (first | omega)))
        | fail)
       | (apply opk ⟨_, .binOp .eql _ _ _ _, _, _, _, _⟩; first
        | (refine opv_cmp_t rfl rfl rfl ?_; (next => (first | (simp only [cmpP]; omega))))
        | (refine opv_cmp_f rfl rfl rfl ?_; (next => (first | (simp only [cmpP]; omega))))
        | fail)
       | (apply opk ⟨_, .binOp .neq _ _ _ _, _, _, _, _⟩; first | (refine opv_sne_t rfl rfl rfl ?_; (next => (first | assumption))) | fail)
       | (apply opk ⟨_, .binOp .gtr _ _ _ _, _, _, _, _⟩; first
        | (refine opv_cmp_t rfl rfl rfl ?_; (next => (first | (simp only [cmpP]; omega))))
        | (refine opv_cmp_f rfl rfl rfl ?_; (next => (first | (simp only [cmpP]; omega))))
        | fail)
       | (apply opk ⟨_, .convert _ _ _, _, _, _, _⟩; first | (refine opv_conv64 (T := TT) rfl rfl rfl ?_; (next => (first | omega))) | fail)
       | (apply opk ⟨_, .fieldAddr _ _ _, _, _, _, _⟩; first | exact opv_field_box (T := TT) rfl rfl rfl rfl rfl | fail)
       | (apply opk ⟨_, .build _ _, _, _, _, _⟩; first | exact opv_build (T := TT) rfl rfl rfl rfl rfl | fail)
       | (apply opk ⟨_, .makeInterface _ _, _, _, _, _⟩; first | exact opv_mkif (T := TT) rfl rfl rfl | fail)
       | (apply opk ⟨_, .pick _ _ _, _, _, _, _⟩; first
        | (refine opv_pickt rfl ?_ rfl; (next => (first | rfl)))
        | (refine opv_pickf rfl ?_ rfl; (next => (first | rfl)))
        | fail)
       | fail)))
      | (refine arO _ ?_; first
       | (refine arO ⟨_, .load _ _, _, _, _, _⟩ ?_; first | refine ar_load_own (T := TT) rfl rfl rfl rfl look_hd rfl rfl rfl rfl ?_ | fail)
       | (refine arO ⟨_, .store _ _ _, _, _, _, _⟩ ?_; first
        | (apply ar_effM rfl rfl; (next => (first
         | (apply effTo_store (T := TT) rfl; (next => (first | exact look_hd | fail)); (next => rfl); (next => rfl); (next => rfl); (next => rfl); (next => rfl); (next => rfl); (next => rfl); (next => rfl))
         | fail)))
        | fail)
       | (refine arO ⟨_, .alloc _, _, _, _, _⟩ ?_; first
        | (refine ar_eff rfl rfl (eff_alloc (T := TT) rfl rfl ?_); intro kb hkb; (repeat (have hkn := (freshK_ne hkb).1; replace hkb := (freshK_ne hkb).2)); (try have hkl := freshK_look hkb); clear hkb; refine ar_nf ?_)
        | fail)
       | (refine arO ⟨_, .panic _, _, _, _, _⟩ ?_; first | refine ar_panic rfl rfl rfl rfl ?_ | fail)
       | (refine arO ⟨_, .call { callee := .value _, args := _, argTypes := _ }, _, _, _, _⟩ ?_; first
        | (apply ar_callXFH (us := []) rfl rfl (number_ok kc _ s' key k hl (by first | exact look_hd | fail) hrd) rfl rfl; (next => (repeat (first | exact PArgs.nil))); (next => rfl); (next => rfl); (next => rfl); (next => rfl); rintro _ _ ⟨rfl, rfl⟩; (first | refine callEnd_ret ?_))
        | (apply ar_callXFH (us := []) rfl rfl (number_bad kc _ (s'.drop k) n2 k2 e2 hl1 (by first | ((repeat (first | exact look_hd | (apply look_tl; (next => (first | assumption | fail))) | fail)); done) | fail) hrd2 he2) rfl rfl; (next => (repeat (first | exact PArgs.nil))); (next => rfl); (next => rfl); (next => rfl); (next => rfl); rintro _ _ ⟨rfl, rfl⟩; (first | refine callEnd_pan ?_))
        | (apply ar_callXFH (us := []) rfl rfl (number_ok kc _ (s'.drop k) n2 k2 hl1 (by first | ((repeat (first | exact look_hd | (apply look_tl; (next => (first | assumption | fail))) | fail)); done) | fail) hrd2) rfl rfl; (next => (repeat (first | exact PArgs.nil))); (next => rfl); (next => rfl); (next => rfl); (next => rfl); rintro _ _ ⟨rfl, rfl⟩; (first | refine callEnd_ret ?_))
        | (apply ar_callXFH (us := [.v (.int .u64 (8 : Nat))]) rfl rfl (take_bad kc _ (s'.drop k) 8 hl1 (by first | ((repeat (first | exact look_hd | (apply look_tl; (next => (first | assumption | fail))) | fail)); done) | fail) hlen (by omega)) rfl rfl; (next => (repeat (first | exact PArgs.nil | (apply PArgs.cons; (next => (first | exact PArg.rd rfl (Le1.refl _) rfl)))))); (next => rfl); (next => rfl); (next => rfl); (next => rfl); rintro _ _ ⟨rfl, rfl⟩; (first | refine callEnd_pan ?_))
        | (apply ar_callXFH (us := [.v (.int .u64 (4 : Nat))]) rfl rfl (take_bad kc _ (s'.drop k) 4 hl1 (by first | ((repeat (first | exact look_hd | (apply look_tl; (next => (first | assumption | fail))) | fail)); done) | fail) hlen (by omega)) rfl rfl; (next => (repeat (first | exact PArgs.nil | (apply PArgs.cons; (next => (first | exact PArg.rd rfl (Le1.refl _) rfl)))))); (next => rfl); (next => rfl); (next => rfl); (next => rfl); rintro _ _ ⟨rfl, rfl⟩; (first | refine callEnd_pan ?_))
        | (apply ar_callXFH (us := [.v (.int .u64 n2)]) rfl rfl (take_bad kc _ ((s'.drop k).drop k2) n2 hl2 (by first | exact look_hd | fail) hlen (by omega)) rfl rfl; (next => (repeat (first | exact PArgs.nil | (apply PArgs.cons; (next => (first | exact PArg.rd rfl (Le1.refl _) rfl)))))); (next => rfl); (next => rfl); (next => rfl); (next => rfl); rintro _ _ ⟨rfl, rfl⟩; (first | refine callEnd_pan ?_))
        | fail)
       | fail)
      | refine ar_unwanted' rfl rfl rfl rfl ?_
      | refine ar_seq ?_
      | (refine arE ?_; refine ar_endM [0, 1, 2, 4, 5, 6, 7, 11, 21, 32, 35, 40, 45, 52] rfl ?_)
      | refine ar_region ?_
      | refine ar_block ?_
      | refine ar_skip ?_
      | refine ar_dedup rfl ?_
      | (refine arC (.cond _ _ _) ?_; first | (refine ar_cond_true rfl ?_ ?_; (next => (first | rfl))) | (refine ar_cond_false rfl ?_ ?_; (next => (first | rfl))) | fail)
      | fail))
    all_goals (repeat (first | refine panK_c ?_ | refine panK_b ?_ | refine panK_l ?_ | refine panK_o ?_))
    all_goals (refine panK_endC (st b) ?_ ?_)
    all_goals (first | (rw [← hq]; exact ⟨rfl, b, rfl⟩) | ((repeat (refine look_skip (by assumption) ?_)); first | exact look_rfl | exact look_app0 look_rfl))
  · obtain ⟨v, r, hfl, hcc⟩ : ∃ v r, fldAt s' = some (v, r) ∧ ((key % 8 = 0 ∧ e2 = 0 ∧ v = ⟨key / 8, 0, n2, []⟩ ∧ r = (s'.drop k).drop k2) ∨ (key % 8 = 1 ∧ 8 ≤ (s'.drop k).length ∧ v = ⟨key / 8, 1, 0, (s'.drop k).take 8⟩ ∧ r = (s'.drop k).drop 8) ∨
        (key % 8 = 2 ∧ (e2 = 0 ∧ n2 ≤ ((s'.drop k).drop k2).length) ∧ v = ⟨key / 8, 2, 0, ((s'.drop k).drop k2).take n2⟩ ∧ r = ((s'.drop k).drop k2).drop n2) ∨ (key % 8 = 5 ∧ 4 ≤ (s'.drop k).length ∧ v = ⟨key / 8, 5, 0, (s'.drop k).take 4⟩ ∧ r = (s'.drop k).drop 4)) := by
      rcases hc with ⟨d0, h2, h3⟩ | ⟨d0, h2, h3⟩ | ⟨d0, h2, h22, h3⟩ | ⟨d0, h2, h3⟩
      · exact ⟨_, _, h3, .inl ⟨d0, h2, rfl, rfl⟩⟩
      · exact ⟨_, _, h3, .inr (.inl ⟨d0, h2, rfl, rfl⟩)⟩
      · exact ⟨_, _, h3, .inr (.inr (.inl ⟨d0, ⟨h2, h22⟩, rfl, rfl⟩))⟩
      · exact ⟨_, _, h3, .inr (.inr (.inr ⟨d0, h2, rfl, rfl⟩))⟩
    clear hc
    obtain ⟨hv1, hv2, _, hv3⟩ := fldAt_lt hfl
    have hgood := hd.good b v m
    have hbadd := hd.bad b v m hp (by omega) hv3
    have hrn := fun h => runF_none (step := step) (a := b) hfl h
    have hrs := fun a' h => runF_some (step := step) (a := b) (a' := a') hfl h
    clear hfl
    obtain ⟨q, hst⟩ : ∃ q, step b v = q := ⟨_, rfl⟩
    have hmod : ((key : Nat) : Int) % 8 = ((key % 8 : Nat) : Int) := by omega
    rcases hcc with ⟨d0, hlen, rfl, hr⟩ | ⟨d0, hlen, rfl, hr⟩ | ⟨d0, ⟨hee, hlen⟩, rfl, hr⟩ | ⟨d0, hlen, rfl, hr⟩
    all_goals (first | (have hf3 := hf2 hee; subst hee) | (have hf3 := hf2 hlen; subst hlen) | skip)
    all_goals (repeat (first
      | ((first | apply ar_un); (next => (first | (simp only [go_sem, Nat.reduceBEq, Nat.reduceEqDiff, reduceIte, reduceCtorEq, String.reduceEq, Nat.reduceAdd, Int.reduceToNat]; exact rfl))))
      | (apply ar_op' rfl rfl rfl rfl; (next => (first
       | (refine evalE_ok (T := TT) rfl ?_; (first | exact trivial))
       | (apply opk ⟨_, .binOp .and _ _ _ _, _, _, _, _⟩; first
        | (refine opv_and_mod 3 8 rfl rfl rfl ?_ ?_ ?_ ?_ ?_; (next => (first | exact .inr rfl)); (next => (decide)); (next => (decide)); (next => (decide)); (next => (first | omega)))
        | fail)
       | (apply opk ⟨_, .binOp .eql _ _ _ _, _, _, _, _⟩; first
        | (refine opv_cmp_t rfl rfl rfl ?_; (next => (first | (simp only [cmpP]; omega))))
        | (refine opv_cmp_f rfl rfl rfl ?_; (next => (first | (simp only [cmpP]; omega))))
        | fail)
       | (apply opk ⟨_, .binOp .neq _ _ _ _, _, _, _, _⟩; first | (refine opv_sne_t rfl rfl rfl ?_; (next => (first | assumption))) | fail)
       | (apply opk ⟨_, .binOp .gtr _ _ _ _, _, _, _, _⟩; first | (refine opv_cmp_f rfl rfl rfl ?_; (next => (first | (simp only [cmpP]; omega)))) | fail)
       | (apply opk ⟨_, .convert _ _ _, _, _, _, _⟩; first | (refine opv_conv64 (T := TT) rfl rfl rfl ?_; (next => (first | omega))) | fail)
       | (apply opk ⟨_, .fieldAddr _ _ _, _, _, _, _⟩; first | exact opv_field_box (T := TT) rfl rfl rfl rfl rfl | fail)
       | (apply opk ⟨_, .build _ _, _, _, _, _⟩; first | exact opv_build (T := TT) rfl rfl rfl rfl rfl | fail)
       | (apply opk ⟨_, .pick _ _ _, _, _, _, _⟩; first | (refine opv_pickf rfl ?_ rfl; (next => (first | rfl))) | fail)
       | fail)))
      | (refine arO _ ?_; first
       | (refine arO ⟨_, .load _ _, _, _, _, _⟩ ?_; first | refine ar_load_own (T := TT) rfl rfl rfl rfl look_hd rfl rfl rfl rfl ?_ | fail)
       | (refine arO ⟨_, .store _ _ _, _, _, _, _⟩ ?_; first
        | (apply ar_effM rfl rfl; (next => (first
         | (apply effTo_store (T := TT) rfl; (next => (first
          | exact look_hd
          | ((repeat (first | exact look_hd | (apply look_tl; (next => (first | (intro e; exact absurd e.symm (by assumption)) | fail))) | fail)); done)
          | fail)); (next => rfl); (next => rfl); (next => rfl); (next => rfl); (next => rfl); (next => rfl); (next => rfl); (next => rfl))
         | fail)))
        | fail)
       | (refine arO ⟨_, .alloc _, _, _, _, _⟩ ?_; first
        | (refine ar_eff rfl rfl (eff_alloc (T := TT) rfl rfl ?_); intro kb hkb; (repeat (have hkn := (freshK_ne hkb).1; replace hkb := (freshK_ne hkb).2)); (try have hkl := freshK_look hkb); clear hkb; refine ar_nf ?_)
        | fail)
       | (refine arO ⟨_, .load _ _, _, _, _, _⟩ ?_; first | (refine ar_op' rfl rfl rfl rfl (opv_load_boxr (T := TT) rfl look_hd rfl rfl rfl rfl) ?_) | fail)
       | (refine arO ⟨_, .call { callee := .value _, args := _, argTypes := _ }, _, _, _, _⟩ ?_; first
        | (apply ar_callXFH (us := []) rfl rfl (number_ok kc _ s' key k hl (by first | exact look_hd | fail) hrd) rfl rfl; (next => (repeat (first | exact PArgs.nil))); (next => rfl); (next => rfl); (next => rfl); (next => rfl); rintro _ _ ⟨rfl, rfl⟩; (first | refine callEnd_ret ?_))
        | (apply ar_callXFH (us := []) rfl rfl (number_ok kc _ (s'.drop k) n2 k2 hl1 (by first | ((repeat (first | exact look_hd | (apply look_tl; (next => (first | assumption | fail))) | fail)); done) | fail) hrd2) rfl rfl; (next => (repeat (first | exact PArgs.nil))); (next => rfl); (next => rfl); (next => rfl); (next => rfl); rintro _ _ ⟨rfl, rfl⟩; (first | refine callEnd_ret ?_))
        | (apply ar_callXFH (us := [.v (.int .u64 (8 : Nat))]) rfl rfl (take_ok kc _ (s'.drop k) 8 hl1 (by first | ((repeat (first | exact look_hd | (apply look_tl; (next => (first | assumption | fail))) | fail)); done) | fail) hlen) rfl rfl; (next => (repeat (first | exact PArgs.nil | (apply PArgs.cons; (next => (first | exact PArg.rd rfl (Le1.refl _) rfl)))))); (next => rfl); (next => rfl); (next => rfl); (next => rfl); rintro _ _ ⟨rfl, rfl⟩; (first | refine callEnd_ret ?_))
        | (apply ar_callXFH (us := [.v (.int .u64 (4 : Nat))]) rfl rfl (take_ok kc _ (s'.drop k) 4 hl1 (by first | ((repeat (first | exact look_hd | (apply look_tl; (next => (first | assumption | fail))) | fail)); done) | fail) hlen) rfl rfl; (next => (repeat (first | exact PArgs.nil | (apply PArgs.cons; (next => (first | exact PArg.rd rfl (Le1.refl _) rfl)))))); (next => rfl); (next => rfl); (next => rfl); (next => rfl); rintro _ _ ⟨rfl, rfl⟩; (first | refine callEnd_ret ?_))
        | (apply ar_callXFH (us := [.v (.int .u64 n2)]) rfl rfl (take_ok kc _ ((s'.drop k).drop k2) n2 hl2 (by first | exact look_hd | fail) hlen) rfl rfl; (next => (repeat (first | exact PArgs.nil | (apply PArgs.cons; (next => (first | exact PArg.rd rfl (Le1.refl _) rfl)))))); (next => rfl); (next => rfl); (next => rfl); (next => rfl); rintro _ _ ⟨rfl, rfl⟩; (first | refine callEnd_ret ?_))
        | fail)
       | fail)
      | refine ar_seq ?_
      | (refine arE ?_; refine ar_endM [0, 1, 2, 4, 5, 6, 7, 11, 21, 32, 35, 40, 45, 52] rfl ?_)
      | refine ar_region ?_
      | refine ar_block ?_
      | refine ar_skip ?_
      | refine ar_blk ?_
      | refine ar_dedup rfl ?_
      | (refine arC (.cond _ _ _) ?_; first | (refine ar_cond_true rfl ?_ ?_; (next => (first | rfl))) | (refine ar_cond_false rfl ?_ ?_; (next => (first | rfl))) | fail)
      | fail))
    all_goals (rcases q with _ | a')
    all_goals (first
      | (have hq2 := hrn hst; rw [hq2] at hq; refine ar_callXF (us := [fldV _]) (Hp := st b) (Hr := []) rfl rfl (hbadd hst) rfl rfl (PArgs.cons (PArg.rd rfl (Le1.of_eq ?_) rfl) PArgs.nil) hd.cap rfl rfl ?_ ?_ rfl ?_; (next => (simp only [fldV, fldA, List.drop_zero, List.take_succ_cons, List.take_zero, List.map_cons, List.map_nil, AV.rd]; rw [hmod, d0]; rfl)); (next => ((repeat (refine look_skip (by assumption) ?_)); exact look_rfl)); (next => (intro k cs hk; simp [look_nil] at hk)); rintro _ _ ⟨rfl, b', rfl⟩; refine callEnd_pan ?_; (repeat (first | refine panK_b ?_ | refine panK_l ?_)); refine panK_endC (st b') (look_app0 look_rfl) ?_; rw [← hq]; exact ⟨rfl, b', rfl⟩)
      | skip)
    all_goals (obtain ⟨hp', hcall⟩ := hgood a' hp (by omega) hv3 hst)
    all_goals (refine ar_callXF (us := [fldV _]) (Hp := st b) (Hr := [(kc, [.v (.string (mkB r))])]) rfl rfl (hcall) rfl rfl (PArgs.cons (PArg.rd rfl (Le1.of_eq ?_) rfl) PArgs.nil) hd.cap rfl rfl ?_ ?_ rfl ?_; (next => (simp only [fldV, fldA, List.drop_zero, List.take_succ_cons, List.take_zero, List.map_cons, List.map_nil, AV.rd]; rw [hmod, d0]; rfl)); (next => ((repeat (refine look_skip (by assumption) ?_)); exact look_rfl)); (next => (refine look_one ?_ hk0; rw [hr]; (first | exact look_tl (by assumption) look_hd))); rintro _ _ ⟨rfl, rfl⟩; refine callEnd_ret ?_)
    all_goals (repeat (first | ((first | apply ar_un); (next => (first | (simp only [go_sem, Nat.reduceBEq, Nat.reduceEqDiff, reduceIte, reduceCtorEq, String.reduceEq, Nat.reduceAdd, Int.reduceToNat]; exact rfl)))) | (refine arE ?_; refine ar_endM [0, 1, 2, 4, 5, 6, 7, 11, 21, 32, 35, 40, 45, 52] rfl ?_) | refine ar_blk ?_ | fail))
    all_goals (have hk2 := hd.keys b a' kc hk0)
    all_goals (refine ar_back ?_)
    all_goals (refine ⟨(r, a'), SubS.mk (by simp only [List.forall_mem_cons]; exact ⟨rfl, rfl, rfl, rfl, by simp⟩) (look_swap hk2), ⟨(hrs a' hst).symm.trans hq, hd.mono _ _ _ hp' (by dsimp only; omega), by dsimp only; omega, hk2⟩, hv1⟩)
end Go.Proofs.Ytophpbihcfdkcaa
