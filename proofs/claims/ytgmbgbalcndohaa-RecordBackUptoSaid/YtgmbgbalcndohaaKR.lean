/- record.Unpack, over the contract of reader.record: a deferred closure recovers. -/
import Derived.Test.YtgmbgbalcndohaaFR02
import Derived.Test.YtgmbgbalcndohaaRU
namespace Go.Proofs.Ytgmbgbalcndohaa
open Go.RowKit P
set_option linter.unusedSimpArgs false
set_option linter.unusedVariables false
theorem acalls_drop {P : Program} {f : FuncId} {us : List AV} {H : List (Nat × List AV)} {v : Value} (h : ACalls P f us H (fun out H' => out = .pan v)) : ACalls P f us H (fun out H' => out = .pan v ∧ H' = []) :=
  ⟨h.1, fun F X vs hs => (h.2 F X vs hs).mono fun _ _ ⟨X', out, H', h1, h2, h3, h4⟩ => by
    subst h2
    refine ⟨X', .pan v, [], h1, ⟨rfl, rfl⟩, ?_, h4⟩
    obtain ⟨e1, e2⟩ := h3
    exact ⟨e1, SimE.sub e2 rfl (fun _ _ h => h) (fun k cs hk => by simp [look_nil] at hk) (fun p hp => hp)⟩⟩
attribute [local irreducible] AS.nf OpV ARun Stk QSem QSemA ACalls EffOp AppOk SrcOk Awp Aops PanK CallEnd SubS QretC PanOp DefC
set_option maxHeartbeats 8000000
def wrongR : Value := .iface 54 (.agg #[])
def recC (k : Int) (o1 o2 : Bool) (a b : List (List AV)) : List AV := [.v (.int .i64 k), .sl o1 2 a, .sl o2 3 b]
def recZ : List AV := [.v (.int .i64 0), .v (.slice none 0 0), .v (.slice none 0 0)]
set_option maxRecDepth 100000 in
theorem un1_ret (k2 k3 : Nat) (u0 u1 u2 c3 : AV) (hne : k2 ≠ k3) : DefC Try.prog 24 [.v (.pointer (some ⟨k2, 0, none⟩)), .v (.pointer (some ⟨k3, 0, none⟩))] [(k2, [u0, u1, u2]), (k3, [c3])] .returning .returning (fun out H' => out = .ret (.tu []) ∧ look H' k2 = some [u0, u1, u2] ∧ look H' k3 = some [c3]) := by
  unfold DefC
  refine callsD_rec Try.func24 rfl rfl rfl (fun X => .v .nilIface) rfl rfl rec_ret ?_
  dsimp only [slotsOf, List.drop_succ_cons, List.drop_zero]
  repeat (first
    | ((first | apply ar_un); (next => (first | (simp only [go_sem, Nat.reduceBEq, Nat.reduceEqDiff, reduceIte, reduceCtorEq, String.reduceEq, Nat.reduceAdd, Int.reduceToNat]; exact rfl))))
    | (apply ar_op' rfl rfl rfl rfl; (next => (first
     | (refine evalE_ok (T := TT) rfl ?_; (first | exact trivial))
     | (apply opk ⟨_, .typeAssert _ _ _ _, _, _, _, _⟩; first | exact opv_tassert_nil (T := TT) rfl rfl rfl rfl | fail)
     | fail)))
    | (refine arO _ ?_; first
     | (refine arO ⟨_, .store _ _ _, _, _, _, _⟩ ?_; first
      | (apply ar_effM rfl rfl; (next => (first
       | (apply effTo_store (T := TT) rfl; (next => (first | exact look_hd | fail)); (next => rfl); (next => rfl); (next => rfl); (next => rfl); (next => rfl); (next => rfl); (next => rfl); (next => rfl))
       | fail)))
      | fail)
     | (refine arO ⟨_, .alloc _, _, _, _, _⟩ ?_; first
      | (refine ar_eff rfl rfl (eff_alloc (T := TT) rfl rfl ?_); intro kb hkb; (repeat (have hkn := (freshK_ne hkb).1; replace hkb := (freshK_ne hkb).2)); (try have hkl := freshK_look hkb); clear hkb; refine ar_nf ?_)
      | fail)
     | fail)
    | refine ar_seq ?_
    | (refine arE ?_; refine ar_endM [0, 1, 3, 9] rfl ?_)
    | refine ar_region ?_
    | refine ar_skip ?_
    | refine ar_dedup rfl ?_
    | (refine arC (.cond _ _ _) ?_; first | (refine ar_cond_false rfl ?_ ?_; (next => (first | rfl))) | fail)
    | fail)
  rename_i hkn2
  exact ar_nil ⟨_, rfl, rfl, look_tl hkn2 look_hd, look_tl hkn (look_tl (fun e => hne e.symm) look_hd)⟩
set_option maxRecDepth 100000 in
theorem un1_pan (k2 k3 : Nat) (hne : k2 ≠ k3) : DefC Try.prog 24 [.v (.pointer (some ⟨k2, 0, none⟩)), .v (.pointer (some ⟨k3, 0, none⟩))] [(k2, [.v (.int .i64 0), .v (.slice none 0 0), .v (.slice none 0 0)]), (k3, [.v (.int .i64 0)])] (.panicking [⟨wrongR, false, false⟩]) (.panicking [⟨wrongR, true, false⟩]) (fun out H' => out = .ret (.tu []) ∧ look H' k2 = some recZ ∧ look H' k3 = some [.v (.int .i64 1)]) := by
  unfold DefC
  refine callsD_rec (ru := .ifc 54 (.ag [])) Try.func24 rfl rfl rfl (fun X => .ifc _ _ _ (.ag [] #[] rfl (fun i u x hu => by simp at hu))) rfl rfl (rec_pan wrongR) ?_
  dsimp only [slotsOf, List.drop_succ_cons, List.drop_zero]
  repeat (first
    | ((first | apply ar_un); (next => (first | (simp only [go_sem, Nat.reduceBEq, Nat.reduceEqDiff, reduceIte, reduceCtorEq, String.reduceEq, Nat.reduceAdd, Int.reduceToNat]; exact rfl))))
    | (apply ar_op' rfl rfl rfl rfl; (next => (first
     | (refine evalE_ok (T := TT) rfl ?_; (first | exact trivial))
     | (apply opk ⟨_, .build _ _, _, _, _, _⟩; first | exact opv_build (T := TT) rfl rfl rfl rfl rfl | fail)
     | (apply opk ⟨_, .typeAssert _ _ _ _, _, _, _, _⟩; first | exact opv_tassert_hit (T := TT) rfl rfl rfl rfl | fail)
     | fail)))
    | (refine arO _ ?_; first
     | (refine arO ⟨_, .store _ _ _, _, _, _, _⟩ ?_; first
      | (apply ar_effM rfl rfl; (next => (first
       | (apply effTo_store (T := TT) rfl; (next => (first
        | exact look_hd
        | ((repeat (first | exact look_hd | (apply look_tl; (next => (first | assumption | (intro e; exact absurd e.symm (by assumption)) | fail))) | fail)); done)
        | fail)); (next => rfl); (next => rfl); (next => rfl); (next => rfl); (next => rfl); (next => rfl); (next => rfl); (next => rfl))
       | fail)))
      | fail)
     | (refine arO ⟨_, .alloc _, _, _, _, _⟩ ?_; first
      | (refine ar_eff rfl rfl (eff_alloc (T := TT) rfl rfl ?_); intro kb hkb; (repeat (have hkn := (freshK_ne hkb).1; replace hkb := (freshK_ne hkb).2)); (try have hkl := freshK_look hkb); clear hkb; refine ar_nf ?_)
      | fail)
     | fail)
    | refine ar_seq ?_
    | (refine arE ?_; refine ar_endM [0, 1, 3, 9] rfl ?_)
    | refine ar_region ?_
    | refine ar_dedup rfl ?_
    | (refine arC (.cond _ _ _) ?_; first | (refine ar_cond_true rfl ?_ ?_; (next => (first | rfl))) | fail)
    | fail)
  rename_i hkn2
  exact ar_nil ⟨_, rfl, rfl, look_tl hne look_hd, look_hd⟩
theorem rec_call (N : Nat) (s : List UInt8) {p : PR (VRecord × Vreader)} (h : record_reader_record_i0 N ⟨s⟩ = some p) (kx : Nat) : ACalls Try.prog 25 [.v (.pointer (some ⟨kx, 0, none⟩))] [(kx, [.v (.string (mkB s))])] (fun out H => match p with
    | .ok z => out = .ret (.ag (enc_VRecord z.1)) ∧ H = [(kx, [.v (.string (mkB z.2.s))])]
    | .pan v => out = .pan v) :=
  (record_reader_record_i0_ok ⟨s⟩ h (fun _ => kx) (fun p hp q hq _ => (congrArg Prod.fst (List.mem_singleton.1 hp)).trans (congrArg Prod.fst (List.mem_singleton.1 hq)).symm)).mono fun out H ho => by
    cases p with
    | ok z => exact ho
    | pan v => exact ho
theorem res_un {t : List (Nat × AV)} {H : List (Nat × List AV)} {k2 k3 : Nat} {a b : List (List AV)} {k n : Int} (h2 : look t 2 = some (.v (.pointer (some ⟨k2, 0, none⟩)))) (h3 : look t 3 = some (.v (.pointer (some ⟨k3, 0, none⟩)))) (hk2 : look H k2 = some [.v (.int .i64 k), .sl false 2 a, .sl false 3 b]) (hk3 : look H k3 = some [.v (.int .i64 n)]) : resCA TT t H [.cell 2 25, .cell 3 26] = some (.tu [.ag [.v (.int .i64 k), .sl false 2 a, .sl false 3 b], .v (.int .i64 n)]) :=
  resCA_two (resC1_struct (T := TT) h2 hk2 rfl rfl rfl rfl) (resC1_one (T := TT) h3 hk3 rfl rfl rfl)
def isWrong (v : Value) : Bool := match v with
  | .iface 54 (.agg a) => a.isEmpty
  | _ => false
theorem subT {t t' : List (Nat × AV)} (h : ∀ p ∈ t', look t p.1 = some p.2) : ∀ s u, look t' s = some u → look t s = some u := fun s u hu => h (s, u) (look_mem hu)
theorem look_two {R : List (Nat × List AV)} {a b : Nat} {ca cb : List AV} (h1 : look R a = some ca) (h2 : look R b = some cb) : ∀ k cs, look [(a, ca), (b, cb)] k = some cs → look R k = some cs := fun k cs hk => by
  simp only [look_cons, look_nil] at hk
  by_cases e : k = a
  · subst e; rw [if_pos rfl] at hk; cases hk; exact h1
  · rw [if_neg e] at hk
    by_cases e2 : k = b
    · subst e2; rw [if_pos rfl] at hk; cases hk; exact h2
    · rw [if_neg e2] at hk; cases hk
set_option maxRecDepth 100000 in
theorem unpack_pan (N : Nat) (s : List UInt8) (hp : record_reader_record_i0 N ⟨s⟩ = some (.pan wrongR)) : ACalls Try.prog 11 [.v (.string (mkB s))] [] (fun out H => out = .ret (.tu [.ag (enc_VRecord ⟨0, [], []⟩), .v (.int .i64 1)]) ∧ H = []) := by
  have hc := fun kx => acalls_drop (rec_call N s hp kx)
  refine acalls_defer (pre := [_]) (g := 24) TT 23 [.cell 2 25, .cell 3 26] Try.func11 (by kernel_rfl) rfl rfl rfl rfl ⟨_, Try.func24, by kernel_rfl, rfl⟩ ?_
  dsimp only [slotsOf, List.map_cons, List.map_nil]
  repeat (first | ((first | apply ar_un); (next => (first | (simp only [go_sem, Nat.reduceBEq, Nat.reduceEqDiff, reduceIte, reduceCtorEq, String.reduceEq, Nat.reduceAdd, Int.reduceToNat]; exact rfl)))) | (refine arO _ ?_; first | (refine arO ⟨_, .alloc _, _, _, _, _⟩ ?_; first | (refine ar_eff rfl rfl (eff_alloc (T := TT) rfl rfl ?_); intro kb hkb; (repeat (have hkn := (freshK_ne hkb).1; replace hkb := (freshK_ne hkb).2)); (try have hkl := freshK_look hkb); clear hkb; refine ar_nf ?_) | fail) | fail) | (refine arE ?_; refine ar_endM [0, 2, 3, 4, 20] rfl ?_) | refine ar_region ?_ | fail)
  rename_i kr hkr
  refine ar_nil ?_
  refine ⟨[.pointer (some ⟨kr, 0, none⟩), .pointer (some ⟨kb, 0, none⟩)], rfl, rfl, ?_⟩
  repeat (first
    | ((first | apply ar_un); (next => (first | (simp only [go_sem, Nat.reduceBEq, Nat.reduceEqDiff, reduceIte, reduceCtorEq, String.reduceEq, Nat.reduceAdd, Int.reduceToNat]; exact rfl))))
    | (apply ar_op' rfl rfl rfl rfl; (next => (first
     | (refine evalE_ok (T := TT) rfl ?_; (first | exact trivial))
     | (apply opk ⟨_, .build _ _, _, _, _, _⟩; first | exact opv_build (T := TT) rfl rfl rfl rfl rfl | fail)
     | fail)))
    | (refine arO _ ?_; first
     | (refine arO ⟨_, .box _ _, _, _, _, _⟩ ?_; first
      | (refine ar_eff rfl rfl (eff_boxB rfl rfl rfl rfl ?_); intro kb hkb; (repeat (have hkn := (freshK_ne hkb).1; replace hkb := (freshK_ne hkb).2)); (try have hkl := freshK_look hkb); clear hkb; refine ar_nf ?_)
      | fail)
     | fail)
    | refine ar_seq ?_
    | (refine arE ?_; refine ar_endM [0, 2, 3, 4, 20] rfl ?_)
    | refine ar_region ?_
    | fail)
  rename_i k3 h23 _ h3b
  refine ar_callXP (Hp := [(kb, [.v (.string (mkB s))])]) (Hr := [(kr, [.v (.int .i64 0), .v (.slice none 0 0), .v (.slice none 0 0)]), (k3, [.v (.int .i64 0)])]) rfl (hc kb) rfl rfl (PArgs.cons (PArg.rd rfl (Le1.refl _) rfl) PArgs.nil) rfl rfl (look_lone look_hd) (fun k cs hk => ⟨look_two (look_tl hkn (look_tl h23 look_hd)) (look_tl h3b look_hd) k cs hk, look_sole fun e => by
    subst e
    rw [look_cons, if_neg (fun e => hkn e.symm), look_cons, if_neg (fun e => h3b e.symm)] at hk
    cases hk⟩) rfl ?_
  rintro _ _ ⟨rfl, rfl⟩
  refine callEnd_pan ?_
  (repeat (first | refine panK_c ?_ | refine panK_b ?_ | refine panK_l ?_ | refine panK_o ?_))
  refine panK_endD [(2, .v (.pointer (some ⟨kr, 0, none⟩))), (3, .v (.pointer (some ⟨k3, 0, none⟩)))] [(kr, recZ), (k3, [.v (.int .i64 0)])] (subT (by simp only [List.forall_mem_cons]; exact ⟨rfl, rfl, by simp⟩)) (fun k cs hk => ?_) ?_
  · exact hk
  · refine (un1_pan kr k3 h23).conv fun out H' ⟨e1, e2, e3⟩ => ⟨[(kr, recC 0 false false [] []), (k3, [.v (.int .i64 1)])], fun F X tm t ht hsim => ?_, .tu [], _, [], e1, res_un (k := 0) (a := []) (b := []) (n := 1) rfl rfl look_hd (look_tl (fun e => h23 e.symm) look_hd), fun k cs h => by simp [look_nil] at h, rfl, rfl⟩
    rcases ht with rfl | ⟨u, hu, rfl⟩
    · refine hsim.le ⟨rfl, trivial, ⟨⟨_, e2, ?_⟩, ⟨_, e3, ?_⟩, trivial⟩, rfl⟩
      · (repeat' (first | exact LeL.refl _ | exact .refl _ | exact .nil _ _ | refine LeL.cons ?_ ?_))
      · (repeat' (first | exact LeL.refl _))
    · refine hsim.le ⟨rfl, ⟨⟨_, look_hd, .refl _⟩, trivial⟩, ⟨⟨_, e2, ?_⟩, ⟨_, e3, ?_⟩, trivial⟩, rfl⟩
      · (repeat' (first | exact LeL.refl _ | exact .refl _ | exact .nil _ _ | refine LeL.cons ?_ ?_))
      · (repeat' (first | exact LeL.refl _))
theorem rec_ok (N : Nat) (s : List UInt8) (z : VRecord) (rd : Vreader) (h : record_reader_record_i0 N ⟨s⟩ = some (.ok (z, rd))) (kx : Nat) : ACalls Try.prog 25 [.v (.pointer (some ⟨kx, 0, none⟩))] [(kx, [.v (.string (mkB s))])] (fun out H => out = .ret (.ag [.v (.int .i64 z.Kind), .sl false 2 (z.Refs.map enc_VRef), .sl false 3 (z.Points.map enc_VPoint)]) ∧ H = [(kx, [.v (.string (mkB rd.s))])]) := rec_call N s h kx
theorem chk_call (N : Nat) (z : VRecord) (e : Int) (h : record_check N z = some e) : ACalls Try.prog 14 [.ag [.v (.int .i64 z.Kind), .sl false 2 (z.Refs.map enc_VRef), .sl false 3 (z.Points.map enc_VPoint)]] [] (fun out H => out = .ret (.v (.int .i64 e)) ∧ H = []) := record_check_ok z h id
set_option maxRecDepth 100000 in
theorem unpack_go (N : Nat) (s : List UInt8) (z : VRecord) (rd : Vreader) (hp : record_reader_record_i0 N ⟨s⟩ = some (.ok (z, rd))) (e : Int) (he : record_check N z = some e) : ACalls Try.prog 11 [.v (.string (mkB s))] [] (fun out H => out = .ret (if rd.s = [] ∧ e = 0 then .tu [.ag (enc_VRecord z), .v (.int .i64 0)] else .tu [.ag (enc_VRecord ⟨0, [], []⟩), .v (.int .i64 1)]) ∧ H = []) := by
  have hc := rec_ok N s z rd hp
  have hch := chk_call N z e he
  refine acalls_defer (pre := [_]) (g := 24) TT 23 [.cell 2 25, .cell 3 26] Try.func11 (by kernel_rfl) rfl rfl rfl rfl ⟨_, Try.func24, by kernel_rfl, rfl⟩ ?_
  dsimp only [slotsOf, List.map_cons, List.map_nil]
  repeat (first | ((first | apply ar_un); (next => (first | (simp only [go_sem, Nat.reduceBEq, Nat.reduceEqDiff, reduceIte, reduceCtorEq, String.reduceEq, Nat.reduceAdd, Int.reduceToNat]; exact rfl)))) | (refine arO _ ?_; first | (refine arO ⟨_, .alloc _, _, _, _, _⟩ ?_; first | (refine ar_eff rfl rfl (eff_alloc (T := TT) rfl rfl ?_); intro kb hkb; (repeat (have hkn := (freshK_ne hkb).1; replace hkb := (freshK_ne hkb).2)); (try have hkl := freshK_look hkb); clear hkb; refine ar_nf ?_) | fail) | fail) | (refine arE ?_; refine ar_endM [0, 2, 3, 4, 20] rfl ?_) | refine ar_region ?_ | fail)
  rename_i kr hkr
  refine ar_nil ?_
  refine ⟨[.pointer (some ⟨kr, 0, none⟩), .pointer (some ⟨kb, 0, none⟩)], rfl, rfl, ?_⟩
  repeat (first
    | ((first | apply ar_un); (next => (first | (simp only [go_sem, Nat.reduceBEq, Nat.reduceEqDiff, reduceIte, reduceCtorEq, String.reduceEq, Nat.reduceAdd, Int.reduceToNat]; exact rfl))))
    | (apply ar_op' rfl rfl rfl rfl; (next => (first
     | (refine evalE_ok (T := TT) rfl ?_; (first | exact trivial))
     | (apply opk ⟨_, .build _ _, _, _, _, _⟩; first | exact opv_build (T := TT) rfl rfl rfl rfl rfl | fail)
     | fail)))
    | (refine arO _ ?_; first
     | (refine arO ⟨_, .box _ _, _, _, _, _⟩ ?_; first
      | (refine ar_eff rfl rfl (eff_boxB rfl rfl rfl rfl ?_); intro kb hkb; (repeat (have hkn := (freshK_ne hkb).1; replace hkb := (freshK_ne hkb).2)); (try have hkl := freshK_look hkb); clear hkb; refine ar_nf ?_)
      | fail)
     | fail)
    | refine ar_seq ?_
    | (refine arE ?_; refine ar_endM [0, 2, 3, 4, 20] rfl ?_)
    | refine ar_region ?_
    | fail)
  rename_i k3 h23 _ h3b
  refine ar_callXP (Hp := [(kb, [.v (.string (mkB s))])]) (Hr := [(kr, [.v (.int .i64 0), .v (.slice none 0 0), .v (.slice none 0 0)]), (k3, [.v (.int .i64 0)])]) rfl (hc kb) rfl rfl (PArgs.cons (PArg.rd rfl (Le1.refl _) rfl) PArgs.nil) rfl rfl (look_lone look_hd) (fun k cs hk => ⟨look_two (look_tl hkn (look_tl h23 look_hd)) (look_tl h3b look_hd) k cs hk, look_sole fun e => by
    subst e
    rw [look_cons, if_neg (fun e => hkn e.symm), look_cons, if_neg (fun e => h3b e.symm)] at hk
    cases hk⟩) rfl ?_
  rintro _ _ ⟨rfl, rfl⟩
  refine callEnd_ret ?_
  have hr3 : kr ≠ k3 := h23
  have hrb : kr ≠ kb := hkn
  have h3b' : k3 ≠ kb := h3b
  by_cases h1 : rd.s = []
  · by_cases h2 : e = 0
    · rw [if_pos ⟨h1, h2⟩]
      subst h2
      repeat (first
        | ((first | apply ar_un); (next => (first | (simp only [go_sem, Nat.reduceBEq, Nat.reduceEqDiff, reduceIte, reduceCtorEq, String.reduceEq, Nat.reduceAdd, Int.reduceToNat]; exact rfl))))
        | (apply ar_op' rfl rfl rfl rfl; (next => (first
         | (refine evalE_ok (T := TT) rfl ?_; (first | exact trivial))
         | (apply opk ⟨_, .binOp .neq _ _ _ _, _, _, _, _⟩; first
          | (refine opv_cmp_f rfl rfl rfl ?_; (next => (first | (simp only [cmpP]; omega))))
          | (refine opv_sne_f rfl rfl rfl ?_; (next => (first | assumption)))
          | fail)
         | (apply opk ⟨_, .fieldAddr _ _ _, _, _, _, _⟩; first | exact opv_field_box (T := TT) rfl rfl rfl rfl rfl | fail)
         | (apply opk ⟨_, .pick _ _ _, _, _, _, _⟩; first | (refine opv_pickf rfl ?_ rfl; (next => (first | rfl))) | fail)
         | fail)))
        | (refine arO _ ?_; first
         | (refine arO ⟨_, .load _ _, _, _, _, _⟩ ?_; first
          | (refine ar_load_own (T := TT) rfl rfl rfl rfl (look_tl ?_ look_hd) rfl rfl rfl rfl ?_; (next => (first | (intro e; exact absurd e.symm (by assumption)))))
          | fail)
         | (refine arO ⟨_, .store _ _ _, _, _, _, _⟩ ?_; first
          | (apply ar_effM rfl rfl; (next => (first
           | (apply effTo_store (T := TT) rfl; (next => (first
            | exact look_hd
            | ((repeat (first | exact look_hd | (apply look_tl; (next => (first | assumption | (intro e; exact absurd e.symm (by assumption)) | fail))) | fail)); done)
            | fail)); (next => rfl); (next => rfl); (next => rfl); (next => rfl); (next => rfl); (next => rfl); (next => rfl); (next => rfl))
           | fail)))
          | fail)
         | (refine arO ⟨_, .load _ _, _, _, _, _⟩ ?_; first | (refine ar_op' rfl rfl rfl rfl (opv_load_boxr (T := TT) rfl look_hd rfl rfl rfl rfl) ?_) | fail)
         | (refine arO ⟨_, .call { callee := .value _, args := _, argTypes := _ }, _, _, _, _⟩ ?_; first
          | (apply ar_callM0 rfl (hch) rfl rfl; (next => (repeat (first | exact PArgs.nil | (apply PArgs.cons; (next => (first | exact PArg.rd rfl (Le1.refl _) rfl)))))); (next => rfl); (next => rfl); rintro _ _ ⟨rfl, rfl⟩; refine ⟨_, rfl, ?_⟩)
          | fail)
         | fail)
        | refine ar_seq ?_
        | (refine arE ?_; refine ar_endM [0, 2, 3, 4, 20] rfl ?_)
        | refine ar_region ?_
        | refine ar_skip ?_
        | (refine arC (.cond _ _ _) ?_; first | (refine ar_cond_false rfl ?_ ?_; (next => (first | rfl))) | fail)
        | fail
        | fail)
      refine ar_ret ?_
      (repeat (first | refine stk_c_ret ?_ | refine stk_b_ret ?_))
      refine stk_nil (((un1_ret kr k3 (.v (.int .i64 z.Kind)) (.sl false 2 (z.Refs.map enc_VRef)) (.sl false 3 (z.Points.map enc_VPoint)) (.v (.int .i64 0)) hr3).sub (look_two (by first | exact look_tl hr3 look_hd) (by first | exact look_hd))).conv fun out H' ⟨e1, e2, e3⟩ => ⟨[(kr, [.v (.int .i64 z.Kind), .sl false 2 (z.Refs.map enc_VRef), .sl false 3 (z.Points.map enc_VPoint)]), (k3, [.v (.int .i64 0)])], fun F X tm t ht hsim => ?_, .tu [], _, [], e1, res_un (k := z.Kind) (a := (z.Refs.map enc_VRef)) (b := (z.Points.map enc_VPoint)) (n := 0) rfl rfl look_hd (look_tl (fun e => hr3 e.symm) look_hd), fun k cs h => by simp [look_nil] at h, rfl, rfl⟩)
      rcases ht with rfl | ⟨u, hu, rfl⟩
      · refine hsim.le ⟨rfl, trivial, ⟨⟨_, e2, ?_⟩, ⟨_, e3, ?_⟩, trivial⟩, rfl⟩
        · (repeat' (first | exact LeL.refl _))
        · (repeat' (first | exact LeL.refl _))
      · refine hsim.le ⟨rfl, ⟨⟨_, look_hd, .refl _⟩, trivial⟩, ⟨⟨_, e2, ?_⟩, ⟨_, e3, ?_⟩, trivial⟩, rfl⟩
        · (repeat' (first | exact LeL.refl _))
        · (repeat' (first | exact LeL.refl _))
    · rw [if_neg (fun h => h2 h.2)]
      repeat (first
        | ((first | apply ar_un); (next => (first | (simp only [go_sem, Nat.reduceBEq, Nat.reduceEqDiff, reduceIte, reduceCtorEq, String.reduceEq, Nat.reduceAdd, Int.reduceToNat]; exact rfl))))
        | (apply ar_op' rfl rfl rfl rfl; (next => (first
         | (refine evalE_ok (T := TT) rfl ?_; (first | exact trivial))
         | (apply opk ⟨_, .binOp .neq _ _ _ _, _, _, _, _⟩; first
          | (refine opv_cmp_t rfl rfl rfl ?_; (next => (first | (simp only [cmpP]; omega))))
          | (refine opv_sne_f rfl rfl rfl ?_; (next => (first | assumption)))
          | fail)
         | (apply opk ⟨_, .fieldAddr _ _ _, _, _, _, _⟩; first | exact opv_field_box (T := TT) rfl rfl rfl rfl rfl | fail)
         | (apply opk ⟨_, .build _ _, _, _, _, _⟩; first | exact opv_build (T := TT) rfl rfl rfl rfl rfl | fail)
         | (apply opk ⟨_, .pick _ _ _, _, _, _, _⟩; first | (refine opv_pickf rfl ?_ rfl; (next => (first | rfl))) | fail)
         | fail)))
        | (refine arO _ ?_; first
         | (refine arO ⟨_, .load _ _, _, _, _, _⟩ ?_; first
          | (refine ar_load_own (T := TT) rfl rfl rfl rfl (look_tl ?_ look_hd) rfl rfl rfl rfl ?_; (next => (first | (intro e; exact absurd e.symm (by assumption)))))
          | fail)
         | (refine arO ⟨_, .store _ _ _, _, _, _, _⟩ ?_; first
          | (apply ar_effM rfl rfl; (next => (first
           | (apply effTo_store (T := TT) rfl; (next => (first
            | exact look_hd
            | ((repeat (first | exact look_hd | (apply look_tl; (next => (first | assumption | (intro e; exact absurd e.symm (by assumption)) | fail))) | fail)); done)
            | fail)); (next => rfl); (next => rfl); (next => rfl); (next => rfl); (next => rfl); (next => rfl); (next => rfl); (next => rfl))
           | fail)))
          | fail)
         | (refine arO ⟨_, .load _ _, _, _, _, _⟩ ?_; first | (refine ar_op' rfl rfl rfl rfl (opv_load_boxr (T := TT) rfl look_hd rfl rfl rfl rfl) ?_) | fail)
         | (refine arO ⟨_, .call { callee := .value _, args := _, argTypes := _ }, _, _, _, _⟩ ?_; first
          | (apply ar_callM0 rfl (hch) rfl rfl; (next => (repeat (first | exact PArgs.nil | (apply PArgs.cons; (next => (first | exact PArg.rd rfl (Le1.refl _) rfl)))))); (next => rfl); (next => rfl); rintro _ _ ⟨rfl, rfl⟩; refine ⟨_, rfl, ?_⟩)
          | fail)
         | fail)
        | refine ar_seq ?_
        | (refine arE ?_; refine ar_endM [0, 2, 3, 4, 20] rfl ?_)
        | refine ar_region ?_
        | (refine arC (.cond _ _ _) ?_; first | (refine ar_cond_true rfl ?_ ?_; (next => (first | rfl))) | fail)
        | fail
        | fail)
      refine ar_ret ?_
      (repeat (first | refine stk_c_ret ?_ | refine stk_b_ret ?_))
      refine stk_nil (((un1_ret kr k3 (.v (.int .i64 0)) (.v (.slice none 0 0)) (.v (.slice none 0 0)) (.v (.int .i64 1)) hr3).sub (look_two (by first | exact look_tl hr3 look_hd) (by first | exact look_hd))).conv fun out H' ⟨e1, e2, e3⟩ => ⟨[(kr, [.v (.int .i64 0), .sl false 2 [], .sl false 3 []]), (k3, [.v (.int .i64 1)])], fun F X tm t ht hsim => ?_, .tu [], _, [], e1, res_un (k := 0) (a := []) (b := []) (n := 1) rfl rfl look_hd (look_tl (fun e => hr3 e.symm) look_hd), fun k cs h => by simp [look_nil] at h, rfl, rfl⟩)
      rcases ht with rfl | ⟨u, hu, rfl⟩
      · refine hsim.le ⟨rfl, trivial, ⟨⟨_, e2, ?_⟩, ⟨_, e3, ?_⟩, trivial⟩, rfl⟩
        · (repeat' (first | exact LeL.refl _ | exact .refl _ | exact .nil _ _ | refine LeL.cons ?_ ?_))
        · (repeat' (first | exact LeL.refl _))
      · refine hsim.le ⟨rfl, ⟨⟨_, look_hd, .refl _⟩, trivial⟩, ⟨⟨_, e2, ?_⟩, ⟨_, e3, ?_⟩, trivial⟩, rfl⟩
        · (repeat' (first | exact LeL.refl _ | exact .refl _ | exact .nil _ _ | refine LeL.cons ?_ ?_))
        · (repeat' (first | exact LeL.refl _))
  · rw [if_neg (fun h => h1 h.1)]
    repeat (first
      | ((first | apply ar_un); (next => (first | (simp only [go_sem, Nat.reduceBEq, Nat.reduceEqDiff, reduceIte, reduceCtorEq, String.reduceEq, Nat.reduceAdd, Int.reduceToNat]; exact rfl))))
      | (apply ar_op' rfl rfl rfl rfl; (next => (first
       | (refine evalE_ok (T := TT) rfl ?_; (first | exact trivial))
       | (apply opk ⟨_, .binOp .neq _ _ _ _, _, _, _, _⟩; first | (refine opv_sne_t rfl rfl rfl ?_; (next => (first | assumption))) | fail)
       | (apply opk ⟨_, .fieldAddr _ _ _, _, _, _, _⟩; first | exact opv_field_box (T := TT) rfl rfl rfl rfl rfl | fail)
       | (apply opk ⟨_, .build _ _, _, _, _, _⟩; first | exact opv_build (T := TT) rfl rfl rfl rfl rfl | fail)
       | (apply opk ⟨_, .pick _ _ _, _, _, _, _⟩; first | (refine opv_pickt rfl ?_ rfl; (next => (first | rfl))) | fail)
       | fail)))
      | (refine arO _ ?_; first
       | (refine arO ⟨_, .load _ _, _, _, _, _⟩ ?_; first
        | (refine ar_load_own (T := TT) rfl rfl rfl rfl (look_tl ?_ look_hd) rfl rfl rfl rfl ?_; (next => (first | (intro e; exact absurd e.symm (by assumption)))))
        | fail)
       | (refine arO ⟨_, .store _ _ _, _, _, _, _⟩ ?_; first
        | (apply ar_effM rfl rfl; (next => (first
         | (apply effTo_store (T := TT) rfl; (next => (first
          | exact look_hd
          | ((repeat (first | exact look_hd | (apply look_tl; (next => (first | assumption | (intro e; exact absurd e.symm (by assumption)) | fail))) | fail)); done)
          | fail)); (next => rfl); (next => rfl); (next => rfl); (next => rfl); (next => rfl); (next => rfl); (next => rfl); (next => rfl))
         | fail)))
        | fail)
       | fail)
      | refine ar_unwanted' rfl rfl rfl rfl ?_
      | refine ar_seq ?_
      | (refine arE ?_; refine ar_endM [0, 2, 3, 4, 20] rfl ?_)
      | refine ar_region ?_
      | (refine arC (.cond _ _ _) ?_; first | (refine ar_cond_true rfl ?_ ?_; (next => (first | rfl))) | fail)
      | fail
      | fail)
    refine ar_ret ?_
    (repeat (first | refine stk_c_ret ?_ | refine stk_b_ret ?_))
    refine stk_nil (((un1_ret kr k3 (.v (.int .i64 0)) (.v (.slice none 0 0)) (.v (.slice none 0 0)) (.v (.int .i64 1)) hr3).sub (look_two (by first | exact look_tl hr3 look_hd) (by first | exact look_hd))).conv fun out H' ⟨e1, e2, e3⟩ => ⟨[(kr, [.v (.int .i64 0), .sl false 2 [], .sl false 3 []]), (k3, [.v (.int .i64 1)])], fun F X tm t ht hsim => ?_, .tu [], _, [], e1, res_un (k := 0) (a := []) (b := []) (n := 1) rfl rfl look_hd (look_tl (fun e => hr3 e.symm) look_hd), fun k cs h => by simp [look_nil] at h, rfl, rfl⟩)
    rcases ht with rfl | ⟨u, hu, rfl⟩
    · refine hsim.le ⟨rfl, trivial, ⟨⟨_, e2, ?_⟩, ⟨_, e3, ?_⟩, trivial⟩, rfl⟩
      · (repeat' (first | exact LeL.refl _ | exact .refl _ | exact .nil _ _ | refine LeL.cons ?_ ?_))
      · (repeat' (first | exact LeL.refl _))
    · refine hsim.le ⟨rfl, ⟨⟨_, look_hd, .refl _⟩, trivial⟩, ⟨⟨_, e2, ?_⟩, ⟨_, e3, ?_⟩, trivial⟩, rfl⟩
      · (repeat' (first | exact LeL.refl _ | exact .refl _ | exact .nil _ _ | refine LeL.cons ?_ ?_))
      · (repeat' (first | exact LeL.refl _))
/-! ### As a callee -/
def record_Unpack (N : Nat) (s : List UInt8) : Option (VRecord × Int) := match record_reader_record_i0 N ⟨s⟩ with
  | some (.ok (z, rd)) => match record_check N z with
    | some e => if rd.s = [] ∧ e = 0 then some (z, 0) else some (⟨0, [], []⟩, 1)
    | none => none
  | some (.pan (.iface 54 (.agg ⟨[]⟩))) => some (⟨0, [], []⟩, 1)
  | _ => none
def record_Unpack_u (r : VRecord × Int) : TV EE.T := .tu [.ag (unpT EE (.nam 5) r.1), .a (.d (.int .i64) r.2)]
def record_Unpack_h (N : Nat) : List (TV EE.T) → PV EE.T
  | [u0] => match argD .str u0 with
    | some x0 => .opt (record_Unpack N x0) record_Unpack_u
    | _ => .bad
  | _ => .bad
theorem record_Unpack_ok {N : Nat} (s : List UInt8) {r : VRecord × Int} (h : record_Unpack N s = some r) : ACalls Try.prog 11 [.v (.string (mkB s))] [] (fun out H => out = .ret (.tu [.ag (enc_VRecord r.1), .v (.int .i64 r.2)]) ∧ H = []) := by
  unfold record_Unpack at h
  split at h
  · rename_i z rd hp
    split at h
    · rename_i e he
      have := unpack_go N s z rd hp e he
      by_cases hc : rd.s = [] ∧ e = 0
      · rw [if_pos hc] at h this; cases h; exact this
      · rw [if_neg hc] at h this; cases h; exact this
    · cases h
  · rename_i hp
    cases h
    exact unpack_pan N s hp
  · cases h
theorem record_Unpack_hok (N : Nat) (us : List (TV EE.T)) : (record_Unpack_h N us).ok fun u => ∀ ρ, ACalls Try.prog 11 (us.map (TV.to EE.toEnc ρ)) [] (fun out H => out = .ret (u.to EE.toEnc ρ) ∧ H = []) := by
  unfold record_Unpack_h
  split
  · split
    · rename_i u0 x0 h0
      intro z hz ρ
      refine acalls_le (us' := [.a (.d .str x0)]) ?_ (record_Unpack_ok x0 hz)
      exact ⟨argD_le h0 ρ, trivial⟩
    · trivial
  · trivial
end Go.Proofs.Ytgmbgbalcndohaa
