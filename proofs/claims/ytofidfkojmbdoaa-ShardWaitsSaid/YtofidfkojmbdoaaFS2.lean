/- The walks that prove plain functions right, written by gen/tgl.py. -/
import Derived.Test.YtofidfkojmbdoaaFS2p
import Derived.Test.YtofidfkojmbdoaaFS1
namespace Go.Proofs.Ytofidfkojmbdoaa
open Go.RowKit P
set_option linter.unusedVariables false
set_option linter.unusedSimpArgs false
set_option maxRecDepth 100000
/-! ### gleaner/gleanerlaw.ShardPushes -/
def law_ShardPushes_u (r : Bool) : TV EE.T := .a (.d .bool r)
def w7enc (r : Bool) : RL EE.T := .ret (law_ShardPushes_u r) []
def w7lv : Lvs := ⟨[(5, ⟨[(2, false), (3, false), (5, false), (6, false), (7, false)], [], [(2, (some 8, [])), (3, (some 7, [])), (5, (some 8, []))]⟩), (7, ⟨[(2, false), (3, false), (5, false), (6, false), (7, false), (8, false)], [], [(2, (some 8, [])), (3, (some 7, [])), (5, (some 8, []))]⟩), (9, ⟨[(2, false), (3, false), (5, false), (6, false), (7, false), (8, false)], [], [(2, (some 8, [])), (3, (some 7, [])), (5, (some 8, []))]⟩), (11, ⟨[(2, false), (3, false), (5, false), (6, false), (7, false)], [], [(2, (some 8, [])), (3, (some 7, [])), (5, (some 8, []))]⟩), (14, ⟨[(2, false), (3, false), (5, false), (6, false), (7, false), (9, false)], [], [(2, (some 8, [])), (3, (some 7, [])), (5, (some 8, [])), (9, (some 8, []))]⟩), (15, ⟨[(5, false), (6, false), (7, false), (9, false)], [], [(5, (some 8, [])), (9, (none, []))]⟩)], [], [5, 9, 11, 15], [], false, [], []⟩
def w7rs : List ResultVar := [.tmp 4]
def w7G (N : Nat) : Gam EE := ⟨[⟨21, law_shardBegun_h N⟩, ⟨25, ref_CheckItem_h N⟩, ⟨23, ref_CheckShard_h N⟩, ⟨26, ref_SameShard_h N⟩, ⟨24, shard_Push_h N⟩], EQT, []⟩
theorem w7Gok (N : Nat) : GOk Try.prog TT EE (w7G N) := GOk.cons (law_shardBegun_hok N) (GOk.cons (ref_CheckItem_hok N) (GOk.cons (ref_CheckShard_hok N) (GOk.cons (ref_SameShard_hok N) (GOk.cons (shard_Push_hok N) (GOk.nil EQT_ok)))))
def w7kR15 (c : Code) : List It2 := atR 15 c
def w7sR15 (x6 : Int) (x7 : Int) (b5 : VShard) (b9_0 : List VItem) (b9_1 : Int) (b9_2 : Int) (b9_3 : Int) (b9_4 : Int) (b9_5 : Int) (b9_6 : Int) : TS EE.T := ⟨71, [(5, .a (.box 5 0)), (6, .a (.d (.int .i64) x6)), (7, .a (.d (.int .i64) x7)), (9, .a (.box 9 0))], [(5, .cs (unpT EE (.nam 8) b5)), (9, .cs [.own (.nam 7) b9_0, .d (.int .i64) b9_1, .d (.int .i64) b9_2, .d (.int .i64) b9_3, .d (.int .i64) b9_4, .d (.int .i64) b9_5, .d (.int .i64) b9_6])], []⟩
def w7kR11 (c : Code) : List It2 := atR 11 c
def w7sR11 (x6 : Int) (x7 : Int) (b2 : VShard) (b3 : VItem) (b5 : VShard) : TS EE.T := ⟨71, [(2, .a (.box 2 0)), (3, .a (.box 3 0)), (5, .a (.box 5 0)), (6, .a (.d (.int .i64) x6)), (7, .a (.d (.int .i64) x7))], [(2, .cs (unpT EE (.nam 8) b2)), (3, .cs (unpT EE (.nam 7) b3)), (5, .cs (unpT EE (.nam 8) b5))], []⟩
def w7kR9 (c : Code) : List It2 := atR 9 c
def w7sR9 (x6 : Int) (x7 : Int) (x8 : Int) (b2 : VShard) (b3 : VItem) (b5 : VShard) : TS EE.T := ⟨71, [(2, .a (.box 2 0)), (3, .a (.box 3 0)), (5, .a (.box 5 0)), (6, .a (.d (.int .i64) x6)), (7, .a (.d (.int .i64) x7)), (8, .a (.d (.int .i64) x8))], [(2, .cs (unpT EE (.nam 8) b2)), (3, .cs (unpT EE (.nam 7) b3)), (5, .cs (unpT EE (.nam 8) b5))], []⟩
def w7kR5 (c : Code) : List It2 := atR 5 c
def w7sR5 (x6 : Int) (x7 : Int) (b2 : VShard) (b3 : VItem) (b5 : VShard) : TS EE.T := ⟨71, [(2, .a (.box 2 0)), (3, .a (.box 3 0)), (5, .a (.box 5 0)), (6, .a (.d (.int .i64) x6)), (7, .a (.d (.int .i64) x7))], [(2, .cs (unpT EE (.nam 8) b2)), (3, .cs (unpT EE (.nam 7) b3)), (5, .cs (unpT EE (.nam 8) b5))], []⟩
def w7kE0 (c : Code) : List It2 := [.c c]
def w7sE0 (x0 : VShard) (x1 : VItem) : TS EE.T := ⟨71, [(0, .ag (unpT EE (.nam 8) x0)), (1, .ag (unpT EE (.nam 7) x1))], [], []⟩
def w7TR15 (c : Code) (N : Nat) (n : Nat) (x6 : Int) (x7 : Int) (b5 : VShard) (b9_0 : List VItem) (b9_1 : Int) (b9_2 : Int) (b9_3 : Int) (b9_4 : Int) (b9_5 : Int) (b9_6 : Int) : Tree (Lf EE.T × Option Bool) :=
  .bnd (law_shardBegun N) fun z8 =>
  .cond (z8)
  (
    .cond (x6 == x7)
    (
      .bnd (ref_SameShard N b5 ({ Items := b9_0, Batch := b9_1, Room := b9_2, First := b9_3, Most := b9_4, Waits := b9_5, Till := b9_6 } : VShard)) fun z9 =>
      .leaf (.done (w7enc z9), some z9))
    (
      .leaf (.done (w7enc false), some false)))
  (
    .leaf (.done (w7enc false), some false))
theorem w7vR15 (N : Nat) (n : Nat) (x6 : Int) (x7 : Int) (b5 : VShard) (b9_0 : List VItem) (b9_1 : Int) (b9_2 : Int) (b9_3 : Int) (b9_4 : Int) (b9_5 : Int) (b9_6 : Int) : evM TT EE (w7G N) w7lv w7rs 4000 true (w7kR15 (bodyOf 0 Try.f7)) (w7sR15 x6 x7 b5 b9_0 b9_1 b9_2 b9_3 b9_4 b9_5 b9_6) = (w7TR15 (bodyOf 0 Try.f7) N n x6 x7 b5 b9_0 b9_1 b9_2 b9_3 b9_4 b9_5 b9_6).map1 := by kernel_rfl
theorem w7nR15 (N : Nat) (n : Nat) (x6 : Int) (x7 : Int) (b5 : VShard) (b9_0 : List VItem) (b9_1 : Int) (b9_2 : Int) (b9_3 : Int) (b9_4 : Int) (b9_5 : Int) (b9_6 : Int) : law_ShardPushes_R15 N n x6 x7 b5 b9_0 b9_1 b9_2 b9_3 b9_4 b9_5 b9_6 = (w7TR15 (bodyOf 0 Try.f7) N n x6 x7 b5 b9_0 b9_1 b9_2 b9_3 b9_4 b9_5 b9_6).run := by kernel_rfl
theorem w7oR15 {N : Nat} {r : Bool} (n : Nat) (x6 : Int) (x7 : Int) (b5 : VShard) (b9_0 : List VItem) (b9_1 : Int) (b9_2 : Int) (b9_3 : Int) (b9_4 : Int) (b9_5 : Int) (b9_6 : Int) (h : law_ShardPushes_R15 N n x6 x7 b5 b9_0 b9_1 b9_2 b9_3 b9_4 b9_5 b9_6 = some r) : Ends (Y := TT) EE (w7G N) w7lv w7rs (fun u => u = w7enc r) (w7kR15 (bodyOf 0 Try.f7)) (w7sR15 x6 x7 b5 b9_0 b9_1 b9_2 b9_3 b9_4 b9_5 b9_6) :=
  tree_use (w7vR15 N n x6 x7 b5 b9_0 b9_1 b9_2 b9_3 b9_4 b9_5 b9_6) (w7nR15 N n x6 x7 b5 b9_0 b9_1 b9_2 b9_3 b9_4 b9_5 b9_6) h (show (w7TR15 (bodyOf 0 Try.f7) N n x6 x7 b5 b9_0 b9_1 b9_2 b9_3 b9_4 b9_5 b9_6).all _ from fun _ => ⟨⟨fun _ => retp (enc := w7enc) rfl, retp (enc := w7enc) rfl⟩, retp (enc := w7enc) rfl⟩)
def w7TR11 (c : Code) (N : Nat) (n : Nat) (x6 : Int) (x7 : Int) (b2 : VShard) (b3 : VItem) (b5 : VShard) : Tree (Lf EE.T × Option Bool) :=
  .cond (x7 == 0)
  (
    .nl (b2.Items)
    (
      .bnd (appCl 48 ([] : List VItem) ([b3] : List VItem)) fun z6 =>
      .leaf (.go (w7kR15 c) (w7sR15 x6 x7 b5 z6 b2.Batch b2.Room b2.First b2.Most b2.Waits b2.Till), law_ShardPushes_R15 N n x6 x7 b5 z6 b2.Batch b2.Room b2.First b2.Most b2.Waits b2.Till))
    (
      .bnd (appC 48 ([] : List VItem) b2.Items) fun z5 =>
      .bnd (appC 48 z5 ([b3] : List VItem)) fun z7 =>
      .leaf (.go (w7kR15 c) (w7sR15 x6 x7 b5 z7 b2.Batch b2.Room b2.First b2.Most b2.Waits b2.Till), law_ShardPushes_R15 N n x6 x7 b5 z7 b2.Batch b2.Room b2.First b2.Most b2.Waits b2.Till)))
  (
    .leaf (.go (w7kR15 c) (w7sR15 x6 x7 b5 ([] : List VItem) 0 0 0 0 0 0), law_ShardPushes_R15 N n x6 x7 b5 ([] : List VItem) 0 0 0 0 0 0))
theorem w7vR11 (N : Nat) (n : Nat) (x6 : Int) (x7 : Int) (b2 : VShard) (b3 : VItem) (b5 : VShard) : evM TT EE (w7G N) w7lv w7rs 4000 true (w7kR11 (bodyOf 0 Try.f7)) (w7sR11 x6 x7 b2 b3 b5) = (w7TR11 (bodyOf 0 Try.f7) N n x6 x7 b2 b3 b5).map1 := by kernel_rfl
theorem w7nR11 (N : Nat) (n : Nat) (x6 : Int) (x7 : Int) (b2 : VShard) (b3 : VItem) (b5 : VShard) : law_ShardPushes_R11 N n x6 x7 b2 b3 b5 = (w7TR11 (bodyOf 0 Try.f7) N n x6 x7 b2 b3 b5).run := by kernel_rfl
theorem w7oR11 {N : Nat} {r : Bool} (n : Nat) (x6 : Int) (x7 : Int) (b2 : VShard) (b3 : VItem) (b5 : VShard) (h : law_ShardPushes_R11 N n x6 x7 b2 b3 b5 = some r) : Ends (Y := TT) EE (w7G N) w7lv w7rs (fun u => u = w7enc r) (w7kR11 (bodyOf 0 Try.f7)) (w7sR11 x6 x7 b2 b3 b5) :=
  tree_use (w7vR11 N n x6 x7 b2 b3 b5) (w7nR11 N n x6 x7 b2 b3 b5) h (show (w7TR11 (bodyOf 0 Try.f7) N n x6 x7 b2 b3 b5).all _ from ⟨⟨fun e => (by first | (subst e; kernel_rfl) | (rw [e]; kernel_rfl) | (simp only [e]; kernel_rfl)), fun _ => fun h => w7oR15 n _ _ _ _ _ _ _ _ _ _ h, fun _ => fun _ => fun h => w7oR15 n _ _ _ _ _ _ _ _ _ _ h⟩, fun h => w7oR15 n _ _ _ _ _ _ _ _ _ _ h⟩)
def w7TR9 (c : Code) (N : Nat) (n : Nat) (x6 : Int) (x7 : Int) (x8 : Int) (b2 : VShard) (b3 : VItem) (b5 : VShard) : Tree (Lf EE.T × Option Bool) :=
  .cond (x8 == b2.Room)
  (
    .leaf (.go (w7kR11 c) (w7sR11 x6 2 b2 b3 b5), law_ShardPushes_R11 N n x6 2 b2 b3 b5))
  (
    .leaf (.go (w7kR11 c) (w7sR11 x6 x7 b2 b3 b5), law_ShardPushes_R11 N n x6 x7 b2 b3 b5))
theorem w7vR9 (N : Nat) (n : Nat) (x6 : Int) (x7 : Int) (x8 : Int) (b2 : VShard) (b3 : VItem) (b5 : VShard) : evM TT EE (w7G N) w7lv w7rs 4000 true (w7kR9 (bodyOf 0 Try.f7)) (w7sR9 x6 x7 x8 b2 b3 b5) = (w7TR9 (bodyOf 0 Try.f7) N n x6 x7 x8 b2 b3 b5).map1 := by kernel_rfl
theorem w7nR9 (N : Nat) (n : Nat) (x6 : Int) (x7 : Int) (x8 : Int) (b2 : VShard) (b3 : VItem) (b5 : VShard) : law_ShardPushes_R9 N n x6 x7 x8 b2 b3 b5 = (w7TR9 (bodyOf 0 Try.f7) N n x6 x7 x8 b2 b3 b5).run := by kernel_rfl
theorem w7oR9 {N : Nat} {r : Bool} (n : Nat) (x6 : Int) (x7 : Int) (x8 : Int) (b2 : VShard) (b3 : VItem) (b5 : VShard) (h : law_ShardPushes_R9 N n x6 x7 x8 b2 b3 b5 = some r) : Ends (Y := TT) EE (w7G N) w7lv w7rs (fun u => u = w7enc r) (w7kR9 (bodyOf 0 Try.f7)) (w7sR9 x6 x7 x8 b2 b3 b5) :=
  tree_use (w7vR9 N n x6 x7 x8 b2 b3 b5) (w7nR9 N n x6 x7 x8 b2 b3 b5) h (show (w7TR9 (bodyOf 0 Try.f7) N n x6 x7 x8 b2 b3 b5).all _ from ⟨fun h => w7oR11 n _ _ _ _ _ h, fun h => w7oR11 n _ _ _ _ _ h⟩)
def w7TR5 (c : Code) (N : Nat) (n : Nat) (x6 : Int) (x7 : Int) (b2 : VShard) (b3 : VItem) (b5 : VShard) : Tree (Lf EE.T × Option Bool) :=
  .cond (x7 != 0)
  (
    .leaf (.go (w7kR11 c) (w7sR11 x6 x7 b2 b3 b5), law_ShardPushes_R11 N n x6 x7 b2 b3 b5))
  (
    .cond (decide ((b2.Items.length : Int) > 0))
    (
      .bnd (idxC b2.Items (w64 ((b2.Items.length : Int) - 1))) fun z4 =>
      .cond (decide (b3.Number ≤ z4.Number))
      (
        .leaf (.go (w7kR11 c) (w7sR11 x6 4 b2 b3 b5), law_ShardPushes_R11 N n x6 4 b2 b3 b5))
      (
        .leaf (.go (w7kR9 c) (w7sR9 x6 x7 (b2.Items.length : Int) b2 b3 b5), law_ShardPushes_R9 N n x6 x7 (b2.Items.length : Int) b2 b3 b5)))
    (
      .leaf (.go (w7kR9 c) (w7sR9 x6 x7 (b2.Items.length : Int) b2 b3 b5), law_ShardPushes_R9 N n x6 x7 (b2.Items.length : Int) b2 b3 b5)))
theorem w7vR5 (N : Nat) (n : Nat) (x6 : Int) (x7 : Int) (b2 : VShard) (b3 : VItem) (b5 : VShard) : evM TT EE (w7G N) w7lv w7rs 4000 true (w7kR5 (bodyOf 0 Try.f7)) (w7sR5 x6 x7 b2 b3 b5) = (w7TR5 (bodyOf 0 Try.f7) N n x6 x7 b2 b3 b5).map1 := by kernel_rfl
theorem w7nR5 (N : Nat) (n : Nat) (x6 : Int) (x7 : Int) (b2 : VShard) (b3 : VItem) (b5 : VShard) : law_ShardPushes_R5 N n x6 x7 b2 b3 b5 = (w7TR5 (bodyOf 0 Try.f7) N n x6 x7 b2 b3 b5).run := by kernel_rfl
theorem w7oR5 {N : Nat} {r : Bool} (n : Nat) (x6 : Int) (x7 : Int) (b2 : VShard) (b3 : VItem) (b5 : VShard) (h : law_ShardPushes_R5 N n x6 x7 b2 b3 b5 = some r) : Ends (Y := TT) EE (w7G N) w7lv w7rs (fun u => u = w7enc r) (w7kR5 (bodyOf 0 Try.f7)) (w7sR5 x6 x7 b2 b3 b5) :=
  tree_use (w7vR5 N n x6 x7 b2 b3 b5) (w7nR5 N n x6 x7 b2 b3 b5) h (show (w7TR5 (bodyOf 0 Try.f7) N n x6 x7 b2 b3 b5).all _ from ⟨fun h => w7oR11 n _ _ _ _ _ h, ⟨fun _ => ⟨fun h => w7oR11 n _ _ _ _ _ h, fun h => w7oR9 n _ _ _ _ _ _ h⟩, fun h => w7oR9 n _ _ _ _ _ _ h⟩⟩)
def w7TE0 (c : Code) (N : Nat) (x0 : VShard) (x1 : VItem) : Tree (Lf EE.T × Option Bool) :=
  .bnd (shard_Push N x0 x1) fun z1 =>
  .bnd (ref_CheckShard N x0) fun z2 =>
  .cond (z2 == 0)
  (
    .bnd (ref_CheckItem N x1) fun z3 =>
    .leaf (.go (w7kR5 c) (w7sR5 z1.2 z3 x0 x1 z1.1), law_ShardPushes_R5 N N z1.2 z3 x0 x1 z1.1))
  (
    .leaf (.go (w7kR5 c) (w7sR5 z1.2 z2 x0 x1 z1.1), law_ShardPushes_R5 N N z1.2 z2 x0 x1 z1.1))
theorem w7vE0 (N : Nat) (x0 : VShard) (x1 : VItem) : evM TT EE (w7G N) w7lv w7rs 4000 true (w7kE0 (bodyOf 0 Try.f7)) (w7sE0 x0 x1) = (w7TE0 (bodyOf 0 Try.f7) N x0 x1).map1 := by kernel_rfl
theorem w7nE0 (N : Nat) (x0 : VShard) (x1 : VItem) : law_ShardPushes N x0 x1 = (w7TE0 (bodyOf 0 Try.f7) N x0 x1).run := by kernel_rfl
theorem w7oE0 {N : Nat} {r : Bool} (x0 : VShard) (x1 : VItem) (h : law_ShardPushes N x0 x1 = some r) : Ends (Y := TT) EE (w7G N) w7lv w7rs (fun u => u = w7enc r) (w7kE0 (bodyOf 0 Try.f7)) (w7sE0 x0 x1) :=
  tree_use (w7vE0 N x0 x1) (w7nE0 N x0 x1) h (show (w7TE0 (bodyOf 0 Try.f7) N x0 x1).all _ from fun _ => fun _ => ⟨fun _ => fun h => w7oR5 N _ _ _ _ _ h, fun h => w7oR5 N _ _ _ _ _ h⟩)
theorem law_ShardPushes_ok {N : Nat} (x0 : VShard) (x1 : VItem) {r : Bool} (h : law_ShardPushes N x0 x1 = some r) (ρ : Nat → Nat) : ACalls Try.prog 7 (([.ag (unpT EE (.nam 8) x0), .ag (unpT EE (.nam 7) x1)] : List (TV EE.T)).map (TV.to EE.toEnc ρ)) [] (fun out H => out = .ret ((law_ShardPushes_u r).to EE.toEnc ρ) ∧ H = []) :=
  (fn_ok (bodyOf 0 Try.f7) 71 mixed (w7Gok N) Try.func7 (by kernel_rfl) rfl rfl rfl rfl (w7oE0 x0 x1 h) ρ).mono fun out H h => KPost.ret rfl h
def law_ShardPushes_h (N : Nat) : List (TV EE.T) → PV EE.T
  | [u0, u1] => match argS EE 8 u0, argS EE 7 u1 with
    | some x0, some x1 => .opt (law_ShardPushes N x0 x1) law_ShardPushes_u
    | _, _ => .bad
  | _ => .bad
theorem law_ShardPushes_hok (N : Nat) (us : List (TV EE.T)) : (law_ShardPushes_h N us).ok fun u => ∀ ρ, ACalls Try.prog 7 (us.map (TV.to EE.toEnc ρ)) [] (fun out H => out = .ret (u.to EE.toEnc ρ) ∧ H = []) := by
  unfold law_ShardPushes_h
  split
  · split
    · rename_i h0 h1
      intro z hz ρ; refine acalls_le ?_ (law_ShardPushes_ok _ _ hz ρ); exact ⟨argS_le h0 ρ, argS_le h1 ρ, trivial⟩
    · trivial
  · trivial
/-! ### gleaner/gleanerref.CheckNext -/
def ref_CheckNext_u (r : Int) : TV EE.T := .a (.d (.int .i64) r)
def w28enc (r : Int) : RL EE.T := .ret (ref_CheckNext_u r) []
def w28lv : Lvs := ⟨[(4, ⟨[(1, false), (2, false), (5, false)], [], [(2, (some 8, []))]⟩)], [], [4], [], false, [], []⟩
def w28rs : List ResultVar := [.tmp 4]
def w28G (N : Nat) : Gam EE := ⟨[⟨23, ref_CheckShard_h N⟩, ⟨46, ref_IsTime_h N⟩], EQT, []⟩
theorem w28Gok (N : Nat) : GOk Try.prog TT EE (w28G N) := GOk.cons (ref_CheckShard_hok N) (GOk.cons (ref_IsTime_hok N) (GOk.nil EQT_ok))
def w28kR4 (c : Code) : List It2 := atR 4 c
def w28sR4 (x1 : Int) (x5 : Int) (b2 : VShard) : TS EE.T := ⟨24, [(1, .a (.d (.int .i64) x1)), (2, .a (.box 2 0)), (5, .a (.d (.int .i64) x5))], [(2, .cs (unpT EE (.nam 8) b2))], []⟩
def w28kE0 (c : Code) : List It2 := [.c c]
def w28sE0 (x0 : VShard) (x1 : Int) : TS EE.T := ⟨24, [(0, .ag (unpT EE (.nam 8) x0)), (1, .a (.d (.int .i64) x1))], [], []⟩
def w28TR4 (c : Code) (N : Nat) (n : Nat) (x1 : Int) (x5 : Int) (b2 : VShard) : Tree (Lf EE.T × Option Int) :=
  .cond (x5 == 0)
  (
    .cond (decide (b2.Till > x1))
    (
      .leaf (.done (w28enc 4), some 4))
    (
      .leaf (.done (w28enc x5), some x5)))
  (
    .leaf (.done (w28enc x5), some x5))
theorem w28vR4 (N : Nat) (n : Nat) (x1 : Int) (x5 : Int) (b2 : VShard) : evM TT EE (w28G N) w28lv w28rs 4000 true (w28kR4 (bodyOf 0 Try.f28)) (w28sR4 x1 x5 b2) = (w28TR4 (bodyOf 0 Try.f28) N n x1 x5 b2).map1 := by kernel_rfl
theorem w28nR4 (N : Nat) (n : Nat) (x1 : Int) (x5 : Int) (b2 : VShard) : ref_CheckNext_R4 N n x1 x5 b2 = (w28TR4 (bodyOf 0 Try.f28) N n x1 x5 b2).run := by kernel_rfl
theorem w28oR4 {N : Nat} {r : Int} (n : Nat) (x1 : Int) (x5 : Int) (b2 : VShard) (h : ref_CheckNext_R4 N n x1 x5 b2 = some r) : Ends (Y := TT) EE (w28G N) w28lv w28rs (fun u => u = w28enc r) (w28kR4 (bodyOf 0 Try.f28)) (w28sR4 x1 x5 b2) :=
  tree_use (w28vR4 N n x1 x5 b2) (w28nR4 N n x1 x5 b2) h (show (w28TR4 (bodyOf 0 Try.f28) N n x1 x5 b2).all _ from ⟨⟨retp (enc := w28enc) rfl, retp (enc := w28enc) rfl⟩, retp (enc := w28enc) rfl⟩)
def w28TE0 (c : Code) (N : Nat) (x0 : VShard) (x1 : Int) : Tree (Lf EE.T × Option Int) :=
  .bnd (ref_CheckShard N x0) fun z1 =>
  .cond (z1 == 0)
  (
    .bnd (ref_IsTime N x1) fun z2 =>
    .cond (!z2)
    (
      .leaf (.go (w28kR4 c) (w28sR4 x1 3 x0), ref_CheckNext_R4 N N x1 3 x0))
    (
      .leaf (.go (w28kR4 c) (w28sR4 x1 z1 x0), ref_CheckNext_R4 N N x1 z1 x0)))
  (
    .leaf (.go (w28kR4 c) (w28sR4 x1 z1 x0), ref_CheckNext_R4 N N x1 z1 x0))
theorem w28vE0 (N : Nat) (x0 : VShard) (x1 : Int) : evM TT EE (w28G N) w28lv w28rs 4000 true (w28kE0 (bodyOf 0 Try.f28)) (w28sE0 x0 x1) = (w28TE0 (bodyOf 0 Try.f28) N x0 x1).map1 := by kernel_rfl
theorem w28nE0 (N : Nat) (x0 : VShard) (x1 : Int) : ref_CheckNext N x0 x1 = (w28TE0 (bodyOf 0 Try.f28) N x0 x1).run := by kernel_rfl
theorem w28oE0 {N : Nat} {r : Int} (x0 : VShard) (x1 : Int) (h : ref_CheckNext N x0 x1 = some r) : Ends (Y := TT) EE (w28G N) w28lv w28rs (fun u => u = w28enc r) (w28kE0 (bodyOf 0 Try.f28)) (w28sE0 x0 x1) :=
  tree_use (w28vE0 N x0 x1) (w28nE0 N x0 x1) h (show (w28TE0 (bodyOf 0 Try.f28) N x0 x1).all _ from fun _ => ⟨fun _ => ⟨fun h => w28oR4 N _ _ _ h, fun h => w28oR4 N _ _ _ h⟩, fun h => w28oR4 N _ _ _ h⟩)
theorem ref_CheckNext_ok {N : Nat} (x0 : VShard) (x1 : Int) {r : Int} (h : ref_CheckNext N x0 x1 = some r) (ρ : Nat → Nat) : ACalls Try.prog 28 (([.ag (unpT EE (.nam 8) x0), .a (.d (.int .i64) x1)] : List (TV EE.T)).map (TV.to EE.toEnc ρ)) [] (fun out H => out = .ret ((ref_CheckNext_u r).to EE.toEnc ρ) ∧ H = []) :=
  (fn_ok (bodyOf 0 Try.f28) 24 mixed (w28Gok N) Try.func28 (by kernel_rfl) rfl rfl rfl rfl (w28oE0 x0 x1 h) ρ).mono fun out H h => KPost.ret rfl h
def ref_CheckNext_h (N : Nat) : List (TV EE.T) → PV EE.T
  | [u0, u1] => match argS EE 8 u0, argD (.int .i64) u1 with
    | some x0, some x1 => .opt (ref_CheckNext N x0 x1) ref_CheckNext_u
    | _, _ => .bad
  | _ => .bad
theorem ref_CheckNext_hok (N : Nat) (us : List (TV EE.T)) : (ref_CheckNext_h N us).ok fun u => ∀ ρ, ACalls Try.prog 28 (us.map (TV.to EE.toEnc ρ)) [] (fun out H => out = .ret (u.to EE.toEnc ρ) ∧ H = []) := by
  unfold ref_CheckNext_h
  split
  · split
    · rename_i h0 h1
      intro z hz ρ; refine acalls_le ?_ (ref_CheckNext_ok _ _ hz ρ); exact ⟨argS_le h0 ρ, argD_le h1 ρ, trivial⟩
    · trivial
  · trivial
/-! ### gleaner/gleanerref.SeriesOf -/
def ref_SeriesOf_u (r : List VSeries) : TV EE.T := .a (.d (.sl (.nam 9)) r)
def w33enc (r : List VSeries) : RL EE.T := .ret (ref_SeriesOf_u r) []
def w33lv : Lvs := ⟨[(5, ⟨[(0, false), (3, false), (4, false)], [], []⟩)], [(3, ⟨[(0, false), (3, false), (4, false)], [], []⟩)], [], [], false, [], []⟩
def w33rs : List ResultVar := [.tmp 2]
def w33G (N : Nat) : Gam EE := ⟨[], EQT, []⟩
theorem w33Gok (N : Nat) : GOk Try.prog TT EE (w33G N) := GOk.nil EQT_ok
def w33kL3 (c : Code) : List It2 := atL 3 c
def w33sL3 (x0 : List VItem) (x3 : List VSeries) (x4 : Int) : TS EE.T := ⟨27, [(0, .a (.d (.sl (.nam 7)) x0)), (3, .a (.own (.nam 9) x3)), (4, .a (.d (.int .i64) x4))], [], []⟩
def w33kE0 (c : Code) : List It2 := [.c c]
def w33sE0 (x0 : List VItem) : TS EE.T := ⟨27, [(0, .a (.d (.sl (.nam 7)) x0))], [], []⟩
def w33TL3 (c : Code) (N : Nat) (n : Nat) (x0 : List VItem) (x3 : List VSeries) (x4 : Int) : Tree (Lf EE.T × Option (List VSeries)) :=
  .cond (decide (x4 < (x0.length : Int)))
  (
    .bnd (idxC x0 x4) fun z1 =>
    .bnd (idxC x0 x4) fun z2 =>
    .bnd (appC 48 x3 ([({ Labels := z1.Labels, Samples := ([z2.Sample] : List VSample) } : VSeries)] : List VSeries)) fun z3 =>
    .leaf (.go (w33kL3 c) (w33sL3 x0 z3 (w64 (x4 + 1))), ref_SeriesOf_L3 N n x0 z3 (w64 (x4 + 1))))
  (
    .leaf (.done (w33enc x3), some x3))
theorem w33vL3 (N : Nat) (n : Nat) (x0 : List VItem) (x3 : List VSeries) (x4 : Int) : evM TT EE (w33G N) w33lv w33rs 4000 true (w33kL3 (bodyOf 0 Try.f33)) (w33sL3 x0 x3 x4) = (w33TL3 (bodyOf 0 Try.f33) N n x0 x3 x4).map1 := by kernel_rfl
theorem w33nL3 (N : Nat) (n : Nat) (x0 : List VItem) (x3 : List VSeries) (x4 : Int) : ref_SeriesOf_L3 N (n + 1) x0 x3 x4 = (w33TL3 (bodyOf 0 Try.f33) N n x0 x3 x4).run := by kernel_rfl
theorem w33oL3 {N : Nat} {r : List VSeries} : ∀ (n : Nat) (x0 : List VItem) (x3 : List VSeries) (x4 : Int), ref_SeriesOf_L3 N n x0 x3 x4 = some r → Ends (Y := TT) EE (w33G N) w33lv w33rs (fun u => u = w33enc r) (w33kL3 (bodyOf 0 Try.f33)) (w33sL3 x0 x3 x4)
  | 0, _, _, _, h => by cases h
  | n + 1, x0, x3, x4, h => tree_use (w33vL3 N n x0 x3 x4) (w33nL3 N n x0 x3 x4) h (show (w33TL3 (bodyOf 0 Try.f33) N n x0 x3 x4).all _ from ⟨fun _ => fun _ => fun _ => fun h => (w33oL3 n) _ _ _ h, retp (enc := w33enc) rfl⟩)
def w33TE0 (c : Code) (N : Nat) (x0 : List VItem) : Tree (Lf EE.T × Option (List VSeries)) :=
  .leaf (.go (w33kL3 c) (w33sL3 x0 ([] : List VSeries) 0), ref_SeriesOf_L3 N N x0 ([] : List VSeries) 0)
theorem w33vE0 (N : Nat) (x0 : List VItem) : evM TT EE (w33G N) w33lv w33rs 4000 true (w33kE0 (bodyOf 0 Try.f33)) (w33sE0 x0) = (w33TE0 (bodyOf 0 Try.f33) N x0).map1 := by kernel_rfl
theorem w33nE0 (N : Nat) (x0 : List VItem) : ref_SeriesOf N x0 = (w33TE0 (bodyOf 0 Try.f33) N x0).run := by kernel_rfl
theorem w33oE0 {N : Nat} {r : List VSeries} (x0 : List VItem) (h : ref_SeriesOf N x0 = some r) : Ends (Y := TT) EE (w33G N) w33lv w33rs (fun u => u = w33enc r) (w33kE0 (bodyOf 0 Try.f33)) (w33sE0 x0) :=
  tree_use (w33vE0 N x0) (w33nE0 N x0) h (show (w33TE0 (bodyOf 0 Try.f33) N x0).all _ from fun h => w33oL3 N _ _ _ h)
theorem ref_SeriesOf_ok {N : Nat} (x0 : List VItem) {r : List VSeries} (h : ref_SeriesOf N x0 = some r) (ρ : Nat → Nat) : ACalls Try.prog 33 (([.a (.d (.sl (.nam 7)) x0)] : List (TV EE.T)).map (TV.to EE.toEnc ρ)) [] (fun out H => out = .ret ((ref_SeriesOf_u r).to EE.toEnc ρ) ∧ H = []) :=
  (fn_ok (bodyOf 0 Try.f33) 27 mixed (w33Gok N) Try.func33 (by kernel_rfl) rfl rfl rfl rfl (w33oE0 x0 h) ρ).mono fun out H h => KPost.ret rfl h
def ref_SeriesOf_h (N : Nat) : List (TV EE.T) → PV EE.T
  | [u0] => match argD (.sl (.nam 7)) u0 with
    | some x0 => .opt (ref_SeriesOf N x0) ref_SeriesOf_u
    | _ => .bad
  | _ => .bad
theorem ref_SeriesOf_hok (N : Nat) (us : List (TV EE.T)) : (ref_SeriesOf_h N us).ok fun u => ∀ ρ, ACalls Try.prog 33 (us.map (TV.to EE.toEnc ρ)) [] (fun out H => out = .ret (u.to EE.toEnc ρ) ∧ H = []) := by
  unfold ref_SeriesOf_h
  split
  · split
    · rename_i h0
      intro z hz ρ; refine acalls_le ?_ (ref_SeriesOf_ok _ hz ρ); exact ⟨argD_le h0 ρ, trivial⟩
    · trivial
  · trivial
/-! ### gleaner/gleanerref.TooMany -/
def ref_TooMany_u (r : Bool) : TV EE.T := .a (.d .bool r)
def w88enc (r : Bool) : RL EE.T := .ret (ref_TooMany_u r) []
def w88lv : Lvs := ⟨[], [(2, ⟨[(0, false), (3, false)], [], []⟩), (7, ⟨[(0, false), (3, false), (4, false)], [], []⟩)], [], [], false, [], []⟩
def w88rs : List ResultVar := [.tmp 2]
def w88G (N : Nat) : Gam EE := ⟨[], EQT, []⟩
theorem w88Gok (N : Nat) : GOk Try.prog TT EE (w88G N) := GOk.nil EQT_ok
def w88kL7 (c : Code) : List It2 := atL 7 c
def w88sL7 (x0 : List VSeries) (x3 : Int) (x4 : Int) : TS EE.T := ⟨64, [(0, .a (.d (.sl (.nam 9)) x0)), (3, .a (.d (.int .i64) x3)), (4, .a (.d (.int .i64) x4))], [], []⟩
def w88kL2 (c : Code) : List It2 := atL 2 c
def w88sL2 (x0 : List VSeries) (x3 : Int) : TS EE.T := ⟨64, [(0, .a (.d (.sl (.nam 9)) x0)), (3, .a (.d (.int .i64) x3))], [], []⟩
def w88kE0 (c : Code) : List It2 := [.c c]
def w88sE0 (x0 : List VSeries) : TS EE.T := ⟨64, [(0, .a (.d (.sl (.nam 9)) x0))], [], []⟩
def w88TL7 (c : Code) (N : Nat) (k2 : (List VSeries) → Int → Option Bool) (n : Nat) (x0 : List VSeries) (x3 : Int) (x4 : Int) : Tree (Lf EE.T × Option Bool) :=
  .bnd (idxC x0 x3) fun z3 =>
  .cond (decide (x4 < (z3.Labels.length : Int)))
  (
    .bnd (idxC x0 x3) fun z4 =>
    .bnd (idxC z4.Labels x4) fun z5 =>
    .cond (decide ((z5.Name.length : Int) > 20000))
    (
      .leaf (.done (w88enc true), some true))
    (
      .bnd (idxC x0 x3) fun z6 =>
      .bnd (idxC z6.Labels x4) fun z7 =>
      .cond (decide ((z7.Value.length : Int) > 20000))
      (
        .leaf (.done (w88enc true), some true))
      (
        .leaf (.go (w88kL7 c) (w88sL7 x0 x3 (w64 (x4 + 1))), ref_TooMany_L7 N k2 n x0 x3 (w64 (x4 + 1))))))
  (
    .leaf (.go (w88kL2 c) (w88sL2 x0 (w64 (x3 + 1))), k2 x0 (w64 (x3 + 1))))
theorem w88vL7 (N : Nat) (k2 : (List VSeries) → Int → Option Bool) (n : Nat) (x0 : List VSeries) (x3 : Int) (x4 : Int) : evM TT EE (w88G N) w88lv w88rs 4000 true (w88kL7 (bodyOf 0 Try.f88)) (w88sL7 x0 x3 x4) = (w88TL7 (bodyOf 0 Try.f88) N k2 n x0 x3 x4).map1 := by kernel_rfl
theorem w88nL7 (N : Nat) (k2 : (List VSeries) → Int → Option Bool) (n : Nat) (x0 : List VSeries) (x3 : Int) (x4 : Int) : ref_TooMany_L7 N k2 (n + 1) x0 x3 x4 = (w88TL7 (bodyOf 0 Try.f88) N k2 n x0 x3 x4).run := by kernel_rfl
theorem w88oL7 {N : Nat} {r : Bool} {k2 : (List VSeries) → Int → Option Bool} (hk2 : ∀ x0 x3, k2 x0 x3 = some r → Ends (Y := TT) EE (w88G N) w88lv w88rs (fun u => u = w88enc r) (w88kL2 (bodyOf 0 Try.f88)) (w88sL2 x0 x3)) : ∀ (n : Nat) (x0 : List VSeries) (x3 : Int) (x4 : Int), ref_TooMany_L7 N k2 n x0 x3 x4 = some r → Ends (Y := TT) EE (w88G N) w88lv w88rs (fun u => u = w88enc r) (w88kL7 (bodyOf 0 Try.f88)) (w88sL7 x0 x3 x4)
  | 0, _, _, _, h => by cases h
  | n + 1, x0, x3, x4, h => tree_use (w88vL7 N k2 n x0 x3 x4) (w88nL7 N k2 n x0 x3 x4) h (show (w88TL7 (bodyOf 0 Try.f88) N k2 n x0 x3 x4).all _ from fun _ => ⟨fun _ => fun _ => ⟨retp (enc := w88enc) rfl, fun _ => fun _ => ⟨retp (enc := w88enc) rfl, fun h => (w88oL7 hk2 n) _ _ _ h⟩⟩, fun h => hk2 _ _ h⟩)
def w88TL2 (c : Code) (N : Nat) (n : Nat) (x0 : List VSeries) (x3 : Int) : Tree (Lf EE.T × Option Bool) :=
  .cond (decide (x3 < (x0.length : Int)))
  (
    .bnd (idxC x0 x3) fun z1 =>
    .cond (decide ((z1.Labels.length : Int) > 20))
    (
      .leaf (.done (w88enc true), some true))
    (
      .bnd (idxC x0 x3) fun z2 =>
      .cond (decide ((z2.Samples.length : Int) > 200))
      (
        .leaf (.done (w88enc true), some true))
      (
        .leaf (.go (w88kL7 c) (w88sL7 x0 x3 0), ref_TooMany_L7 N (ref_TooMany_L2 N n) n x0 x3 0))))
  (
    .leaf (.done (w88enc (decide ((x0.length : Int) > 200))), some (decide ((x0.length : Int) > 200))))
theorem w88vL2 (N : Nat) (n : Nat) (x0 : List VSeries) (x3 : Int) : evM TT EE (w88G N) w88lv w88rs 4000 true (w88kL2 (bodyOf 0 Try.f88)) (w88sL2 x0 x3) = (w88TL2 (bodyOf 0 Try.f88) N n x0 x3).map1 := by kernel_rfl
theorem w88nL2 (N : Nat) (n : Nat) (x0 : List VSeries) (x3 : Int) : ref_TooMany_L2 N (n + 1) x0 x3 = (w88TL2 (bodyOf 0 Try.f88) N n x0 x3).run := by kernel_rfl
theorem w88oL2 {N : Nat} {r : Bool} : ∀ (n : Nat) (x0 : List VSeries) (x3 : Int), ref_TooMany_L2 N n x0 x3 = some r → Ends (Y := TT) EE (w88G N) w88lv w88rs (fun u => u = w88enc r) (w88kL2 (bodyOf 0 Try.f88)) (w88sL2 x0 x3)
  | 0, _, _, h => by cases h
  | n + 1, x0, x3, h => tree_use (w88vL2 N n x0 x3) (w88nL2 N n x0 x3) h (show (w88TL2 (bodyOf 0 Try.f88) N n x0 x3).all _ from ⟨fun _ => ⟨retp (enc := w88enc) rfl, fun _ => ⟨retp (enc := w88enc) rfl, fun h => w88oL7 (w88oL2 n) n _ _ _ h⟩⟩, retp (enc := w88enc) rfl⟩)
def w88TE0 (c : Code) (N : Nat) (x0 : List VSeries) : Tree (Lf EE.T × Option Bool) :=
  .leaf (.go (w88kL2 c) (w88sL2 x0 0), ref_TooMany_L2 N N x0 0)
theorem w88vE0 (N : Nat) (x0 : List VSeries) : evM TT EE (w88G N) w88lv w88rs 4000 true (w88kE0 (bodyOf 0 Try.f88)) (w88sE0 x0) = (w88TE0 (bodyOf 0 Try.f88) N x0).map1 := by kernel_rfl
theorem w88nE0 (N : Nat) (x0 : List VSeries) : ref_TooMany N x0 = (w88TE0 (bodyOf 0 Try.f88) N x0).run := by kernel_rfl
theorem w88oE0 {N : Nat} {r : Bool} (x0 : List VSeries) (h : ref_TooMany N x0 = some r) : Ends (Y := TT) EE (w88G N) w88lv w88rs (fun u => u = w88enc r) (w88kE0 (bodyOf 0 Try.f88)) (w88sE0 x0) :=
  tree_use (w88vE0 N x0) (w88nE0 N x0) h (show (w88TE0 (bodyOf 0 Try.f88) N x0).all _ from fun h => w88oL2 N _ _ h)
theorem ref_TooMany_ok {N : Nat} (x0 : List VSeries) {r : Bool} (h : ref_TooMany N x0 = some r) (ρ : Nat → Nat) : ACalls Try.prog 88 (([.a (.d (.sl (.nam 9)) x0)] : List (TV EE.T)).map (TV.to EE.toEnc ρ)) [] (fun out H => out = .ret ((ref_TooMany_u r).to EE.toEnc ρ) ∧ H = []) :=
  (fn_ok (bodyOf 0 Try.f88) 64 mixed (w88Gok N) Try.func88 (by kernel_rfl) rfl rfl rfl rfl (w88oE0 x0 h) ρ).mono fun out H h => KPost.ret rfl h
def ref_TooMany_h (N : Nat) : List (TV EE.T) → PV EE.T
  | [u0] => match argD (.sl (.nam 9)) u0 with
    | some x0 => .opt (ref_TooMany N x0) ref_TooMany_u
    | _ => .bad
  | _ => .bad
theorem ref_TooMany_hok (N : Nat) (us : List (TV EE.T)) : (ref_TooMany_h N us).ok fun u => ∀ ρ, ACalls Try.prog 88 (us.map (TV.to EE.toEnc ρ)) [] (fun out H => out = .ret (u.to EE.toEnc ρ) ∧ H = []) := by
  unfold ref_TooMany_h
  split
  · split
    · rename_i h0
      intro z hz ρ; refine acalls_le ?_ (ref_TooMany_ok _ hz ρ); exact ⟨argD_le h0 ρ, trivial⟩
    · trivial
  · trivial
/-! ### gleaner/gleanerref.CheckSeries -/
def ref_CheckSeries_u (r : Int) : TV EE.T := .a (.d (.int .i64) r)
def w64enc (r : Int) : RL EE.T := .ret (ref_CheckSeries_u r) []
def w64lv : Lvs := ⟨[], [(4, ⟨[(0, false), (3, false)], [], []⟩), (7, ⟨[(0, false), (3, false), (4, false)], [], []⟩)], [], [], false, [], []⟩
def w64rs : List ResultVar := [.tmp 2]
def w64G (N : Nat) : Gam EE := ⟨[⟨46, ref_IsTime_h N⟩, ⟨88, ref_TooMany_h N⟩], EQT, []⟩
theorem w64Gok (N : Nat) : GOk Try.prog TT EE (w64G N) := GOk.cons (ref_IsTime_hok N) (GOk.cons (ref_TooMany_hok N) (GOk.nil EQT_ok))
def w64kL7 (c : Code) : List It2 := atL 7 c
def w64sL7 (x0 : List VSeries) (x3 : Int) (x4 : Int) : TS EE.T := ⟨34, [(0, .a (.d (.sl (.nam 9)) x0)), (3, .a (.d (.int .i64) x3)), (4, .a (.d (.int .i64) x4))], [], []⟩
def w64kL4 (c : Code) : List It2 := atL 4 c
def w64sL4 (x0 : List VSeries) (x3 : Int) : TS EE.T := ⟨34, [(0, .a (.d (.sl (.nam 9)) x0)), (3, .a (.d (.int .i64) x3))], [], []⟩
def w64kE0 (c : Code) : List It2 := [.c c]
def w64sE0 (x0 : List VSeries) : TS EE.T := ⟨34, [(0, .a (.d (.sl (.nam 9)) x0))], [], []⟩
def w64TL7 (c : Code) (N : Nat) (k4 : (List VSeries) → Int → Option Int) (n : Nat) (x0 : List VSeries) (x3 : Int) (x4 : Int) : Tree (Lf EE.T × Option Int) :=
  .bnd (idxC x0 x3) fun z2 =>
  .cond (decide (x4 < (z2.Samples.length : Int)))
  (
    .bnd (idxC x0 x3) fun z3 =>
    .bnd (idxC z3.Samples x4) fun z4 =>
    .bnd (ref_IsTime N z4.Time) fun z5 =>
    .cond (!z5)
    (
      .leaf (.done (w64enc 3), some 3))
    (
      .leaf (.go (w64kL7 c) (w64sL7 x0 x3 (w64 (x4 + 1))), ref_CheckSeries_L7 N k4 n x0 x3 (w64 (x4 + 1)))))
  (
    .leaf (.go (w64kL4 c) (w64sL4 x0 (w64 (x3 + 1))), k4 x0 (w64 (x3 + 1))))
theorem w64vL7 (N : Nat) (k4 : (List VSeries) → Int → Option Int) (n : Nat) (x0 : List VSeries) (x3 : Int) (x4 : Int) : evM TT EE (w64G N) w64lv w64rs 4000 true (w64kL7 (bodyOf 0 Try.f64)) (w64sL7 x0 x3 x4) = (w64TL7 (bodyOf 0 Try.f64) N k4 n x0 x3 x4).map1 := by kernel_rfl
theorem w64nL7 (N : Nat) (k4 : (List VSeries) → Int → Option Int) (n : Nat) (x0 : List VSeries) (x3 : Int) (x4 : Int) : ref_CheckSeries_L7 N k4 (n + 1) x0 x3 x4 = (w64TL7 (bodyOf 0 Try.f64) N k4 n x0 x3 x4).run := by kernel_rfl
theorem w64oL7 {N : Nat} {r : Int} {k4 : (List VSeries) → Int → Option Int} (hk4 : ∀ x0 x3, k4 x0 x3 = some r → Ends (Y := TT) EE (w64G N) w64lv w64rs (fun u => u = w64enc r) (w64kL4 (bodyOf 0 Try.f64)) (w64sL4 x0 x3)) : ∀ (n : Nat) (x0 : List VSeries) (x3 : Int) (x4 : Int), ref_CheckSeries_L7 N k4 n x0 x3 x4 = some r → Ends (Y := TT) EE (w64G N) w64lv w64rs (fun u => u = w64enc r) (w64kL7 (bodyOf 0 Try.f64)) (w64sL7 x0 x3 x4)
  | 0, _, _, _, h => by cases h
  | n + 1, x0, x3, x4, h => tree_use (w64vL7 N k4 n x0 x3 x4) (w64nL7 N k4 n x0 x3 x4) h (show (w64TL7 (bodyOf 0 Try.f64) N k4 n x0 x3 x4).all _ from fun _ => ⟨fun _ => fun _ => fun _ => ⟨retp (enc := w64enc) rfl, fun h => (w64oL7 hk4 n) _ _ _ h⟩, fun h => hk4 _ _ h⟩)
def w64TL4 (c : Code) (N : Nat) (n : Nat) (x0 : List VSeries) (x3 : Int) : Tree (Lf EE.T × Option Int) :=
  .cond (decide (x3 < (x0.length : Int)))
  (
    .leaf (.go (w64kL7 c) (w64sL7 x0 x3 0), ref_CheckSeries_L7 N (ref_CheckSeries_L4 N n) n x0 x3 0))
  (
    .leaf (.done (w64enc 0), some 0))
theorem w64vL4 (N : Nat) (n : Nat) (x0 : List VSeries) (x3 : Int) : evM TT EE (w64G N) w64lv w64rs 4000 true (w64kL4 (bodyOf 0 Try.f64)) (w64sL4 x0 x3) = (w64TL4 (bodyOf 0 Try.f64) N n x0 x3).map1 := by kernel_rfl
theorem w64nL4 (N : Nat) (n : Nat) (x0 : List VSeries) (x3 : Int) : ref_CheckSeries_L4 N (n + 1) x0 x3 = (w64TL4 (bodyOf 0 Try.f64) N n x0 x3).run := by kernel_rfl
theorem w64oL4 {N : Nat} {r : Int} : ∀ (n : Nat) (x0 : List VSeries) (x3 : Int), ref_CheckSeries_L4 N n x0 x3 = some r → Ends (Y := TT) EE (w64G N) w64lv w64rs (fun u => u = w64enc r) (w64kL4 (bodyOf 0 Try.f64)) (w64sL4 x0 x3)
  | 0, _, _, h => by cases h
  | n + 1, x0, x3, h => tree_use (w64vL4 N n x0 x3) (w64nL4 N n x0 x3) h (show (w64TL4 (bodyOf 0 Try.f64) N n x0 x3).all _ from ⟨fun h => w64oL7 (w64oL4 n) n _ _ _ h, retp (enc := w64enc) rfl⟩)
def w64TE0 (c : Code) (N : Nat) (x0 : List VSeries) : Tree (Lf EE.T × Option Int) :=
  .bnd (ref_TooMany N x0) fun z1 =>
  .cond (z1)
  (
    .leaf (.done (w64enc 2), some 2))
  (
    .leaf (.go (w64kL4 c) (w64sL4 x0 0), ref_CheckSeries_L4 N N x0 0))
theorem w64vE0 (N : Nat) (x0 : List VSeries) : evM TT EE (w64G N) w64lv w64rs 4000 true (w64kE0 (bodyOf 0 Try.f64)) (w64sE0 x0) = (w64TE0 (bodyOf 0 Try.f64) N x0).map1 := by kernel_rfl
theorem w64nE0 (N : Nat) (x0 : List VSeries) : ref_CheckSeries N x0 = (w64TE0 (bodyOf 0 Try.f64) N x0).run := by kernel_rfl
theorem w64oE0 {N : Nat} {r : Int} (x0 : List VSeries) (h : ref_CheckSeries N x0 = some r) : Ends (Y := TT) EE (w64G N) w64lv w64rs (fun u => u = w64enc r) (w64kE0 (bodyOf 0 Try.f64)) (w64sE0 x0) :=
  tree_use (w64vE0 N x0) (w64nE0 N x0) h (show (w64TE0 (bodyOf 0 Try.f64) N x0).all _ from fun _ => ⟨retp (enc := w64enc) rfl, fun h => w64oL4 N _ _ h⟩)
theorem ref_CheckSeries_ok {N : Nat} (x0 : List VSeries) {r : Int} (h : ref_CheckSeries N x0 = some r) (ρ : Nat → Nat) : ACalls Try.prog 64 (([.a (.d (.sl (.nam 9)) x0)] : List (TV EE.T)).map (TV.to EE.toEnc ρ)) [] (fun out H => out = .ret ((ref_CheckSeries_u r).to EE.toEnc ρ) ∧ H = []) :=
  (fn_ok (bodyOf 0 Try.f64) 34 mixed (w64Gok N) Try.func64 (by kernel_rfl) rfl rfl rfl rfl (w64oE0 x0 h) ρ).mono fun out H h => KPost.ret rfl h
def ref_CheckSeries_h (N : Nat) : List (TV EE.T) → PV EE.T
  | [u0] => match argD (.sl (.nam 9)) u0 with
    | some x0 => .opt (ref_CheckSeries N x0) ref_CheckSeries_u
    | _ => .bad
  | _ => .bad
theorem ref_CheckSeries_hok (N : Nat) (us : List (TV EE.T)) : (ref_CheckSeries_h N us).ok fun u => ∀ ρ, ACalls Try.prog 64 (us.map (TV.to EE.toEnc ρ)) [] (fun out H => out = .ret (u.to EE.toEnc ρ) ∧ H = []) := by
  unfold ref_CheckSeries_h
  split
  · split
    · rename_i h0
      intro z hz ρ; refine acalls_le ?_ (ref_CheckSeries_ok _ hz ρ); exact ⟨argD_le h0 ρ, trivial⟩
    · trivial
  · trivial
/-! ### gleaner/gleanerref.NumberOf -/
def ref_NumberOf_u (r : List UInt8) : TV EE.T := .a (.d .str r)
def w66enc (r : List UInt8) : RL EE.T := .ret (ref_NumberOf_u r) []
def w66lv : Lvs := ⟨[], [(2, ⟨[(0, false), (3, false)], [], []⟩)], [], [], false, [], []⟩
def w66rs : List ResultVar := [.tmp 2]
def w66G (N : Nat) : Gam EE := ⟨[], EQT, []⟩
theorem w66Gok (N : Nat) : GOk Try.prog TT EE (w66G N) := GOk.nil EQT_ok
def w66kL2 (c : Code) : List It2 := atL 2 c
def w66sL2 (x0 : Int) (x3 : List UInt8) : TS EE.T := ⟨22, [(0, .a (.d (.int .u64) x0)), (3, .a (.d .str x3))], [], []⟩
def w66kE0 (c : Code) : List It2 := [.c c]
def w66sE0 (x0 : Int) : TS EE.T := ⟨22, [(0, .a (.d (.int .u64) x0))], [], []⟩
def w66TL2 (c : Code) (N : Nat) (n : Nat) (x0 : Int) (x3 : List UInt8) : Tree (Lf EE.T × Option (List UInt8)) :=
  .cond (decide (x0 ≥ 128))
  (
    .bnd (remC x0 128) fun z1 =>
    .bnd (catC x3 ([toB (IntKind.wrap .u8 (IntKind.wrap .u64 (z1 + 128)))] : List UInt8)) fun z2 =>
    .bnd (quoC .u64 x0 128) fun z3 =>
    .leaf (.go (w66kL2 c) (w66sL2 z3 z2), ref_NumberOf_L2 N n z3 z2))
  (
    .bnd (catC x3 ([toB (IntKind.wrap .u8 x0)] : List UInt8)) fun z4 =>
    .leaf (.done (w66enc z4), some z4))
theorem w66vL2 (N : Nat) (n : Nat) (x0 : Int) (x3 : List UInt8) : evM TT EE (w66G N) w66lv w66rs 4000 true (w66kL2 (bodyOf 0 Try.f66)) (w66sL2 x0 x3) = (w66TL2 (bodyOf 0 Try.f66) N n x0 x3).map1 := by kernel_rfl
theorem w66nL2 (N : Nat) (n : Nat) (x0 : Int) (x3 : List UInt8) : ref_NumberOf_L2 N (n + 1) x0 x3 = (w66TL2 (bodyOf 0 Try.f66) N n x0 x3).run := by kernel_rfl
theorem w66oL2 {N : Nat} {r : List UInt8} : ∀ (n : Nat) (x0 : Int) (x3 : List UInt8), ref_NumberOf_L2 N n x0 x3 = some r → Ends (Y := TT) EE (w66G N) w66lv w66rs (fun u => u = w66enc r) (w66kL2 (bodyOf 0 Try.f66)) (w66sL2 x0 x3)
  | 0, _, _, h => by cases h
  | n + 1, x0, x3, h => tree_use (w66vL2 N n x0 x3) (w66nL2 N n x0 x3) h (show (w66TL2 (bodyOf 0 Try.f66) N n x0 x3).all _ from ⟨fun _ => fun _ => fun _ => fun h => (w66oL2 n) _ _ h, fun _ => retp (enc := w66enc) rfl⟩)
def w66TE0 (c : Code) (N : Nat) (x0 : Int) : Tree (Lf EE.T × Option (List UInt8)) :=
  .leaf (.go (w66kL2 c) (w66sL2 x0 ([] : List UInt8)), ref_NumberOf_L2 N N x0 ([] : List UInt8))
theorem w66vE0 (N : Nat) (x0 : Int) : evM TT EE (w66G N) w66lv w66rs 4000 true (w66kE0 (bodyOf 0 Try.f66)) (w66sE0 x0) = (w66TE0 (bodyOf 0 Try.f66) N x0).map1 := by kernel_rfl
theorem w66nE0 (N : Nat) (x0 : Int) : ref_NumberOf N x0 = (w66TE0 (bodyOf 0 Try.f66) N x0).run := by kernel_rfl
theorem w66oE0 {N : Nat} {r : List UInt8} (x0 : Int) (h : ref_NumberOf N x0 = some r) : Ends (Y := TT) EE (w66G N) w66lv w66rs (fun u => u = w66enc r) (w66kE0 (bodyOf 0 Try.f66)) (w66sE0 x0) :=
  tree_use (w66vE0 N x0) (w66nE0 N x0) h (show (w66TE0 (bodyOf 0 Try.f66) N x0).all _ from fun h => w66oL2 N _ _ h)
theorem ref_NumberOf_ok {N : Nat} (x0 : Int) {r : List UInt8} (h : ref_NumberOf N x0 = some r) (ρ : Nat → Nat) : ACalls Try.prog 66 (([.a (.d (.int .u64) x0)] : List (TV EE.T)).map (TV.to EE.toEnc ρ)) [] (fun out H => out = .ret ((ref_NumberOf_u r).to EE.toEnc ρ) ∧ H = []) :=
  (fn_ok (bodyOf 0 Try.f66) 22 mixed (w66Gok N) Try.func66 (by kernel_rfl) rfl rfl rfl rfl (w66oE0 x0 h) ρ).mono fun out H h => KPost.ret rfl h
def ref_NumberOf_h (N : Nat) : List (TV EE.T) → PV EE.T
  | [u0] => match argD (.int .u64) u0 with
    | some x0 => .opt (ref_NumberOf N x0) ref_NumberOf_u
    | _ => .bad
  | _ => .bad
theorem ref_NumberOf_hok (N : Nat) (us : List (TV EE.T)) : (ref_NumberOf_h N us).ok fun u => ∀ ρ, ACalls Try.prog 66 (us.map (TV.to EE.toEnc ρ)) [] (fun out H => out = .ret (u.to EE.toEnc ρ) ∧ H = []) := by
  unfold ref_NumberOf_h
  split
  · split
    · rename_i h0
      intro z hz ρ; refine acalls_le ?_ (ref_NumberOf_ok _ hz ρ); exact ⟨argD_le h0 ρ, trivial⟩
    · trivial
  · trivial
/-! ### gleaner/gleanerref.fieldOf -/
def ref_fieldOf_u (r : List UInt8) : TV EE.T := .a (.d .str r)
def w65enc (r : List UInt8) : RL EE.T := .ret (ref_fieldOf_u r) []
def w65lv : Lvs := ⟨[(1, ⟨[(0, false), (1, false)], [], []⟩)], [], [], [], false, [], []⟩
def w65rs : List ResultVar := [.tmp 4]
def w65G (N : Nat) : Gam EE := ⟨[⟨66, ref_NumberOf_h N⟩], EQT, []⟩
theorem w65Gok (N : Nat) : GOk Try.prog TT EE (w65G N) := GOk.cons (ref_NumberOf_hok N) (GOk.nil EQT_ok)
def w65kE0 (c : Code) : List It2 := [.c c]
def w65sE0 (x0 : Int) (x1 : List UInt8) : TS EE.T := ⟨18, [(0, .a (.d (.int .i64) x0)), (1, .a (.d .str x1))], [], []⟩
def w65TE0 (c : Code) (N : Nat) (x0 : Int) (x1 : List UInt8) : Tree (Lf EE.T × Option (List UInt8)) :=
  .bnd (ref_NumberOf N (IntKind.wrap .u64 (x1.length : Int))) fun z1 =>
  .bnd (catC ([toB (IntKind.wrap .u8 (w64 ((w64 (8 * x0)) + 2)))] : List UInt8) z1) fun z2 =>
  .bnd (catC z2 x1) fun z3 =>
  .leaf (.done (w65enc z3), some z3)
theorem w65vE0 (N : Nat) (x0 : Int) (x1 : List UInt8) : evM TT EE (w65G N) w65lv w65rs 4000 true (w65kE0 (bodyOf 0 Try.f65)) (w65sE0 x0 x1) = (w65TE0 (bodyOf 0 Try.f65) N x0 x1).map1 := by kernel_rfl
theorem w65nE0 (N : Nat) (x0 : Int) (x1 : List UInt8) : ref_fieldOf N x0 x1 = (w65TE0 (bodyOf 0 Try.f65) N x0 x1).run := by kernel_rfl
theorem w65oE0 {N : Nat} {r : List UInt8} (x0 : Int) (x1 : List UInt8) (h : ref_fieldOf N x0 x1 = some r) : Ends (Y := TT) EE (w65G N) w65lv w65rs (fun u => u = w65enc r) (w65kE0 (bodyOf 0 Try.f65)) (w65sE0 x0 x1) :=
  tree_use (w65vE0 N x0 x1) (w65nE0 N x0 x1) h (show (w65TE0 (bodyOf 0 Try.f65) N x0 x1).all _ from fun _ => fun _ => fun _ => retp (enc := w65enc) rfl)
theorem ref_fieldOf_ok {N : Nat} (x0 : Int) (x1 : List UInt8) {r : List UInt8} (h : ref_fieldOf N x0 x1 = some r) (ρ : Nat → Nat) : ACalls Try.prog 65 (([.a (.d (.int .i64) x0), .a (.d .str x1)] : List (TV EE.T)).map (TV.to EE.toEnc ρ)) [] (fun out H => out = .ret ((ref_fieldOf_u r).to EE.toEnc ρ) ∧ H = []) :=
  (fn_ok (bodyOf 0 Try.f65) 18 mixed (w65Gok N) Try.func65 (by kernel_rfl) rfl rfl rfl rfl (w65oE0 x0 x1 h) ρ).mono fun out H h => KPost.ret rfl h
def ref_fieldOf_h (N : Nat) : List (TV EE.T) → PV EE.T
  | [u0, u1] => match argD (.int .i64) u0, argD .str u1 with
    | some x0, some x1 => .opt (ref_fieldOf N x0 x1) ref_fieldOf_u
    | _, _ => .bad
  | _ => .bad
theorem ref_fieldOf_hok (N : Nat) (us : List (TV EE.T)) : (ref_fieldOf_h N us).ok fun u => ∀ ρ, ACalls Try.prog 65 (us.map (TV.to EE.toEnc ρ)) [] (fun out H => out = .ret (u.to EE.toEnc ρ) ∧ H = []) := by
  unfold ref_fieldOf_h
  split
  · split
    · rename_i h0 h1
      intro z hz ρ; refine acalls_le ?_ (ref_fieldOf_ok _ _ hz ρ); exact ⟨argD_le h0 ρ, argD_le h1 ρ, trivial⟩
    · trivial
  · trivial
/-! ### gleaner/gleanerref.Word -/
def ref_Word_u (r : List UInt8) : TV EE.T := .a (.d .str r)
def w48enc (r : List UInt8) : RL EE.T := .ret (ref_Word_u r) []
def w48lv : Lvs := ⟨[], [(3, ⟨[(0, false), (3, false), (4, false)], [], []⟩)], [], [], false, [], []⟩
def w48rs : List ResultVar := [.tmp 2]
def w48G (N : Nat) : Gam EE := ⟨[], EQT, []⟩
theorem w48Gok (N : Nat) : GOk Try.prog TT EE (w48G N) := GOk.nil EQT_ok
def w48kL3 (c : Code) : List It2 := atL 3 c
def w48sL3 (x0 : Int) (x3 : List UInt8) (x4 : Int) : TS EE.T := ⟨19, [(0, .a (.d (.int .u64) x0)), (3, .a (.own .byte x3)), (4, .a (.d (.int .i64) x4))], [], []⟩
def w48kE0 (c : Code) : List It2 := [.c c]
def w48sE0 (x0 : Int) : TS EE.T := ⟨19, [(0, .a (.d (.int .u64) x0))], [], []⟩
def w48TL3 (c : Code) (N : Nat) (n : Nat) (x0 : Int) (x3 : List UInt8) (x4 : Int) : Tree (Lf EE.T × Option (List UInt8)) :=
  .cond (decide (x4 < 8))
  (
    .bnd (remC x0 256) fun z1 =>
    .bnd (appC 1 x3 ([toB (IntKind.wrap .u8 z1)] : List UInt8)) fun z2 =>
    .bnd (quoC .u64 x0 256) fun z3 =>
    .leaf (.go (w48kL3 c) (w48sL3 z3 z2 (w64 (x4 + 1))), ref_Word_L3 N n z3 z2 (w64 (x4 + 1))))
  (
    .leaf (.done (w48enc x3), some x3))
theorem w48vL3 (N : Nat) (n : Nat) (x0 : Int) (x3 : List UInt8) (x4 : Int) : evM TT EE (w48G N) w48lv w48rs 4000 true (w48kL3 (bodyOf 0 Try.f48)) (w48sL3 x0 x3 x4) = (w48TL3 (bodyOf 0 Try.f48) N n x0 x3 x4).map1 := by kernel_rfl
theorem w48nL3 (N : Nat) (n : Nat) (x0 : Int) (x3 : List UInt8) (x4 : Int) : ref_Word_L3 N (n + 1) x0 x3 x4 = (w48TL3 (bodyOf 0 Try.f48) N n x0 x3 x4).run := by kernel_rfl
theorem w48oL3 {N : Nat} {r : List UInt8} : ∀ (n : Nat) (x0 : Int) (x3 : List UInt8) (x4 : Int), ref_Word_L3 N n x0 x3 x4 = some r → Ends (Y := TT) EE (w48G N) w48lv w48rs (fun u => u = w48enc r) (w48kL3 (bodyOf 0 Try.f48)) (w48sL3 x0 x3 x4)
  | 0, _, _, _, h => by cases h
  | n + 1, x0, x3, x4, h => tree_use (w48vL3 N n x0 x3 x4) (w48nL3 N n x0 x3 x4) h (show (w48TL3 (bodyOf 0 Try.f48) N n x0 x3 x4).all _ from ⟨fun _ => fun _ => fun _ => fun h => (w48oL3 n) _ _ _ h, retp (enc := w48enc) rfl⟩)
def w48TE0 (c : Code) (N : Nat) (x0 : Int) : Tree (Lf EE.T × Option (List UInt8)) :=
  .leaf (.go (w48kL3 c) (w48sL3 x0 ([] : List UInt8) 0), ref_Word_L3 N N x0 ([] : List UInt8) 0)
theorem w48vE0 (N : Nat) (x0 : Int) : evM TT EE (w48G N) w48lv w48rs 4000 true (w48kE0 (bodyOf 0 Try.f48)) (w48sE0 x0) = (w48TE0 (bodyOf 0 Try.f48) N x0).map1 := by kernel_rfl
theorem w48nE0 (N : Nat) (x0 : Int) : ref_Word N x0 = (w48TE0 (bodyOf 0 Try.f48) N x0).run := by kernel_rfl
theorem w48oE0 {N : Nat} {r : List UInt8} (x0 : Int) (h : ref_Word N x0 = some r) : Ends (Y := TT) EE (w48G N) w48lv w48rs (fun u => u = w48enc r) (w48kE0 (bodyOf 0 Try.f48)) (w48sE0 x0) :=
  tree_use (w48vE0 N x0) (w48nE0 N x0) h (show (w48TE0 (bodyOf 0 Try.f48) N x0).all _ from fun h => w48oL3 N _ _ _ h)
theorem ref_Word_ok {N : Nat} (x0 : Int) {r : List UInt8} (h : ref_Word N x0 = some r) (ρ : Nat → Nat) : ACalls Try.prog 48 (([.a (.d (.int .u64) x0)] : List (TV EE.T)).map (TV.to EE.toEnc ρ)) [] (fun out H => out = .ret ((ref_Word_u r).to EE.toEnc ρ) ∧ H = []) :=
  (fn_ok (bodyOf 0 Try.f48) 19 mixed (w48Gok N) Try.func48 (by kernel_rfl) rfl rfl rfl rfl (w48oE0 x0 h) ρ).mono fun out H h => KPost.ret rfl h
def ref_Word_h (N : Nat) : List (TV EE.T) → PV EE.T
  | [u0] => match argD (.int .u64) u0 with
    | some x0 => .opt (ref_Word N x0) ref_Word_u
    | _ => .bad
  | _ => .bad
theorem ref_Word_hok (N : Nat) (us : List (TV EE.T)) : (ref_Word_h N us).ok fun u => ∀ ρ, ACalls Try.prog 48 (us.map (TV.to EE.toEnc ρ)) [] (fun out H => out = .ret (u.to EE.toEnc ρ) ∧ H = []) := by
  unfold ref_Word_h
  split
  · split
    · rename_i h0
      intro z hz ρ; refine acalls_le ?_ (ref_Word_ok _ hz ρ); exact ⟨argD_le h0 ρ, trivial⟩
    · trivial
  · trivial
/-! ### gleaner/gleanerref.Unsigned -/
def ref_Unsigned_u (r : Int) : TV EE.T := .a (.d (.int .u64) r)
def w67enc (r : Int) : RL EE.T := .ret (ref_Unsigned_u r) []
def w67lv : Lvs := ⟨[], [], [], [], false, [], []⟩
def w67rs : List ResultVar := [.tmp 2]
def w67G (N : Nat) : Gam EE := ⟨[], EQT, []⟩
theorem w67Gok (N : Nat) : GOk Try.prog TT EE (w67G N) := GOk.nil EQT_ok
def w67kE0 (c : Code) : List It2 := [.c c]
def w67sE0 (x0 : Int) : TS EE.T := ⟨12, [(0, .a (.d (.int .i64) x0))], [], []⟩
def w67TE0 (c : Code) (N : Nat) (x0 : Int) : Tree (Lf EE.T × Option Int) :=
  .cond (decide (x0 ≥ 0))
  (
    .leaf (.done (w67enc (IntKind.wrap .u64 x0)), some (IntKind.wrap .u64 x0)))
  (
    .leaf (.done (w67enc (IntKind.wrap .u64 (18446744073709551615 - (IntKind.wrap .u64 (w64 (0 - (w64 (x0 + 1)))))))), some (IntKind.wrap .u64 (18446744073709551615 - (IntKind.wrap .u64 (w64 (0 - (w64 (x0 + 1)))))))))
theorem w67vE0 (N : Nat) (x0 : Int) : evM TT EE (w67G N) w67lv w67rs 4000 true (w67kE0 (bodyOf 0 Try.f67)) (w67sE0 x0) = (w67TE0 (bodyOf 0 Try.f67) N x0).map1 := by kernel_rfl
theorem w67nE0 (N : Nat) (x0 : Int) : ref_Unsigned N x0 = (w67TE0 (bodyOf 0 Try.f67) N x0).run := by kernel_rfl
theorem w67oE0 {N : Nat} {r : Int} (x0 : Int) (h : ref_Unsigned N x0 = some r) : Ends (Y := TT) EE (w67G N) w67lv w67rs (fun u => u = w67enc r) (w67kE0 (bodyOf 0 Try.f67)) (w67sE0 x0) :=
  tree_use (w67vE0 N x0) (w67nE0 N x0) h (show (w67TE0 (bodyOf 0 Try.f67) N x0).all _ from ⟨retp (enc := w67enc) rfl, retp (enc := w67enc) rfl⟩)
theorem ref_Unsigned_ok {N : Nat} (x0 : Int) {r : Int} (h : ref_Unsigned N x0 = some r) (ρ : Nat → Nat) : ACalls Try.prog 67 (([.a (.d (.int .i64) x0)] : List (TV EE.T)).map (TV.to EE.toEnc ρ)) [] (fun out H => out = .ret ((ref_Unsigned_u r).to EE.toEnc ρ) ∧ H = []) :=
  (fn_ok (bodyOf 0 Try.f67) 12 mixed (w67Gok N) Try.func67 (by kernel_rfl) rfl rfl rfl rfl (w67oE0 x0 h) ρ).mono fun out H h => KPost.ret rfl h
def ref_Unsigned_h (N : Nat) : List (TV EE.T) → PV EE.T
  | [u0] => match argD (.int .i64) u0 with
    | some x0 => .opt (ref_Unsigned N x0) ref_Unsigned_u
    | _ => .bad
  | _ => .bad
theorem ref_Unsigned_hok (N : Nat) (us : List (TV EE.T)) : (ref_Unsigned_h N us).ok fun u => ∀ ρ, ACalls Try.prog 67 (us.map (TV.to EE.toEnc ρ)) [] (fun out H => out = .ret (u.to EE.toEnc ρ) ∧ H = []) := by
  unfold ref_Unsigned_h
  split
  · split
    · rename_i h0
      intro z hz ρ; refine acalls_le ?_ (ref_Unsigned_ok _ hz ρ); exact ⟨argD_le h0 ρ, trivial⟩
    · trivial
  · trivial
/-! ### gleaner/gleanerref.WriteOf -/
def ref_WriteOf_u (r : (List UInt8) × Int) : TV EE.T := .tu [.a (.d .str r.1), .a (.d (.int .i64) r.2)]
def w32enc (r : (List UInt8) × Int) : RL EE.T := .ret (ref_WriteOf_u r) []
def w32lv : Lvs := ⟨[(13, ⟨[(0, false), (5, false), (6, false), (7, false), (8, false), (9, false)], [], [(9, (some 2, []))]⟩), (18, ⟨[(0, false), (5, false), (6, false), (7, false), (10, false), (11, false)], [], [(11, (some 6, []))]⟩)], [(6, ⟨[(0, false), (5, false), (6, false)], [], []⟩), (10, ⟨[(0, false), (5, false), (6, false), (7, false), (8, false)], [], []⟩), (15, ⟨[(0, false), (5, false), (6, false), (7, false), (10, false)], [], []⟩)], [], [], false, [], []⟩
def w32rs : List ResultVar := [.tmp 2, .tmp 3]
def w32G (N : Nat) : Gam EE := ⟨[⟨64, ref_CheckSeries_h N⟩, ⟨66, ref_NumberOf_h N⟩, ⟨67, ref_Unsigned_h N⟩, ⟨48, ref_Word_h N⟩, ⟨65, ref_fieldOf_h N⟩], EQT, []⟩
theorem w32Gok (N : Nat) : GOk Try.prog TT EE (w32G N) := GOk.cons (ref_CheckSeries_hok N) (GOk.cons (ref_NumberOf_hok N) (GOk.cons (ref_Unsigned_hok N) (GOk.cons (ref_Word_hok N) (GOk.cons (ref_fieldOf_hok N) (GOk.nil EQT_ok)))))
def w32kL15 (c : Code) : List It2 := atL 15 c
def w32sL15 (x0 : List VSeries) (x5 : List UInt8) (x6 : Int) (x7 : List UInt8) (x10 : Int) : TS EE.T := ⟨94, [(0, .a (.d (.sl (.nam 9)) x0)), (5, .a (.d .str x5)), (6, .a (.d (.int .i64) x6)), (7, .a (.d .str x7)), (10, .a (.d (.int .i64) x10))], [], []⟩
def w32kL10 (c : Code) : List It2 := atL 10 c
def w32sL10 (x0 : List VSeries) (x5 : List UInt8) (x6 : Int) (x7 : List UInt8) (x8 : Int) : TS EE.T := ⟨94, [(0, .a (.d (.sl (.nam 9)) x0)), (5, .a (.d .str x5)), (6, .a (.d (.int .i64) x6)), (7, .a (.d .str x7)), (8, .a (.d (.int .i64) x8))], [], []⟩
def w32kL6 (c : Code) : List It2 := atL 6 c
def w32sL6 (x0 : List VSeries) (x5 : List UInt8) (x6 : Int) : TS EE.T := ⟨94, [(0, .a (.d (.sl (.nam 9)) x0)), (5, .a (.d .str x5)), (6, .a (.d (.int .i64) x6))], [], []⟩
def w32kE0 (c : Code) : List It2 := [.c c]
def w32sE0 (x0 : List VSeries) : TS EE.T := ⟨94, [(0, .a (.d (.sl (.nam 9)) x0))], [], []⟩
def w32TL15 (c : Code) (N : Nat) (k6 : (List VSeries) → (List UInt8) → Int → Option ((List UInt8) × Int)) (n : Nat) (x0 : List VSeries) (x5 : List UInt8) (x6 : Int) (x7 : List UInt8) (x10 : Int) : Tree (Lf EE.T × Option ((List UInt8) × Int)) :=
  .bnd (idxC x0 x6) fun z10 =>
  .cond (decide (x10 < (z10.Samples.length : Int)))
  (
    .bnd (idxC x0 x6) fun z11 =>
    .bnd (idxC z11.Samples x10) fun z12 =>
    .bnd (ref_Word N z12.Bits) fun z13 =>
    .bnd (catC ([9] : List UInt8) z13) fun z14 =>
    .bnd (catC z14 ([16] : List UInt8)) fun z15 =>
    .bnd (ref_Unsigned N z12.Time) fun z16 =>
    .bnd (ref_NumberOf N z16) fun z17 =>
    .bnd (catC z15 z17) fun z18 =>
    .bnd (ref_fieldOf N 2 z18) fun z19 =>
    .bnd (catC x7 z19) fun z20 =>
    .leaf (.go (w32kL15 c) (w32sL15 x0 x5 x6 z20 (w64 (x10 + 1))), ref_WriteOf_L15 N k6 n x0 x5 x6 z20 (w64 (x10 + 1))))
  (
    .bnd (ref_fieldOf N 1 x7) fun z21 =>
    .bnd (catC x5 z21) fun z22 =>
    .cond (decide ((z22.length : Int) > 20000))
    (
      .leaf (.done (w32enc (([] : List UInt8), 2)), some (([] : List UInt8), 2)))
    (
      .leaf (.go (w32kL6 c) (w32sL6 x0 z22 (w64 (x6 + 1))), k6 x0 z22 (w64 (x6 + 1)))))
theorem w32vL15 (N : Nat) (k6 : (List VSeries) → (List UInt8) → Int → Option ((List UInt8) × Int)) (n : Nat) (x0 : List VSeries) (x5 : List UInt8) (x6 : Int) (x7 : List UInt8) (x10 : Int) : evM TT EE (w32G N) w32lv w32rs 4000 true (w32kL15 (bodyOf 0 Try.f32)) (w32sL15 x0 x5 x6 x7 x10) = (w32TL15 (bodyOf 0 Try.f32) N k6 n x0 x5 x6 x7 x10).map1 := by kernel_rfl
theorem w32nL15 (N : Nat) (k6 : (List VSeries) → (List UInt8) → Int → Option ((List UInt8) × Int)) (n : Nat) (x0 : List VSeries) (x5 : List UInt8) (x6 : Int) (x7 : List UInt8) (x10 : Int) : ref_WriteOf_L15 N k6 (n + 1) x0 x5 x6 x7 x10 = (w32TL15 (bodyOf 0 Try.f32) N k6 n x0 x5 x6 x7 x10).run := by kernel_rfl
theorem w32oL15 {N : Nat} {r : (List UInt8) × Int} {k6 : (List VSeries) → (List UInt8) → Int → Option ((List UInt8) × Int)} (hk6 : ∀ x0 x5 x6, k6 x0 x5 x6 = some r → Ends (Y := TT) EE (w32G N) w32lv w32rs (fun u => u = w32enc r) (w32kL6 (bodyOf 0 Try.f32)) (w32sL6 x0 x5 x6)) : ∀ (n : Nat) (x0 : List VSeries) (x5 : List UInt8) (x6 : Int) (x7 : List UInt8) (x10 : Int), ref_WriteOf_L15 N k6 n x0 x5 x6 x7 x10 = some r → Ends (Y := TT) EE (w32G N) w32lv w32rs (fun u => u = w32enc r) (w32kL15 (bodyOf 0 Try.f32)) (w32sL15 x0 x5 x6 x7 x10)
  | 0, _, _, _, _, _, h => by cases h
  | n + 1, x0, x5, x6, x7, x10, h => tree_use (w32vL15 N k6 n x0 x5 x6 x7 x10) (w32nL15 N k6 n x0 x5 x6 x7 x10) h (show (w32TL15 (bodyOf 0 Try.f32) N k6 n x0 x5 x6 x7 x10).all _ from fun _ => ⟨fun _ => fun _ => fun _ => fun _ => fun _ => fun _ => fun _ => fun _ => fun _ => fun _ => fun h => (w32oL15 hk6 n) _ _ _ _ _ h, fun _ => fun _ => ⟨retp (enc := w32enc) rfl, fun h => hk6 _ _ _ h⟩⟩)
def w32TL10 (c : Code) (N : Nat) (k6 : (List VSeries) → (List UInt8) → Int → Option ((List UInt8) × Int)) (n : Nat) (x0 : List VSeries) (x5 : List UInt8) (x6 : Int) (x7 : List UInt8) (x8 : Int) : Tree (Lf EE.T × Option ((List UInt8) × Int)) :=
  .bnd (idxC x0 x6) fun z2 =>
  .cond (decide (x8 < (z2.Labels.length : Int)))
  (
    .bnd (idxC x0 x6) fun z3 =>
    .bnd (idxC z3.Labels x8) fun z4 =>
    .bnd (ref_fieldOf N 1 z4.Name) fun z5 =>
    .bnd (ref_fieldOf N 2 z4.Value) fun z6 =>
    .bnd (catC z5 z6) fun z7 =>
    .bnd (ref_fieldOf N 1 z7) fun z8 =>
    .bnd (catC x7 z8) fun z9 =>
    .leaf (.go (w32kL10 c) (w32sL10 x0 x5 x6 z9 (w64 (x8 + 1))), ref_WriteOf_L10 N k6 n x0 x5 x6 z9 (w64 (x8 + 1))))
  (
    .leaf (.go (w32kL15 c) (w32sL15 x0 x5 x6 x7 0), ref_WriteOf_L15 N k6 n x0 x5 x6 x7 0))
theorem w32vL10 (N : Nat) (k6 : (List VSeries) → (List UInt8) → Int → Option ((List UInt8) × Int)) (n : Nat) (x0 : List VSeries) (x5 : List UInt8) (x6 : Int) (x7 : List UInt8) (x8 : Int) : evM TT EE (w32G N) w32lv w32rs 4000 true (w32kL10 (bodyOf 0 Try.f32)) (w32sL10 x0 x5 x6 x7 x8) = (w32TL10 (bodyOf 0 Try.f32) N k6 n x0 x5 x6 x7 x8).map1 := by kernel_rfl
theorem w32nL10 (N : Nat) (k6 : (List VSeries) → (List UInt8) → Int → Option ((List UInt8) × Int)) (n : Nat) (x0 : List VSeries) (x5 : List UInt8) (x6 : Int) (x7 : List UInt8) (x8 : Int) : ref_WriteOf_L10 N k6 (n + 1) x0 x5 x6 x7 x8 = (w32TL10 (bodyOf 0 Try.f32) N k6 n x0 x5 x6 x7 x8).run := by kernel_rfl
theorem w32oL10 {N : Nat} {r : (List UInt8) × Int} {k6 : (List VSeries) → (List UInt8) → Int → Option ((List UInt8) × Int)} (hk6 : ∀ x0 x5 x6, k6 x0 x5 x6 = some r → Ends (Y := TT) EE (w32G N) w32lv w32rs (fun u => u = w32enc r) (w32kL6 (bodyOf 0 Try.f32)) (w32sL6 x0 x5 x6)) : ∀ (n : Nat) (x0 : List VSeries) (x5 : List UInt8) (x6 : Int) (x7 : List UInt8) (x8 : Int), ref_WriteOf_L10 N k6 n x0 x5 x6 x7 x8 = some r → Ends (Y := TT) EE (w32G N) w32lv w32rs (fun u => u = w32enc r) (w32kL10 (bodyOf 0 Try.f32)) (w32sL10 x0 x5 x6 x7 x8)
  | 0, _, _, _, _, _, h => by cases h
  | n + 1, x0, x5, x6, x7, x8, h => tree_use (w32vL10 N k6 n x0 x5 x6 x7 x8) (w32nL10 N k6 n x0 x5 x6 x7 x8) h (show (w32TL10 (bodyOf 0 Try.f32) N k6 n x0 x5 x6 x7 x8).all _ from fun _ => ⟨fun _ => fun _ => fun _ => fun _ => fun _ => fun _ => fun _ => fun h => (w32oL10 hk6 n) _ _ _ _ _ h, fun h => w32oL15 hk6 n _ _ _ _ _ h⟩)
def w32TL6 (c : Code) (N : Nat) (n : Nat) (x0 : List VSeries) (x5 : List UInt8) (x6 : Int) : Tree (Lf EE.T × Option ((List UInt8) × Int)) :=
  .cond (decide (x6 < (x0.length : Int)))
  (
    .leaf (.go (w32kL10 c) (w32sL10 x0 x5 x6 ([] : List UInt8) 0), ref_WriteOf_L10 N (ref_WriteOf_L6 N n) n x0 x5 x6 ([] : List UInt8) 0))
  (
    .leaf (.done (w32enc (x5, 0)), some (x5, 0)))
theorem w32vL6 (N : Nat) (n : Nat) (x0 : List VSeries) (x5 : List UInt8) (x6 : Int) : evM TT EE (w32G N) w32lv w32rs 4000 true (w32kL6 (bodyOf 0 Try.f32)) (w32sL6 x0 x5 x6) = (w32TL6 (bodyOf 0 Try.f32) N n x0 x5 x6).map1 := by kernel_rfl
theorem w32nL6 (N : Nat) (n : Nat) (x0 : List VSeries) (x5 : List UInt8) (x6 : Int) : ref_WriteOf_L6 N (n + 1) x0 x5 x6 = (w32TL6 (bodyOf 0 Try.f32) N n x0 x5 x6).run := by kernel_rfl
theorem w32oL6 {N : Nat} {r : (List UInt8) × Int} : ∀ (n : Nat) (x0 : List VSeries) (x5 : List UInt8) (x6 : Int), ref_WriteOf_L6 N n x0 x5 x6 = some r → Ends (Y := TT) EE (w32G N) w32lv w32rs (fun u => u = w32enc r) (w32kL6 (bodyOf 0 Try.f32)) (w32sL6 x0 x5 x6)
  | 0, _, _, _, h => by cases h
  | n + 1, x0, x5, x6, h => tree_use (w32vL6 N n x0 x5 x6) (w32nL6 N n x0 x5 x6) h (show (w32TL6 (bodyOf 0 Try.f32) N n x0 x5 x6).all _ from ⟨fun h => w32oL10 (w32oL6 n) n _ _ _ _ _ h, retp (enc := w32enc) rfl⟩)
def w32TE0 (c : Code) (N : Nat) (x0 : List VSeries) : Tree (Lf EE.T × Option ((List UInt8) × Int)) :=
  .bnd (ref_CheckSeries N x0) fun z1 =>
  .cond (z1 != 0)
  (
    .leaf (.done (w32enc (([] : List UInt8), z1)), some (([] : List UInt8), z1)))
  (
    .leaf (.go (w32kL6 c) (w32sL6 x0 ([] : List UInt8) 0), ref_WriteOf_L6 N N x0 ([] : List UInt8) 0))
theorem w32vE0 (N : Nat) (x0 : List VSeries) : evM TT EE (w32G N) w32lv w32rs 4000 true (w32kE0 (bodyOf 0 Try.f32)) (w32sE0 x0) = (w32TE0 (bodyOf 0 Try.f32) N x0).map1 := by kernel_rfl
theorem w32nE0 (N : Nat) (x0 : List VSeries) : ref_WriteOf N x0 = (w32TE0 (bodyOf 0 Try.f32) N x0).run := by kernel_rfl
theorem w32oE0 {N : Nat} {r : (List UInt8) × Int} (x0 : List VSeries) (h : ref_WriteOf N x0 = some r) : Ends (Y := TT) EE (w32G N) w32lv w32rs (fun u => u = w32enc r) (w32kE0 (bodyOf 0 Try.f32)) (w32sE0 x0) :=
  tree_use (w32vE0 N x0) (w32nE0 N x0) h (show (w32TE0 (bodyOf 0 Try.f32) N x0).all _ from fun _ => ⟨retp (enc := w32enc) rfl, fun h => w32oL6 N _ _ _ h⟩)
theorem ref_WriteOf_ok {N : Nat} (x0 : List VSeries) {r : (List UInt8) × Int} (h : ref_WriteOf N x0 = some r) (ρ : Nat → Nat) : ACalls Try.prog 32 (([.a (.d (.sl (.nam 9)) x0)] : List (TV EE.T)).map (TV.to EE.toEnc ρ)) [] (fun out H => out = .ret ((ref_WriteOf_u r).to EE.toEnc ρ) ∧ H = []) :=
  (fn_ok (bodyOf 0 Try.f32) 94 mixed (w32Gok N) Try.func32 (by kernel_rfl) rfl rfl rfl rfl (w32oE0 x0 h) ρ).mono fun out H h => KPost.ret rfl h
def ref_WriteOf_h (N : Nat) : List (TV EE.T) → PV EE.T
  | [u0] => match argD (.sl (.nam 9)) u0 with
    | some x0 => .opt (ref_WriteOf N x0) ref_WriteOf_u
    | _ => .bad
  | _ => .bad
theorem ref_WriteOf_hok (N : Nat) (us : List (TV EE.T)) : (ref_WriteOf_h N us).ok fun u => ∀ ρ, ACalls Try.prog 32 (us.map (TV.to EE.toEnc ρ)) [] (fun out H => out = .ret (u.to EE.toEnc ρ) ∧ H = []) := by
  unfold ref_WriteOf_h
  split
  · split
    · rename_i h0
      intro z hz ρ; refine acalls_le ?_ (ref_WriteOf_ok _ hz ρ); exact ⟨argD_le h0 ρ, trivial⟩
    · trivial
  · trivial
/-! ### gleaner/gleanerref.NextOf -/
def ref_NextOf_u (r : List VItem) : TV EE.T := .a (.d (.sl (.nam 7)) r)
def w29enc (r : List VItem) : RL EE.T := .ret (ref_NextOf_u r) []
def w29lv : Lvs := ⟨[], [(2, ⟨[(1, false), (3, false)], [], [(1, (some 8, []))]⟩)], [], [], false, [], []⟩
def w29rs : List ResultVar := [.tmp 2]
def w29G (N : Nat) : Gam EE := ⟨[⟨33, ref_SeriesOf_h N⟩, ⟨32, ref_WriteOf_h N⟩], EQT, []⟩
theorem w29Gok (N : Nat) : GOk Try.prog TT EE (w29G N) := GOk.cons (ref_SeriesOf_hok N) (GOk.cons (ref_WriteOf_hok N) (GOk.nil EQT_ok))
def w29kL2 (c : Code) : List It2 := atL 2 c
def w29sL2 (x3 : Int) (b1 : VShard) : TS EE.T := ⟨31, [(1, .a (.box 1 0)), (3, .a (.d (.int .i64) x3))], [(1, .cs (unpT EE (.nam 8) b1))], []⟩
def w29kE0 (c : Code) : List It2 := [.c c]
def w29sE0 (x0 : VShard) : TS EE.T := ⟨31, [(0, .ag (unpT EE (.nam 8) x0))], [], []⟩
def w29TL2 (c : Code) (N : Nat) (n : Nat) (x3 : Int) (b1 : VShard) : Tree (Lf EE.T × Option (List VItem)) :=
  .cond (decide (x3 > 0))
  (
    .bnd (subC b1.Items 0 x3) fun z1 =>
    .bnd (ref_SeriesOf N z1) fun z2 =>
    .bnd (ref_WriteOf N z2) fun z3 =>
    .cond (z3.2 == 0)
    (
      .bnd (subC b1.Items 0 x3) fun z4 =>
      .leaf (.done (w29enc z4), some z4))
    (
      .bnd (quoC .i64 x3 2) fun z5 =>
      .leaf (.go (w29kL2 c) (w29sL2 z5 b1), ref_NextOf_L2 N n z5 b1)))
  (
    .bnd (subC b1.Items 0 x3) fun z6 =>
    .leaf (.done (w29enc z6), some z6))
theorem w29vL2 (N : Nat) (n : Nat) (x3 : Int) (b1 : VShard) : evM TT EE (w29G N) w29lv w29rs 4000 true (w29kL2 (bodyOf 0 Try.f29)) (w29sL2 x3 b1) = (w29TL2 (bodyOf 0 Try.f29) N n x3 b1).map1 := by kernel_rfl
theorem w29nL2 (N : Nat) (n : Nat) (x3 : Int) (b1 : VShard) : ref_NextOf_L2 N (n + 1) x3 b1 = (w29TL2 (bodyOf 0 Try.f29) N n x3 b1).run := by kernel_rfl
theorem w29oL2 {N : Nat} {r : List VItem} : ∀ (n : Nat) (x3 : Int) (b1 : VShard), ref_NextOf_L2 N n x3 b1 = some r → Ends (Y := TT) EE (w29G N) w29lv w29rs (fun u => u = w29enc r) (w29kL2 (bodyOf 0 Try.f29)) (w29sL2 x3 b1)
  | 0, _, _, h => by cases h
  | n + 1, x3, b1, h => tree_use (w29vL2 N n x3 b1) (w29nL2 N n x3 b1) h (show (w29TL2 (bodyOf 0 Try.f29) N n x3 b1).all _ from ⟨fun _ => fun _ => fun _ => ⟨fun _ => retp (enc := w29enc) rfl, fun _ => fun h => (w29oL2 n) _ _ h⟩, fun _ => retp (enc := w29enc) rfl⟩)
def w29TE0 (c : Code) (N : Nat) (x0 : VShard) : Tree (Lf EE.T × Option (List VItem)) :=
  .leaf (.go (w29kL2 c) (w29sL2 (if x0.Batch < (x0.Items.length : Int) then x0.Batch else (x0.Items.length : Int)) x0), ref_NextOf_L2 N N (if x0.Batch < (x0.Items.length : Int) then x0.Batch else (x0.Items.length : Int)) x0)
theorem w29vE0 (N : Nat) (x0 : VShard) : evM TT EE (w29G N) w29lv w29rs 4000 true (w29kE0 (bodyOf 0 Try.f29)) (w29sE0 x0) = (w29TE0 (bodyOf 0 Try.f29) N x0).map1 := by kernel_rfl
theorem w29nE0 (N : Nat) (x0 : VShard) : ref_NextOf N x0 = (w29TE0 (bodyOf 0 Try.f29) N x0).run := by kernel_rfl
theorem w29oE0 {N : Nat} {r : List VItem} (x0 : VShard) (h : ref_NextOf N x0 = some r) : Ends (Y := TT) EE (w29G N) w29lv w29rs (fun u => u = w29enc r) (w29kE0 (bodyOf 0 Try.f29)) (w29sE0 x0) :=
  tree_use (w29vE0 N x0) (w29nE0 N x0) h (show (w29TE0 (bodyOf 0 Try.f29) N x0).all _ from fun h => w29oL2 N _ _ h)
theorem ref_NextOf_ok {N : Nat} (x0 : VShard) {r : List VItem} (h : ref_NextOf N x0 = some r) (ρ : Nat → Nat) : ACalls Try.prog 29 (([.ag (unpT EE (.nam 8) x0)] : List (TV EE.T)).map (TV.to EE.toEnc ρ)) [] (fun out H => out = .ret ((ref_NextOf_u r).to EE.toEnc ρ) ∧ H = []) :=
  (fn_ok (bodyOf 0 Try.f29) 31 mixed (w29Gok N) Try.func29 (by kernel_rfl) rfl rfl rfl rfl (w29oE0 x0 h) ρ).mono fun out H h => KPost.ret rfl h
def ref_NextOf_h (N : Nat) : List (TV EE.T) → PV EE.T
  | [u0] => match argS EE 8 u0 with
    | some x0 => .opt (ref_NextOf N x0) ref_NextOf_u
    | _ => .bad
  | _ => .bad
theorem ref_NextOf_hok (N : Nat) (us : List (TV EE.T)) : (ref_NextOf_h N us).ok fun u => ∀ ρ, ACalls Try.prog 29 (us.map (TV.to EE.toEnc ρ)) [] (fun out H => out = .ret (u.to EE.toEnc ρ) ∧ H = []) := by
  unfold ref_NextOf_h
  split
  · split
    · rename_i h0
      intro z hz ρ; refine acalls_le ?_ (ref_NextOf_ok _ hz ρ); exact ⟨argS_le h0 ρ, trivial⟩
    · trivial
  · trivial
/-! ### gleaner/gleanerref.NumberAt -/
def ref_NumberAt_u (r : Int × Int × Int) : TV EE.T := .tu [.a (.d (.int .u64) r.1), .a (.d (.int .i64) r.2.1), .a (.d (.int .i64) r.2.2)]
def w62enc (r : Int × Int × Int) : RL EE.T := .ret (ref_NumberAt_u r) []
def w62lv : Lvs := ⟨[(4, ⟨[(0, false), (5, false)], [], []⟩), (8, ⟨[(0, false), (5, false)], [], []⟩)], [(2, ⟨[(0, false), (5, false)], [], []⟩), (10, ⟨[(0, false), (5, false), (6, false), (7, false)], [], []⟩)], [4, 8], [], false, [], []⟩
def w62rs : List ResultVar := [.tmp 2, .tmp 3, .tmp 4]
def w62G (N : Nat) : Gam EE := ⟨[], EQT, []⟩
theorem w62Gok (N : Nat) : GOk Try.prog TT EE (w62G N) := GOk.nil EQT_ok
def w62kL10 (c : Code) : List It2 := atL 10 c
def w62sL10 (x0 : List UInt8) (x5 : Int) (x6 : Int) (x7 : Int) : TS EE.T := ⟨51, [(0, .a (.d .str x0)), (5, .a (.d (.int .i64) x5)), (6, .a (.d (.int .u64) x6)), (7, .a (.d (.int .i64) x7))], [], []⟩
def w62kR8 (c : Code) : List It2 := atR 8 c
def w62sR8 (x0 : List UInt8) (x5 : Int) : TS EE.T := ⟨51, [(0, .a (.d .str x0)), (5, .a (.d (.int .i64) x5))], [], []⟩
def w62kR4 (c : Code) : List It2 := atR 4 c
def w62sR4 (x0 : List UInt8) (x5 : Int) : TS EE.T := ⟨51, [(0, .a (.d .str x0)), (5, .a (.d (.int .i64) x5))], [], []⟩
def w62kL2 (c : Code) : List It2 := atL 2 c
def w62sL2 (x0 : List UInt8) (x5 : Int) : TS EE.T := ⟨51, [(0, .a (.d .str x0)), (5, .a (.d (.int .i64) x5))], [], []⟩
def w62kE0 (c : Code) : List It2 := [.c c]
def w62sE0 (x0 : List UInt8) : TS EE.T := ⟨51, [(0, .a (.d .str x0))], [], []⟩
def w62TL10 (c : Code) (N : Nat) (n : Nat) (x0 : List UInt8) (x5 : Int) (x6 : Int) (x7 : Int) : Tree (Lf EE.T × Option (Int × Int × Int)) :=
  .cond (decide (x7 ≥ 0))
  (
    .bnd (idxC x0 x7) fun z3 =>
    .bnd ((remC (b2i z3) (b2i 128)).bind u8C) fun z4 =>
    .leaf (.go (w62kL10 c) (w62sL10 x0 x5 (IntKind.wrap .u64 ((IntKind.wrap .u64 (x6 * 128)) + (IntKind.wrap .u64 (b2i z4)))) (w64 (x7 - 1))), ref_NumberAt_L10 N n x0 x5 (IntKind.wrap .u64 ((IntKind.wrap .u64 (x6 * 128)) + (IntKind.wrap .u64 (b2i z4)))) (w64 (x7 - 1))))
  (
    .leaf (.done (w62enc (x6, w64 (x5 + 1), 0)), some (x6, w64 (x5 + 1), 0)))
theorem w62vL10 (N : Nat) (n : Nat) (x0 : List UInt8) (x5 : Int) (x6 : Int) (x7 : Int) : evM TT EE (w62G N) w62lv w62rs 4000 true (w62kL10 (bodyOf 0 Try.f62)) (w62sL10 x0 x5 x6 x7) = (w62TL10 (bodyOf 0 Try.f62) N n x0 x5 x6 x7).map1 := by kernel_rfl
theorem w62nL10 (N : Nat) (n : Nat) (x0 : List UInt8) (x5 : Int) (x6 : Int) (x7 : Int) : ref_NumberAt_L10 N (n + 1) x0 x5 x6 x7 = (w62TL10 (bodyOf 0 Try.f62) N n x0 x5 x6 x7).run := by kernel_rfl
theorem w62oL10 {N : Nat} {r : Int × Int × Int} : ∀ (n : Nat) (x0 : List UInt8) (x5 : Int) (x6 : Int) (x7 : Int), ref_NumberAt_L10 N n x0 x5 x6 x7 = some r → Ends (Y := TT) EE (w62G N) w62lv w62rs (fun u => u = w62enc r) (w62kL10 (bodyOf 0 Try.f62)) (w62sL10 x0 x5 x6 x7)
  | 0, _, _, _, _, h => by cases h
  | n + 1, x0, x5, x6, x7, h => tree_use (w62vL10 N n x0 x5 x6 x7) (w62nL10 N n x0 x5 x6 x7) h (show (w62TL10 (bodyOf 0 Try.f62) N n x0 x5 x6 x7).all _ from ⟨fun _ => fun _ => fun h => (w62oL10 n) _ _ _ _ h, retp (enc := w62enc) rfl⟩)
def w62TR8 (c : Code) (N : Nat) (n : Nat) (x0 : List UInt8) (x5 : Int) : Tree (Lf EE.T × Option (Int × Int × Int)) :=
  .leaf (.go (w62kL10 c) (w62sL10 x0 x5 0 x5), ref_NumberAt_L10 N n x0 x5 0 x5)
theorem w62vR8 (N : Nat) (n : Nat) (x0 : List UInt8) (x5 : Int) : evM TT EE (w62G N) w62lv w62rs 4000 true (w62kR8 (bodyOf 0 Try.f62)) (w62sR8 x0 x5) = (w62TR8 (bodyOf 0 Try.f62) N n x0 x5).map1 := by kernel_rfl
theorem w62nR8 (N : Nat) (n : Nat) (x0 : List UInt8) (x5 : Int) : ref_NumberAt_R8 N n x0 x5 = (w62TR8 (bodyOf 0 Try.f62) N n x0 x5).run := by kernel_rfl
theorem w62oR8 {N : Nat} {r : Int × Int × Int} (n : Nat) (x0 : List UInt8) (x5 : Int) (h : ref_NumberAt_R8 N n x0 x5 = some r) : Ends (Y := TT) EE (w62G N) w62lv w62rs (fun u => u = w62enc r) (w62kR8 (bodyOf 0 Try.f62)) (w62sR8 x0 x5) :=
  tree_use (w62vR8 N n x0 x5) (w62nR8 N n x0 x5) h (show (w62TR8 (bodyOf 0 Try.f62) N n x0 x5).all _ from fun h => w62oL10 n _ _ _ _ h)
def w62TR4 (c : Code) (N : Nat) (n : Nat) (x0 : List UInt8) (x5 : Int) : Tree (Lf EE.T × Option (Int × Int × Int)) :=
  .cond (x5 == (x0.length : Int))
  (
    .leaf (.done (w62enc (0, 0, 1)), some (0, 0, 1)))
  (
    .cond (x5 == 9)
    (
      .bnd (idxC x0 9) fun z2 =>
      .cond (decide ((b2i z2) > (b2i 1)))
      (
        .leaf (.done (w62enc (0, 0, 3)), some (0, 0, 3)))
      (
        .leaf (.go (w62kR8 c) (w62sR8 x0 x5), ref_NumberAt_R8 N n x0 x5)))
    (
      .leaf (.go (w62kR8 c) (w62sR8 x0 x5), ref_NumberAt_R8 N n x0 x5)))
theorem w62vR4 (N : Nat) (n : Nat) (x0 : List UInt8) (x5 : Int) : evM TT EE (w62G N) w62lv w62rs 4000 true (w62kR4 (bodyOf 0 Try.f62)) (w62sR4 x0 x5) = (w62TR4 (bodyOf 0 Try.f62) N n x0 x5).map1 := by kernel_rfl
theorem w62nR4 (N : Nat) (n : Nat) (x0 : List UInt8) (x5 : Int) : ref_NumberAt_R4 N n x0 x5 = (w62TR4 (bodyOf 0 Try.f62) N n x0 x5).run := by kernel_rfl
theorem w62oR4 {N : Nat} {r : Int × Int × Int} (n : Nat) (x0 : List UInt8) (x5 : Int) (h : ref_NumberAt_R4 N n x0 x5 = some r) : Ends (Y := TT) EE (w62G N) w62lv w62rs (fun u => u = w62enc r) (w62kR4 (bodyOf 0 Try.f62)) (w62sR4 x0 x5) :=
  tree_use (w62vR4 N n x0 x5) (w62nR4 N n x0 x5) h (show (w62TR4 (bodyOf 0 Try.f62) N n x0 x5).all _ from ⟨retp (enc := w62enc) rfl, ⟨fun _ => ⟨retp (enc := w62enc) rfl, fun h => w62oR8 n _ _ h⟩, fun h => w62oR8 n _ _ h⟩⟩)
def w62TL2 (c : Code) (N : Nat) (n : Nat) (x0 : List UInt8) (x5 : Int) : Tree (Lf EE.T × Option (Int × Int × Int)) :=
  .cond (decide (x5 < (x0.length : Int)))
  (
    .bnd (idxC x0 x5) fun z1 =>
    .cond (decide ((b2i z1) ≥ (b2i 128)))
    (
      .cond (decide (x5 < 9))
      (
        .leaf (.go (w62kL2 c) (w62sL2 x0 (w64 (x5 + 1))), ref_NumberAt_L2 N n x0 (w64 (x5 + 1))))
      (
        .leaf (.go (w62kR4 c) (w62sR4 x0 x5), ref_NumberAt_R4 N n x0 x5)))
    (
      .leaf (.go (w62kR4 c) (w62sR4 x0 x5), ref_NumberAt_R4 N n x0 x5)))
  (
    .leaf (.go (w62kR4 c) (w62sR4 x0 x5), ref_NumberAt_R4 N n x0 x5))
theorem w62vL2 (N : Nat) (n : Nat) (x0 : List UInt8) (x5 : Int) : evM TT EE (w62G N) w62lv w62rs 4000 true (w62kL2 (bodyOf 0 Try.f62)) (w62sL2 x0 x5) = (w62TL2 (bodyOf 0 Try.f62) N n x0 x5).map1 := by kernel_rfl
theorem w62nL2 (N : Nat) (n : Nat) (x0 : List UInt8) (x5 : Int) : ref_NumberAt_L2 N (n + 1) x0 x5 = (w62TL2 (bodyOf 0 Try.f62) N n x0 x5).run := by kernel_rfl
theorem w62oL2 {N : Nat} {r : Int × Int × Int} : ∀ (n : Nat) (x0 : List UInt8) (x5 : Int), ref_NumberAt_L2 N n x0 x5 = some r → Ends (Y := TT) EE (w62G N) w62lv w62rs (fun u => u = w62enc r) (w62kL2 (bodyOf 0 Try.f62)) (w62sL2 x0 x5)
  | 0, _, _, h => by cases h
  | n + 1, x0, x5, h => tree_use (w62vL2 N n x0 x5) (w62nL2 N n x0 x5) h (show (w62TL2 (bodyOf 0 Try.f62) N n x0 x5).all _ from ⟨fun _ => ⟨⟨fun h => (w62oL2 n) _ _ h, fun h => w62oR4 n _ _ h⟩, fun h => w62oR4 n _ _ h⟩, fun h => w62oR4 n _ _ h⟩)
def w62TE0 (c : Code) (N : Nat) (x0 : List UInt8) : Tree (Lf EE.T × Option (Int × Int × Int)) :=
  .leaf (.go (w62kL2 c) (w62sL2 x0 0), ref_NumberAt_L2 N N x0 0)
theorem w62vE0 (N : Nat) (x0 : List UInt8) : evM TT EE (w62G N) w62lv w62rs 4000 true (w62kE0 (bodyOf 0 Try.f62)) (w62sE0 x0) = (w62TE0 (bodyOf 0 Try.f62) N x0).map1 := by kernel_rfl
theorem w62nE0 (N : Nat) (x0 : List UInt8) : ref_NumberAt N x0 = (w62TE0 (bodyOf 0 Try.f62) N x0).run := by kernel_rfl
theorem w62oE0 {N : Nat} {r : Int × Int × Int} (x0 : List UInt8) (h : ref_NumberAt N x0 = some r) : Ends (Y := TT) EE (w62G N) w62lv w62rs (fun u => u = w62enc r) (w62kE0 (bodyOf 0 Try.f62)) (w62sE0 x0) :=
  tree_use (w62vE0 N x0) (w62nE0 N x0) h (show (w62TE0 (bodyOf 0 Try.f62) N x0).all _ from fun h => w62oL2 N _ _ h)
theorem ref_NumberAt_ok {N : Nat} (x0 : List UInt8) {r : Int × Int × Int} (h : ref_NumberAt N x0 = some r) (ρ : Nat → Nat) : ACalls Try.prog 62 (([.a (.d .str x0)] : List (TV EE.T)).map (TV.to EE.toEnc ρ)) [] (fun out H => out = .ret ((ref_NumberAt_u r).to EE.toEnc ρ) ∧ H = []) :=
  (fn_ok (bodyOf 0 Try.f62) 51 mixed (w62Gok N) Try.func62 (by kernel_rfl) rfl rfl rfl rfl (w62oE0 x0 h) ρ).mono fun out H h => KPost.ret rfl h
def ref_NumberAt_h (N : Nat) : List (TV EE.T) → PV EE.T
  | [u0] => match argD .str u0 with
    | some x0 => .opt (ref_NumberAt N x0) ref_NumberAt_u
    | _ => .bad
  | _ => .bad
theorem ref_NumberAt_hok (N : Nat) (us : List (TV EE.T)) : (ref_NumberAt_h N us).ok fun u => ∀ ρ, ACalls Try.prog 62 (us.map (TV.to EE.toEnc ρ)) [] (fun out H => out = .ret (u.to EE.toEnc ρ) ∧ H = []) := by
  unfold ref_NumberAt_h
  split
  · split
    · rename_i h0
      intro z hz ρ; refine acalls_le ?_ (ref_NumberAt_ok _ hz ρ); exact ⟨argD_le h0 ρ, trivial⟩
    · trivial
  · trivial
/-! ### gleaner/gleanerref.UnpackOf$1 -/
def ref_UnpackOf_1_i0_u (r : Int × Int × (List UInt8)) : TV EE.T := .a (.d (.int .i64) r.1)
def w63i0hh (i0 : Nat) (i1 : Nat) (r : Int × Int × (List UInt8)) : List (Nat × TB EE.T) := [(i0, .cs [.d (.int .i64) r.2.1]), (i1, .cs [.d .str r.2.2])]
def w63i0enc (r : Int × Int × (List UInt8)) : RL EE.T := .ret (ref_UnpackOf_1_i0_u r) (w63i0hh 100000 100001 r)
def w63i0lv : Lvs := ⟨[], [(5, ⟨[(0, false), (1, false), (2, false), (5, false), (6, false)], [], [(100000, (none, [])), (100001, (none, []))]⟩)], [], [], false, [(100000, (none, [])), (100001, (none, []))], [100000, 100001]⟩
def w63i0rs : List ResultVar := [.tmp 4]
def w63i0G (N : Nat) : Gam EE := ⟨[], EQT, []⟩
theorem w63i0Gok (N : Nat) : GOk Try.prog TT EE (w63i0G N) := GOk.nil EQT_ok
def w63i0kL5 (c : Code) : List It2 := atL 5 c
def w63i0sL5 (x0 : Int) (x5 : Int) (x6 : Int) (b100000_0 : Int) (b100001_0 : List UInt8) : TS EE.T := ⟨32, [(0, .a (.d (.int .i64) x0)), (1, .a (.box 100000 0)), (2, .a (.box 100001 0)), (5, .a (.d (.int .i64) x5)), (6, .a (.d (.int .i64) x6))], [(100000, .cs [.d (.int .i64) b100000_0]), (100001, .cs [.d .str b100001_0])], []⟩
def w63i0kE0 (c : Code) : List It2 := [.c c]
def w63i0sE0 (x0 : Int) (y0_0 : Int) (y1_0 : List UInt8) : TS EE.T := ⟨32, [(0, .a (.d (.int .i64) x0)), (1, .a (.box 100000 0)), (2, .a (.box 100001 0))], [(100000, .cs [.d (.int .i64) y0_0]), (100001, .cs [.d .str y1_0])], []⟩
def w63i0TL5 (c : Code) (N : Nat) (n : Nat) (x0 : Int) (x5 : Int) (x6 : Int) (b100000_0 : Int) (b100001_0 : List UInt8) : Tree (Lf EE.T × Option (Int × Int × (List UInt8))) :=
  .cond (decide (x6 ≥ 0))
  (
    .bnd (idxC b100001_0 (w64 (b100000_0 + x6))) fun z1 =>
    .leaf (.go (w63i0kL5 c) (w63i0sL5 x0 (w64 ((w64 (256 * x5)) + (w64 (b2i z1)))) (w64 (x6 - 1)) b100000_0 b100001_0), ref_UnpackOf_1_i0_L5 N n x0 (w64 ((w64 (256 * x5)) + (w64 (b2i z1)))) (w64 (x6 - 1)) b100000_0 b100001_0))
  (
    .leaf (.done (w63i0enc (x5, w64 (b100000_0 + x0), b100001_0)), some (x5, w64 (b100000_0 + x0), b100001_0)))
theorem w63i0vL5 (N : Nat) (n : Nat) (x0 : Int) (x5 : Int) (x6 : Int) (b100000_0 : Int) (b100001_0 : List UInt8) : evM TT EE (w63i0G N) w63i0lv w63i0rs 4000 true (w63i0kL5 (bodyOf 0 Try.f63)) (w63i0sL5 x0 x5 x6 b100000_0 b100001_0) = (w63i0TL5 (bodyOf 0 Try.f63) N n x0 x5 x6 b100000_0 b100001_0).map1 := by kernel_rfl
theorem w63i0nL5 (N : Nat) (n : Nat) (x0 : Int) (x5 : Int) (x6 : Int) (b100000_0 : Int) (b100001_0 : List UInt8) : ref_UnpackOf_1_i0_L5 N (n + 1) x0 x5 x6 b100000_0 b100001_0 = (w63i0TL5 (bodyOf 0 Try.f63) N n x0 x5 x6 b100000_0 b100001_0).run := by kernel_rfl
theorem w63i0oL5 {N : Nat} {r : Int × Int × (List UInt8)} : ∀ (n : Nat) (x0 : Int) (x5 : Int) (x6 : Int) (b100000_0 : Int) (b100001_0 : List UInt8), ref_UnpackOf_1_i0_L5 N n x0 x5 x6 b100000_0 b100001_0 = some r → Ends (Y := TT) EE (w63i0G N) w63i0lv w63i0rs (fun u => u = w63i0enc r) (w63i0kL5 (bodyOf 0 Try.f63)) (w63i0sL5 x0 x5 x6 b100000_0 b100001_0)
  | 0, _, _, _, _, _, h => by cases h
  | n + 1, x0, x5, x6, b100000_0, b100001_0, h => tree_use (w63i0vL5 N n x0 x5 x6 b100000_0 b100001_0) (w63i0nL5 N n x0 x5 x6 b100000_0 b100001_0) h (show (w63i0TL5 (bodyOf 0 Try.f63) N n x0 x5 x6 b100000_0 b100001_0).all _ from ⟨fun _ => fun h => (w63i0oL5 n) _ _ _ _ _ h, retp (enc := w63i0enc) rfl⟩)
def w63i0TE0 (c : Code) (N : Nat) (x0 : Int) (y0_0 : Int) (y1_0 : List UInt8) : Tree (Lf EE.T × Option (Int × Int × (List UInt8))) :=
  .cond (decide ((w64 (y0_0 + x0)) > (y1_0.length : Int)))
  (
    .leaf (.done (w63i0enc ((-1), y0_0, y1_0)), some ((-1), y0_0, y1_0)))
  (
    .leaf (.go (w63i0kL5 c) (w63i0sL5 x0 0 (w64 (x0 - 1)) y0_0 y1_0), ref_UnpackOf_1_i0_L5 N N x0 0 (w64 (x0 - 1)) y0_0 y1_0))
theorem w63i0vE0 (N : Nat) (x0 : Int) (y0_0 : Int) (y1_0 : List UInt8) : evM TT EE (w63i0G N) w63i0lv w63i0rs 4000 true (w63i0kE0 (bodyOf 0 Try.f63)) (w63i0sE0 x0 y0_0 y1_0) = (w63i0TE0 (bodyOf 0 Try.f63) N x0 y0_0 y1_0).map1 := by kernel_rfl
theorem w63i0nE0 (N : Nat) (x0 : Int) (y0_0 : Int) (y1_0 : List UInt8) : ref_UnpackOf_1_i0 N x0 y0_0 y1_0 = (w63i0TE0 (bodyOf 0 Try.f63) N x0 y0_0 y1_0).run := by kernel_rfl
theorem w63i0oE0 {N : Nat} {r : Int × Int × (List UInt8)} (x0 : Int) (y0_0 : Int) (y1_0 : List UInt8) (h : ref_UnpackOf_1_i0 N x0 y0_0 y1_0 = some r) : Ends (Y := TT) EE (w63i0G N) w63i0lv w63i0rs (fun u => u = w63i0enc r) (w63i0kE0 (bodyOf 0 Try.f63)) (w63i0sE0 x0 y0_0 y1_0) :=
  tree_use (w63i0vE0 N x0 y0_0 y1_0) (w63i0nE0 N x0 y0_0 y1_0) h (show (w63i0TE0 (bodyOf 0 Try.f63) N x0 y0_0 y1_0).all _ from ⟨retp (enc := w63i0enc) rfl, fun h => w63i0oL5 N _ _ _ _ _ h⟩)
def w63i0us (x0 : Int) (y0_0 : Int) (y1_0 : List UInt8) : List (TV EE.T) := [.a (.d (.int .i64) x0), .a (.box 100000 0), .a (.box 100001 0)]
def w63i0h0 (x0 : Int) (y0_0 : Int) (y1_0 : List UInt8) : List (Nat × TB EE.T) := [(100000, .cs [.d (.int .i64) y0_0]), (100001, .cs [.d .str y1_0])]
theorem ref_UnpackOf_1_i0_ok {N : Nat} (x0 : Int) (y0_0 : Int) (y1_0 : List UInt8) {r : Int × Int × (List UInt8)} (h : ref_UnpackOf_1_i0 N x0 y0_0 y1_0 = some r) (ρ : Nat → Nat) (hi : Inj ρ (w63i0h0 x0 y0_0 y1_0)) : ACalls Try.prog 63 ((w63i0us x0 y0_0 y1_0).map (TV.to EE.toEnc ρ)) (hTo EE.toEnc ρ (w63i0h0 x0 y0_0 y1_0)) (fun out H => out = .ret ((ref_UnpackOf_1_i0_u r).to EE.toEnc ρ) ∧ H = hTo EE.toEnc ρ (w63i0hh 100000 100001 r)) :=
  (fn_okH (bodyOf 0 Try.f63) 32 mixed (w63i0Gok N) Try.func63 (by kernel_rfl) rfl rfl rfl rfl (w63i0oE0 x0 y0_0 y1_0 h) ρ hi).mono fun out H h => KPost.retH rfl rfl h
def ref_UnpackOf_1_i0_h (N : Nat) (us : List (TV EE.T)) (hs : List (Nat × TB EE.T)) : XR EE.T :=
  gdX (lenX us 3) <|
  bnX (aD (.int .i64) us 0) fun x0 =>
  bnX (aB us 1) fun i0 =>
  bnX (aB us 2) fun i1 =>
  bnX (bC hs i0) fun l0 =>
  gdX (lenX l0 1) <|
  bnX (cD (.int .i64) l0 0) fun y0_0 =>
  bnX (bC hs i1) fun l1 =>
  gdX (lenX l1 1) <|
  bnX (cD .str l1 0) fun y1_0 =>
  gdX (goodIds hs [i0, i1]) <|
  .ret (ref_UnpackOf_1_i0 N x0 y0_0 y1_0) [i0, i1] ref_UnpackOf_1_i0_u (w63i0hh i0 i1)
theorem ref_UnpackOf_1_i0_hok (N : Nat) : XOk Try.prog EE 63 (ref_UnpackOf_1_i0_h N) := fun us hs =>
  gdX_ok fun h1 => bnX_ok fun x0 h2 => bnX_ok fun i0 h3 => bnX_ok fun i1 h4 => bnX_ok fun l0 h5 => gdX_ok fun h6 => bnX_ok fun y0_0 h7 => bnX_ok fun l1 h8 => gdX_ok fun h9 => bnX_ok fun y1_0 h10 => gdX_ok fun h11 => fun z hz => ⟨rfl, fun ρ hi => xcall (us' := w63i0us x0 y0_0 y1_0) (h0 := w63i0h0 x0 y0_0 y1_0) (ρ' := rhoS ρ [i0, i1]) ⟨aD_le h2, aB_le h3 (by kernel_rfl), aB_le h4 (by kernel_rfl), lenX_ok h1⟩ ⟨(by kernel_rfl), bC_le h5 ⟨cD_le h7, lenX_ok h6⟩, (by kernel_rfl), bC_le h8 ⟨cD_le h10, lenX_ok h9⟩, trivial⟩ (ref_UnpackOf_1_i0_ok x0 y0_0 y1_0 hz _ (rhoS_inj hi h11 _ (by kernel_rfl))) (fun out H h => ⟨h.1.trans (by kernel_rfl), h.2.trans (by kernel_rfl)⟩)⟩
/-! ### gleaner/gleanerref.UnpackOf -/
def ref_UnpackOf_u (r : (List UInt8) × Int) : TV EE.T := .tu [.a (.d .str r.1), .a (.d (.int .i64) r.2)]
def w31enc (r : (List UInt8) × Int) : RL EE.T := .ret (ref_UnpackOf_u r) []
def w31lv : Lvs := ⟨[(19, ⟨[(2, false), (7, false), (9, false), (10, false), (11, false), (14, false)], [], [(2, (none, [])), (7, (none, []))]⟩), (37, ⟨[(2, false), (7, false), (9, false), (10, false), (11, false), (16, false), (17, false)], [], [(2, (none, [])), (7, (none, []))]⟩)], [(11, ⟨[(2, false), (7, false), (9, false), (10, false), (11, false)], [], [(2, (none, [])), (7, (none, []))]⟩), (22, ⟨[(2, false), (7, false), (9, false), (10, false), (11, false), (14, false), (15, false)], [], [(2, (none, [])), (7, (none, []))]⟩), (40, ⟨[(2, false), (7, false), (9, false), (10, false), (11, false), (16, false), (17, false), (18, false)], [], [(2, (none, [])), (7, (none, []))]⟩)], [19, 37], [], false, [], []⟩
def w31rs : List ResultVar := [.tmp 4, .tmp 5]
def w31G (N : Nat) : Gam EE := ⟨[⟨62, ref_NumberAt_h N⟩], EQT, [⟨63, ref_UnpackOf_1_i0_h N⟩]⟩
theorem w31Gok (N : Nat) : GOk Try.prog TT EE (w31G N) := GOk.cons (ref_NumberAt_hok N) (GOk.consx (ref_UnpackOf_1_i0_hok N) (GOk.nil EQT_ok))
def w31kL22 (c : Code) : List It2 := atL 22 c
def w31sL22 (x9 : Int) (x10 : List UInt8) (x14 : Int) (x15 : Int) (b2_0 : List UInt8) (b7_0 : Int) : TS EE.T := ⟨162, [(2, .a (.box 2 0)), (7, .a (.box 7 0)), (9, .a (.d (.int .i64) x9)), (10, .a (.own .byte x10)), (11, .fn 63 [.box 7 0, .box 2 0]), (14, .a (.d (.int .i64) x14)), (15, .a (.d (.int .i64) x15))], [(2, .cs [.d .str b2_0]), (7, .cs [.d (.int .i64) b7_0])], []⟩
def w31kR19 (c : Code) : List It2 := atR 19 c
def w31sR19 (x9 : Int) (x10 : List UInt8) (x14 : Int) (b2_0 : List UInt8) (b7_0 : Int) : TS EE.T := ⟨162, [(2, .a (.box 2 0)), (7, .a (.box 7 0)), (9, .a (.d (.int .i64) x9)), (10, .a (.own .byte x10)), (11, .fn 63 [.box 7 0, .box 2 0]), (14, .a (.d (.int .i64) x14))], [(2, .cs [.d .str b2_0]), (7, .cs [.d (.int .i64) b7_0])], []⟩
def w31kL40 (c : Code) : List It2 := atL 40 c
def w31sL40 (x9 : Int) (x10 : List UInt8) (x16 : Int) (x17 : Int) (x18 : Int) (b2_0 : List UInt8) (b7_0 : Int) : TS EE.T := ⟨162, [(2, .a (.box 2 0)), (7, .a (.box 7 0)), (9, .a (.d (.int .i64) x9)), (10, .a (.own .byte x10)), (11, .fn 63 [.box 7 0, .box 2 0]), (16, .a (.d (.int .i64) x16)), (17, .a (.d (.int .i64) x17)), (18, .a (.d (.int .i64) x18))], [(2, .cs [.d .str b2_0]), (7, .cs [.d (.int .i64) b7_0])], []⟩
def w31kR37 (c : Code) : List It2 := atR 37 c
def w31sR37 (x9 : Int) (x10 : List UInt8) (x16 : Int) (x17 : Int) (b2_0 : List UInt8) (b7_0 : Int) : TS EE.T := ⟨162, [(2, .a (.box 2 0)), (7, .a (.box 7 0)), (9, .a (.d (.int .i64) x9)), (10, .a (.own .byte x10)), (11, .fn 63 [.box 7 0, .box 2 0]), (16, .a (.d (.int .i64) x16)), (17, .a (.d (.int .i64) x17))], [(2, .cs [.d .str b2_0]), (7, .cs [.d (.int .i64) b7_0])], []⟩
def w31kL11 (c : Code) : List It2 := atL 11 c
def w31sL11 (x9 : Int) (x10 : List UInt8) (b2_0 : List UInt8) (b7_0 : Int) : TS EE.T := ⟨162, [(2, .a (.box 2 0)), (7, .a (.box 7 0)), (9, .a (.d (.int .i64) x9)), (10, .a (.own .byte x10)), (11, .fn 63 [.box 7 0, .box 2 0])], [(2, .cs [.d .str b2_0]), (7, .cs [.d (.int .i64) b7_0])], []⟩
def w31kE0 (c : Code) : List It2 := [.c c]
def w31sE0 (x0 : List UInt8) (x1 : Int) : TS EE.T := ⟨162, [(0, .a (.d .str x0)), (1, .a (.d (.int .i64) x1))], [], []⟩
def w31TL22 (c : Code) (N : Nat) (k11 : Int → (List UInt8) → (List UInt8) → Int → Option ((List UInt8) × Int)) (n : Nat) (x9 : Int) (x10 : List UInt8) (x14 : Int) (x15 : Int) (b2_0 : List UInt8) (b7_0 : Int) : Tree (Lf EE.T × Option ((List UInt8) × Int)) :=
  .cond (decide (x15 ≤ x14))
  (
    .bnd (idxC b2_0 (w64 (b7_0 + x15))) fun z12 =>
    .bnd (appC 1 x10 ([z12] : List UInt8)) fun z13 =>
    .leaf (.go (w31kL22 c) (w31sL22 x9 z13 x14 (w64 (x15 + 1)) b2_0 b7_0), ref_UnpackOf_L22 N k11 n x9 z13 x14 (w64 (x15 + 1)) b2_0 b7_0))
  (
    .leaf (.go (w31kL11 c) (w31sL11 x9 x10 b2_0 (w64 (b7_0 + (w64 (x14 + 1))))), k11 x9 x10 b2_0 (w64 (b7_0 + (w64 (x14 + 1))))))
theorem w31vL22 (N : Nat) (k11 : Int → (List UInt8) → (List UInt8) → Int → Option ((List UInt8) × Int)) (n : Nat) (x9 : Int) (x10 : List UInt8) (x14 : Int) (x15 : Int) (b2_0 : List UInt8) (b7_0 : Int) : evM TT EE (w31G N) w31lv w31rs 4000 true (w31kL22 (bodyOf 0 Try.f31)) (w31sL22 x9 x10 x14 x15 b2_0 b7_0) = (w31TL22 (bodyOf 0 Try.f31) N k11 n x9 x10 x14 x15 b2_0 b7_0).map1 := by kernel_rfl
theorem w31nL22 (N : Nat) (k11 : Int → (List UInt8) → (List UInt8) → Int → Option ((List UInt8) × Int)) (n : Nat) (x9 : Int) (x10 : List UInt8) (x14 : Int) (x15 : Int) (b2_0 : List UInt8) (b7_0 : Int) : ref_UnpackOf_L22 N k11 (n + 1) x9 x10 x14 x15 b2_0 b7_0 = (w31TL22 (bodyOf 0 Try.f31) N k11 n x9 x10 x14 x15 b2_0 b7_0).run := by kernel_rfl
theorem w31oL22 {N : Nat} {r : (List UInt8) × Int} {k11 : Int → (List UInt8) → (List UInt8) → Int → Option ((List UInt8) × Int)} (hk11 : ∀ x9 x10 b2_0 b7_0, k11 x9 x10 b2_0 b7_0 = some r → Ends (Y := TT) EE (w31G N) w31lv w31rs (fun u => u = w31enc r) (w31kL11 (bodyOf 0 Try.f31)) (w31sL11 x9 x10 b2_0 b7_0)) : ∀ (n : Nat) (x9 : Int) (x10 : List UInt8) (x14 : Int) (x15 : Int) (b2_0 : List UInt8) (b7_0 : Int), ref_UnpackOf_L22 N k11 n x9 x10 x14 x15 b2_0 b7_0 = some r → Ends (Y := TT) EE (w31G N) w31lv w31rs (fun u => u = w31enc r) (w31kL22 (bodyOf 0 Try.f31)) (w31sL22 x9 x10 x14 x15 b2_0 b7_0)
  | 0, _, _, _, _, _, _, h => by cases h
  | n + 1, x9, x10, x14, x15, b2_0, b7_0, h => tree_use (w31vL22 N k11 n x9 x10 x14 x15 b2_0 b7_0) (w31nL22 N k11 n x9 x10 x14 x15 b2_0 b7_0) h (show (w31TL22 (bodyOf 0 Try.f31) N k11 n x9 x10 x14 x15 b2_0 b7_0).all _ from ⟨fun _ => fun _ => fun h => (w31oL22 hk11 n) _ _ _ _ _ _ h, fun h => hk11 _ _ _ _ h⟩)
def w31TR19 (c : Code) (N : Nat) (k11 : Int → (List UInt8) → (List UInt8) → Int → Option ((List UInt8) × Int)) (n : Nat) (x9 : Int) (x10 : List UInt8) (x14 : Int) (b2_0 : List UInt8) (b7_0 : Int) : Tree (Lf EE.T × Option ((List UInt8) × Int)) :=
  .cond (decide (x14 < 0))
  (
    .leaf (.done (w31enc (([] : List UInt8), 1)), some (([] : List UInt8), 1)))
  (
    .cond (decide ((w64 ((w64 (b7_0 + x14)) + 1)) > (b2_0.length : Int)))
    (
      .leaf (.done (w31enc (([] : List UInt8), 1)), some (([] : List UInt8), 1)))
    (
      .cond (decide ((w64 ((w64 ((x10.length : Int) + x14)) + 1)) > x9))
      (
        .leaf (.done (w31enc (([] : List UInt8), 1)), some (([] : List UInt8), 1)))
      (
        .leaf (.go (w31kL22 c) (w31sL22 x9 x10 x14 0 b2_0 b7_0), ref_UnpackOf_L22 N k11 n x9 x10 x14 0 b2_0 b7_0))))
theorem w31vR19 (N : Nat) (k11 : Int → (List UInt8) → (List UInt8) → Int → Option ((List UInt8) × Int)) (n : Nat) (x9 : Int) (x10 : List UInt8) (x14 : Int) (b2_0 : List UInt8) (b7_0 : Int) : evM TT EE (w31G N) w31lv w31rs 4000 true (w31kR19 (bodyOf 0 Try.f31)) (w31sR19 x9 x10 x14 b2_0 b7_0) = (w31TR19 (bodyOf 0 Try.f31) N k11 n x9 x10 x14 b2_0 b7_0).map1 := by kernel_rfl
theorem w31nR19 (N : Nat) (k11 : Int → (List UInt8) → (List UInt8) → Int → Option ((List UInt8) × Int)) (n : Nat) (x9 : Int) (x10 : List UInt8) (x14 : Int) (b2_0 : List UInt8) (b7_0 : Int) : ref_UnpackOf_R19 N k11 n x9 x10 x14 b2_0 b7_0 = (w31TR19 (bodyOf 0 Try.f31) N k11 n x9 x10 x14 b2_0 b7_0).run := by kernel_rfl
theorem w31oR19 {N : Nat} {r : (List UInt8) × Int} {k11 : Int → (List UInt8) → (List UInt8) → Int → Option ((List UInt8) × Int)} (hk11 : ∀ x9 x10 b2_0 b7_0, k11 x9 x10 b2_0 b7_0 = some r → Ends (Y := TT) EE (w31G N) w31lv w31rs (fun u => u = w31enc r) (w31kL11 (bodyOf 0 Try.f31)) (w31sL11 x9 x10 b2_0 b7_0)) (n : Nat) (x9 : Int) (x10 : List UInt8) (x14 : Int) (b2_0 : List UInt8) (b7_0 : Int) (h : ref_UnpackOf_R19 N k11 n x9 x10 x14 b2_0 b7_0 = some r) : Ends (Y := TT) EE (w31G N) w31lv w31rs (fun u => u = w31enc r) (w31kR19 (bodyOf 0 Try.f31)) (w31sR19 x9 x10 x14 b2_0 b7_0) :=
  tree_use (w31vR19 N k11 n x9 x10 x14 b2_0 b7_0) (w31nR19 N k11 n x9 x10 x14 b2_0 b7_0) h (show (w31TR19 (bodyOf 0 Try.f31) N k11 n x9 x10 x14 b2_0 b7_0).all _ from ⟨retp (enc := w31enc) rfl, ⟨retp (enc := w31enc) rfl, ⟨retp (enc := w31enc) rfl, fun h => w31oL22 hk11 n _ _ _ _ _ _ h⟩⟩⟩)
def w31TL40 (c : Code) (N : Nat) (k11 : Int → (List UInt8) → (List UInt8) → Int → Option ((List UInt8) × Int)) (n : Nat) (x9 : Int) (x10 : List UInt8) (x16 : Int) (x17 : Int) (x18 : Int) (b2_0 : List UInt8) (b7_0 : Int) : Tree (Lf EE.T × Option ((List UInt8) × Int)) :=
  .cond (decide (x18 < x16))
  (
    .bnd (idxC x10 (w64 ((x10.length : Int) - x17))) fun z14 =>
    .bnd (appC 1 x10 ([z14] : List UInt8)) fun z15 =>
    .leaf (.go (w31kL40 c) (w31sL40 x9 z15 x16 x17 (w64 (x18 + 1)) b2_0 b7_0), ref_UnpackOf_L40 N k11 n x9 z15 x16 x17 (w64 (x18 + 1)) b2_0 b7_0))
  (
    .leaf (.go (w31kL11 c) (w31sL11 x9 x10 b2_0 b7_0), k11 x9 x10 b2_0 b7_0))
theorem w31vL40 (N : Nat) (k11 : Int → (List UInt8) → (List UInt8) → Int → Option ((List UInt8) × Int)) (n : Nat) (x9 : Int) (x10 : List UInt8) (x16 : Int) (x17 : Int) (x18 : Int) (b2_0 : List UInt8) (b7_0 : Int) : evM TT EE (w31G N) w31lv w31rs 4000 true (w31kL40 (bodyOf 0 Try.f31)) (w31sL40 x9 x10 x16 x17 x18 b2_0 b7_0) = (w31TL40 (bodyOf 0 Try.f31) N k11 n x9 x10 x16 x17 x18 b2_0 b7_0).map1 := by kernel_rfl
theorem w31nL40 (N : Nat) (k11 : Int → (List UInt8) → (List UInt8) → Int → Option ((List UInt8) × Int)) (n : Nat) (x9 : Int) (x10 : List UInt8) (x16 : Int) (x17 : Int) (x18 : Int) (b2_0 : List UInt8) (b7_0 : Int) : ref_UnpackOf_L40 N k11 (n + 1) x9 x10 x16 x17 x18 b2_0 b7_0 = (w31TL40 (bodyOf 0 Try.f31) N k11 n x9 x10 x16 x17 x18 b2_0 b7_0).run := by kernel_rfl
theorem w31oL40 {N : Nat} {r : (List UInt8) × Int} {k11 : Int → (List UInt8) → (List UInt8) → Int → Option ((List UInt8) × Int)} (hk11 : ∀ x9 x10 b2_0 b7_0, k11 x9 x10 b2_0 b7_0 = some r → Ends (Y := TT) EE (w31G N) w31lv w31rs (fun u => u = w31enc r) (w31kL11 (bodyOf 0 Try.f31)) (w31sL11 x9 x10 b2_0 b7_0)) : ∀ (n : Nat) (x9 : Int) (x10 : List UInt8) (x16 : Int) (x17 : Int) (x18 : Int) (b2_0 : List UInt8) (b7_0 : Int), ref_UnpackOf_L40 N k11 n x9 x10 x16 x17 x18 b2_0 b7_0 = some r → Ends (Y := TT) EE (w31G N) w31lv w31rs (fun u => u = w31enc r) (w31kL40 (bodyOf 0 Try.f31)) (w31sL40 x9 x10 x16 x17 x18 b2_0 b7_0)
  | 0, _, _, _, _, _, _, _, h => by cases h
  | n + 1, x9, x10, x16, x17, x18, b2_0, b7_0, h => tree_use (w31vL40 N k11 n x9 x10 x16 x17 x18 b2_0 b7_0) (w31nL40 N k11 n x9 x10 x16 x17 x18 b2_0 b7_0) h (show (w31TL40 (bodyOf 0 Try.f31) N k11 n x9 x10 x16 x17 x18 b2_0 b7_0).all _ from ⟨fun _ => fun _ => fun h => (w31oL40 hk11 n) _ _ _ _ _ _ _ h, fun h => hk11 _ _ _ _ h⟩)
def w31TR37 (c : Code) (N : Nat) (k11 : Int → (List UInt8) → (List UInt8) → Int → Option ((List UInt8) × Int)) (n : Nat) (x9 : Int) (x10 : List UInt8) (x16 : Int) (x17 : Int) (b2_0 : List UInt8) (b7_0 : Int) : Tree (Lf EE.T × Option ((List UInt8) × Int)) :=
  .cond (decide (x17 < 1))
  (
    .leaf (.done (w31enc (([] : List UInt8), 1)), some (([] : List UInt8), 1)))
  (
    .cond (decide (x17 > (x10.length : Int)))
    (
      .leaf (.done (w31enc (([] : List UInt8), 1)), some (([] : List UInt8), 1)))
    (
      .cond (decide ((w64 ((x10.length : Int) + x16)) > x9))
      (
        .leaf (.done (w31enc (([] : List UInt8), 1)), some (([] : List UInt8), 1)))
      (
        .leaf (.go (w31kL40 c) (w31sL40 x9 x10 x16 x17 0 b2_0 b7_0), ref_UnpackOf_L40 N k11 n x9 x10 x16 x17 0 b2_0 b7_0))))
theorem w31vR37 (N : Nat) (k11 : Int → (List UInt8) → (List UInt8) → Int → Option ((List UInt8) × Int)) (n : Nat) (x9 : Int) (x10 : List UInt8) (x16 : Int) (x17 : Int) (b2_0 : List UInt8) (b7_0 : Int) : evM TT EE (w31G N) w31lv w31rs 4000 true (w31kR37 (bodyOf 0 Try.f31)) (w31sR37 x9 x10 x16 x17 b2_0 b7_0) = (w31TR37 (bodyOf 0 Try.f31) N k11 n x9 x10 x16 x17 b2_0 b7_0).map1 := by kernel_rfl
theorem w31nR37 (N : Nat) (k11 : Int → (List UInt8) → (List UInt8) → Int → Option ((List UInt8) × Int)) (n : Nat) (x9 : Int) (x10 : List UInt8) (x16 : Int) (x17 : Int) (b2_0 : List UInt8) (b7_0 : Int) : ref_UnpackOf_R37 N k11 n x9 x10 x16 x17 b2_0 b7_0 = (w31TR37 (bodyOf 0 Try.f31) N k11 n x9 x10 x16 x17 b2_0 b7_0).run := by kernel_rfl
theorem w31oR37 {N : Nat} {r : (List UInt8) × Int} {k11 : Int → (List UInt8) → (List UInt8) → Int → Option ((List UInt8) × Int)} (hk11 : ∀ x9 x10 b2_0 b7_0, k11 x9 x10 b2_0 b7_0 = some r → Ends (Y := TT) EE (w31G N) w31lv w31rs (fun u => u = w31enc r) (w31kL11 (bodyOf 0 Try.f31)) (w31sL11 x9 x10 b2_0 b7_0)) (n : Nat) (x9 : Int) (x10 : List UInt8) (x16 : Int) (x17 : Int) (b2_0 : List UInt8) (b7_0 : Int) (h : ref_UnpackOf_R37 N k11 n x9 x10 x16 x17 b2_0 b7_0 = some r) : Ends (Y := TT) EE (w31G N) w31lv w31rs (fun u => u = w31enc r) (w31kR37 (bodyOf 0 Try.f31)) (w31sR37 x9 x10 x16 x17 b2_0 b7_0) :=
  tree_use (w31vR37 N k11 n x9 x10 x16 x17 b2_0 b7_0) (w31nR37 N k11 n x9 x10 x16 x17 b2_0 b7_0) h (show (w31TR37 (bodyOf 0 Try.f31) N k11 n x9 x10 x16 x17 b2_0 b7_0).all _ from ⟨retp (enc := w31enc) rfl, ⟨retp (enc := w31enc) rfl, ⟨retp (enc := w31enc) rfl, fun h => w31oL40 hk11 n _ _ _ _ _ _ _ h⟩⟩⟩)
def w31TL11 (c : Code) (N : Nat) (n : Nat) (x9 : Int) (x10 : List UInt8) (b2_0 : List UInt8) (b7_0 : Int) : Tree (Lf EE.T × Option ((List UInt8) × Int)) :=
  .cond (decide (b7_0 < (b2_0.length : Int)))
  (
    .bnd (idxC b2_0 b7_0) fun z2 =>
    .bnd (quoC .i64 (w64 (b2i z2)) 4) fun z3 =>
    .bnd (remC (w64 (b2i z2)) 4) fun z4 =>
    .cond (z4 == 0)
    (
      .cond (decide (z3 ≥ 60))
      (
        .bnd (ref_UnpackOf_1_i0 N (w64 (z3 - 59)) (w64 (b7_0 + 1)) b2_0) fun z5 =>
        .leaf (.go (w31kR19 c) (w31sR19 x9 x10 z5.1 z5.2.2 z5.2.1), ref_UnpackOf_R19 N (ref_UnpackOf_L11 N n) n x9 x10 z5.1 z5.2.2 z5.2.1))
      (
        .leaf (.go (w31kR19 c) (w31sR19 x9 x10 z3 b2_0 (w64 (b7_0 + 1))), ref_UnpackOf_R19 N (ref_UnpackOf_L11 N n) n x9 x10 z3 b2_0 (w64 (b7_0 + 1)))))
    (
      .bnd (remC (w64 (b2i z2)) 4) fun z6 =>
      .cond (z6 == 1)
      (
        .bnd (remC z3 8) fun z7 =>
        .bnd (ref_UnpackOf_1_i0 N 1 (w64 (b7_0 + 1)) b2_0) fun z8 =>
        .cond (decide (z8.1 ≥ 0))
        (
          .bnd (quoC .i64 z3 8) fun z9 =>
          .leaf (.go (w31kR37 c) (w31sR37 x9 x10 (w64 (z7 + 4)) (w64 (z8.1 + (w64 (z9 * 256)))) z8.2.2 z8.2.1), ref_UnpackOf_R37 N (ref_UnpackOf_L11 N n) n x9 x10 (w64 (z7 + 4)) (w64 (z8.1 + (w64 (z9 * 256)))) z8.2.2 z8.2.1))
        (
          .leaf (.go (w31kR37 c) (w31sR37 x9 x10 (w64 (z7 + 4)) z8.1 z8.2.2 z8.2.1), ref_UnpackOf_R37 N (ref_UnpackOf_L11 N n) n x9 x10 (w64 (z7 + 4)) z8.1 z8.2.2 z8.2.1)))
      (
        .cond (z6 == 2)
        (
          .bnd (ref_UnpackOf_1_i0 N 2 (w64 (b7_0 + 1)) b2_0) fun z10 =>
          .leaf (.go (w31kR37 c) (w31sR37 x9 x10 (w64 (z3 + 1)) z10.1 z10.2.2 z10.2.1), ref_UnpackOf_R37 N (ref_UnpackOf_L11 N n) n x9 x10 (w64 (z3 + 1)) z10.1 z10.2.2 z10.2.1))
        (
          .cond (z6 == 3)
          (
            .bnd (ref_UnpackOf_1_i0 N 4 (w64 (b7_0 + 1)) b2_0) fun z11 =>
            .leaf (.go (w31kR37 c) (w31sR37 x9 x10 (w64 (z3 + 1)) z11.1 z11.2.2 z11.2.1), ref_UnpackOf_R37 N (ref_UnpackOf_L11 N n) n x9 x10 (w64 (z3 + 1)) z11.1 z11.2.2 z11.2.1))
          (
            .leaf (.go (w31kR37 c) (w31sR37 x9 x10 (w64 (z3 + 1)) (-1) b2_0 (w64 (b7_0 + 1))), ref_UnpackOf_R37 N (ref_UnpackOf_L11 N n) n x9 x10 (w64 (z3 + 1)) (-1) b2_0 (w64 (b7_0 + 1))))))))
  (
    .cond ((x10.length : Int) != x9)
    (
      .leaf (.done (w31enc (([] : List UInt8), 1)), some (([] : List UInt8), 1)))
    (
      .leaf (.done (w31enc (x10, 0)), some (x10, 0))))
theorem w31vL11 (N : Nat) (n : Nat) (x9 : Int) (x10 : List UInt8) (b2_0 : List UInt8) (b7_0 : Int) : evM TT EE (w31G N) w31lv w31rs 4000 true (w31kL11 (bodyOf 0 Try.f31)) (w31sL11 x9 x10 b2_0 b7_0) = (w31TL11 (bodyOf 0 Try.f31) N n x9 x10 b2_0 b7_0).map1 := by kernel_rfl
theorem w31nL11 (N : Nat) (n : Nat) (x9 : Int) (x10 : List UInt8) (b2_0 : List UInt8) (b7_0 : Int) : ref_UnpackOf_L11 N (n + 1) x9 x10 b2_0 b7_0 = (w31TL11 (bodyOf 0 Try.f31) N n x9 x10 b2_0 b7_0).run := by kernel_rfl
theorem w31oL11 {N : Nat} {r : (List UInt8) × Int} : ∀ (n : Nat) (x9 : Int) (x10 : List UInt8) (b2_0 : List UInt8) (b7_0 : Int), ref_UnpackOf_L11 N n x9 x10 b2_0 b7_0 = some r → Ends (Y := TT) EE (w31G N) w31lv w31rs (fun u => u = w31enc r) (w31kL11 (bodyOf 0 Try.f31)) (w31sL11 x9 x10 b2_0 b7_0)
  | 0, _, _, _, _, h => by cases h
  | n + 1, x9, x10, b2_0, b7_0, h => tree_use (w31vL11 N n x9 x10 b2_0 b7_0) (w31nL11 N n x9 x10 b2_0 b7_0) h (show (w31TL11 (bodyOf 0 Try.f31) N n x9 x10 b2_0 b7_0).all _ from ⟨fun _ => fun _ => fun _ => ⟨⟨fun _ => fun h => w31oR19 (w31oL11 n) n _ _ _ _ _ h, fun h => w31oR19 (w31oL11 n) n _ _ _ _ _ h⟩, fun _ => ⟨fun _ => fun _ => ⟨fun _ => fun h => w31oR37 (w31oL11 n) n _ _ _ _ _ _ h, fun h => w31oR37 (w31oL11 n) n _ _ _ _ _ _ h⟩, ⟨fun _ => fun h => w31oR37 (w31oL11 n) n _ _ _ _ _ _ h, ⟨fun _ => fun h => w31oR37 (w31oL11 n) n _ _ _ _ _ _ h, fun h => w31oR37 (w31oL11 n) n _ _ _ _ _ _ h⟩⟩⟩⟩, ⟨retp (enc := w31enc) rfl, retp (enc := w31enc) rfl⟩⟩)
def w31TE0 (c : Code) (N : Nat) (x0 : List UInt8) (x1 : Int) : Tree (Lf EE.T × Option ((List UInt8) × Int)) :=
  .cond (decide (x1 < 0))
  (
    .leaf (.done (w31enc (([] : List UInt8), 3)), some (([] : List UInt8), 3)))
  (
    .cond (decide (x1 > 20000))
    (
      .leaf (.done (w31enc (([] : List UInt8), 3)), some (([] : List UInt8), 3)))
    (
      .bnd (ref_NumberAt N x0) fun z1 =>
      .cond (z1.2.2 != 0)
      (
        .leaf (.done (w31enc (([] : List UInt8), 1)), some (([] : List UInt8), 1)))
      (
        .cond (decide (z1.1 > (IntKind.wrap .u64 x1)))
        (
          .leaf (.done (w31enc (([] : List UInt8), 2)), some (([] : List UInt8), 2)))
        (
          .leaf (.go (w31kL11 c) (w31sL11 (w64 z1.1) ([] : List UInt8) x0 z1.2.1), ref_UnpackOf_L11 N N (w64 z1.1) ([] : List UInt8) x0 z1.2.1)))))
theorem w31vE0 (N : Nat) (x0 : List UInt8) (x1 : Int) : evM TT EE (w31G N) w31lv w31rs 4000 true (w31kE0 (bodyOf 0 Try.f31)) (w31sE0 x0 x1) = (w31TE0 (bodyOf 0 Try.f31) N x0 x1).map1 := by kernel_rfl
theorem w31nE0 (N : Nat) (x0 : List UInt8) (x1 : Int) : ref_UnpackOf N x0 x1 = (w31TE0 (bodyOf 0 Try.f31) N x0 x1).run := by kernel_rfl
theorem w31oE0 {N : Nat} {r : (List UInt8) × Int} (x0 : List UInt8) (x1 : Int) (h : ref_UnpackOf N x0 x1 = some r) : Ends (Y := TT) EE (w31G N) w31lv w31rs (fun u => u = w31enc r) (w31kE0 (bodyOf 0 Try.f31)) (w31sE0 x0 x1) :=
  tree_use (w31vE0 N x0 x1) (w31nE0 N x0 x1) h (show (w31TE0 (bodyOf 0 Try.f31) N x0 x1).all _ from ⟨retp (enc := w31enc) rfl, ⟨retp (enc := w31enc) rfl, fun _ => ⟨retp (enc := w31enc) rfl, ⟨retp (enc := w31enc) rfl, fun h => w31oL11 N _ _ _ _ h⟩⟩⟩⟩)
theorem ref_UnpackOf_ok {N : Nat} (x0 : List UInt8) (x1 : Int) {r : (List UInt8) × Int} (h : ref_UnpackOf N x0 x1 = some r) (ρ : Nat → Nat) : ACalls Try.prog 31 (([.a (.d .str x0), .a (.d (.int .i64) x1)] : List (TV EE.T)).map (TV.to EE.toEnc ρ)) [] (fun out H => out = .ret ((ref_UnpackOf_u r).to EE.toEnc ρ) ∧ H = []) :=
  (fn_ok (bodyOf 0 Try.f31) 162 mixed (w31Gok N) Try.func31 (by kernel_rfl) rfl rfl rfl rfl (w31oE0 x0 x1 h) ρ).mono fun out H h => KPost.ret rfl h
def ref_UnpackOf_h (N : Nat) : List (TV EE.T) → PV EE.T
  | [u0, u1] => match argD .str u0, argD (.int .i64) u1 with
    | some x0, some x1 => .opt (ref_UnpackOf N x0 x1) ref_UnpackOf_u
    | _, _ => .bad
  | _ => .bad
theorem ref_UnpackOf_hok (N : Nat) (us : List (TV EE.T)) : (ref_UnpackOf_h N us).ok fun u => ∀ ρ, ACalls Try.prog 31 (us.map (TV.to EE.toEnc ρ)) [] (fun out H => out = .ret (u.to EE.toEnc ρ) ∧ H = []) := by
  unfold ref_UnpackOf_h
  split
  · split
    · rename_i h0 h1
      intro z hz ρ; refine acalls_le ?_ (ref_UnpackOf_ok _ _ hz ρ); exact ⟨argD_le h0 ρ, argD_le h1 ρ, trivial⟩
    · trivial
  · trivial
/-! ### gleaner/gleanerlaw.ShardNexts -/
def law_ShardNexts_u (r : Bool) : TV EE.T := .a (.d .bool r)
def w8enc (r : Bool) : RL EE.T := .ret (law_ShardNexts_u r) []
def w8lv : Lvs := ⟨[(4, ⟨[(5, false), (6, false), (7, false), (8, false)], [], []⟩)], [], [4], [], false, [], []⟩
def w8rs : List ResultVar := [.tmp 4]
def w8G (N : Nat) : Gam EE := ⟨[⟨21, law_shardBegun_h N⟩, ⟨28, ref_CheckNext_h N⟩, ⟨29, ref_NextOf_h N⟩, ⟨30, ref_SameItems_h N⟩, ⟨33, ref_SeriesOf_h N⟩, ⟨31, ref_UnpackOf_h N⟩, ⟨32, ref_WriteOf_h N⟩, ⟨27, shard_Next_h N⟩], EQT, []⟩
theorem w8Gok (N : Nat) : GOk Try.prog TT EE (w8G N) := GOk.cons (law_shardBegun_hok N) (GOk.cons (ref_CheckNext_hok N) (GOk.cons (ref_NextOf_hok N) (GOk.cons (ref_SameItems_hok N) (GOk.cons (ref_SeriesOf_hok N) (GOk.cons (ref_UnpackOf_hok N) (GOk.cons (ref_WriteOf_hok N) (GOk.cons (shard_Next_hok N) (GOk.nil EQT_ok))))))))
def w8kR4 (c : Code) : List It2 := atR 4 c
def w8sR4 (x5 : List VItem) (x6 : List UInt8) (x7 : Int) (x8 : Int) : TS EE.T := ⟨83, [(5, .a (.d (.sl (.nam 7)) x5)), (6, .a (.d .str x6)), (7, .a (.d (.int .i64) x7)), (8, .a (.d (.int .i64) x8))], [], []⟩
def w8kE0 (c : Code) : List It2 := [.c c]
def w8sE0 (x0 : VShard) (x1 : Int) : TS EE.T := ⟨83, [(0, .ag (unpT EE (.nam 8) x0)), (1, .a (.d (.int .i64) x1))], [], []⟩
def w8TR4 (c : Code) (N : Nat) (n : Nat) (x5 : List VItem) (x6 : List UInt8) (x7 : Int) (x8 : Int) : Tree (Lf EE.T × Option Bool) :=
  .bnd (law_shardBegun N) fun z9 =>
  .cond (z9)
  (
    .cond (x7 == x8)
    (
      .cond ((x5.length : Int) == 0)
      (
        .leaf (.done (w8enc (decide (x6 = ([] : List UInt8)))), some (decide (x6 = ([] : List UInt8)))))
      (
        .leaf (.done (w8enc false), some false)))
    (
      .leaf (.done (w8enc false), some false)))
  (
    .leaf (.done (w8enc false), some false))
theorem w8vR4 (N : Nat) (n : Nat) (x5 : List VItem) (x6 : List UInt8) (x7 : Int) (x8 : Int) : evM TT EE (w8G N) w8lv w8rs 4000 true (w8kR4 (bodyOf 0 Try.f8)) (w8sR4 x5 x6 x7 x8) = (w8TR4 (bodyOf 0 Try.f8) N n x5 x6 x7 x8).map1 := by kernel_rfl
theorem w8nR4 (N : Nat) (n : Nat) (x5 : List VItem) (x6 : List UInt8) (x7 : Int) (x8 : Int) : law_ShardNexts_R4 N n x5 x6 x7 x8 = (w8TR4 (bodyOf 0 Try.f8) N n x5 x6 x7 x8).run := by kernel_rfl
theorem w8oR4 {N : Nat} {r : Bool} (n : Nat) (x5 : List VItem) (x6 : List UInt8) (x7 : Int) (x8 : Int) (h : law_ShardNexts_R4 N n x5 x6 x7 x8 = some r) : Ends (Y := TT) EE (w8G N) w8lv w8rs (fun u => u = w8enc r) (w8kR4 (bodyOf 0 Try.f8)) (w8sR4 x5 x6 x7 x8) :=
  tree_use (w8vR4 N n x5 x6 x7 x8) (w8nR4 N n x5 x6 x7 x8) h (show (w8TR4 (bodyOf 0 Try.f8) N n x5 x6 x7 x8).all _ from fun _ => ⟨⟨⟨retp (enc := w8enc) rfl, retp (enc := w8enc) rfl⟩, retp (enc := w8enc) rfl⟩, retp (enc := w8enc) rfl⟩)
def w8TE0 (c : Code) (N : Nat) (x0 : VShard) (x1 : Int) : Tree (Lf EE.T × Option Bool) :=
  .bnd (shard_Next N x0 x1) fun z1 =>
  .bnd (ref_CheckNext N x0 x1) fun z2 =>
  .bnd (law_shardBegun N) fun z3 =>
  .cond (!z3)
  (
    .leaf (.go (w8kR4 c) (w8sR4 z1.1 z1.2.1 z1.2.2 z2), law_ShardNexts_R4 N N z1.1 z1.2.1 z1.2.2 z2))
  (
    .cond (z1.2.2 != z2)
    (
      .leaf (.go (w8kR4 c) (w8sR4 z1.1 z1.2.1 z1.2.2 z2), law_ShardNexts_R4 N N z1.1 z1.2.1 z1.2.2 z2))
    (
      .cond (z2 != 0)
      (
        .leaf (.go (w8kR4 c) (w8sR4 z1.1 z1.2.1 z1.2.2 z2), law_ShardNexts_R4 N N z1.1 z1.2.1 z1.2.2 z2))
      (
        .bnd (ref_NextOf N x0) fun z4 =>
        .bnd (ref_SameItems N z1.1 z4) fun z5 =>
        .cond (!z5)
        (
          .leaf (.done (w8enc false), some false))
        (
          .cond ((z1.1.length : Int) == 0)
          (
            .leaf (.done (w8enc (decide (z1.2.1 = ([] : List UInt8)))), some (decide (z1.2.1 = ([] : List UInt8)))))
          (
            .bnd (ref_UnpackOf N z1.2.1 20000) fun z6 =>
            .bnd (ref_SeriesOf N z4) fun z7 =>
            .bnd (ref_WriteOf N z7) fun z8 =>
            .cond (z6.2 == 0)
            (
              .cond (z8.2 == 0)
              (
                .leaf (.done (w8enc (decide (z6.1 = z8.1))), some (decide (z6.1 = z8.1))))
              (
                .leaf (.done (w8enc false), some false)))
            (
              .leaf (.done (w8enc false), some false)))))))
theorem w8vE0 (N : Nat) (x0 : VShard) (x1 : Int) : evM TT EE (w8G N) w8lv w8rs 4000 true (w8kE0 (bodyOf 0 Try.f8)) (w8sE0 x0 x1) = (w8TE0 (bodyOf 0 Try.f8) N x0 x1).map1 := by kernel_rfl
theorem w8nE0 (N : Nat) (x0 : VShard) (x1 : Int) : law_ShardNexts N x0 x1 = (w8TE0 (bodyOf 0 Try.f8) N x0 x1).run := by kernel_rfl
theorem w8oE0 {N : Nat} {r : Bool} (x0 : VShard) (x1 : Int) (h : law_ShardNexts N x0 x1 = some r) : Ends (Y := TT) EE (w8G N) w8lv w8rs (fun u => u = w8enc r) (w8kE0 (bodyOf 0 Try.f8)) (w8sE0 x0 x1) :=
  tree_use (w8vE0 N x0 x1) (w8nE0 N x0 x1) h (show (w8TE0 (bodyOf 0 Try.f8) N x0 x1).all _ from fun _ => fun _ => fun _ => ⟨fun h => w8oR4 N _ _ _ _ h, ⟨fun h => w8oR4 N _ _ _ _ h, ⟨fun h => w8oR4 N _ _ _ _ h, fun _ => fun _ => ⟨retp (enc := w8enc) rfl, ⟨retp (enc := w8enc) rfl, fun _ => fun _ => fun _ => ⟨⟨retp (enc := w8enc) rfl, retp (enc := w8enc) rfl⟩, retp (enc := w8enc) rfl⟩⟩⟩⟩⟩⟩)
theorem law_ShardNexts_ok {N : Nat} (x0 : VShard) (x1 : Int) {r : Bool} (h : law_ShardNexts N x0 x1 = some r) (ρ : Nat → Nat) : ACalls Try.prog 8 (([.ag (unpT EE (.nam 8) x0), .a (.d (.int .i64) x1)] : List (TV EE.T)).map (TV.to EE.toEnc ρ)) [] (fun out H => out = .ret ((law_ShardNexts_u r).to EE.toEnc ρ) ∧ H = []) :=
  (fn_ok (bodyOf 0 Try.f8) 83 mixed (w8Gok N) Try.func8 (by kernel_rfl) rfl rfl rfl rfl (w8oE0 x0 x1 h) ρ).mono fun out H h => KPost.ret rfl h
def law_ShardNexts_h (N : Nat) : List (TV EE.T) → PV EE.T
  | [u0, u1] => match argS EE 8 u0, argD (.int .i64) u1 with
    | some x0, some x1 => .opt (law_ShardNexts N x0 x1) law_ShardNexts_u
    | _, _ => .bad
  | _ => .bad
theorem law_ShardNexts_hok (N : Nat) (us : List (TV EE.T)) : (law_ShardNexts_h N us).ok fun u => ∀ ρ, ACalls Try.prog 8 (us.map (TV.to EE.toEnc ρ)) [] (fun out H => out = .ret (u.to EE.toEnc ρ) ∧ H = []) := by
  unfold law_ShardNexts_h
  split
  · split
    · rename_i h0 h1
      intro z hz ρ; refine acalls_le ?_ (law_ShardNexts_ok _ _ hz ρ); exact ⟨argS_le h0 ρ, argD_le h1 ρ, trivial⟩
    · trivial
  · trivial
/-! ### gleaner/shard.Done -/
def shard_Done_u (r : VShard × Int) : TV EE.T := .tu [.ag (unpT EE (.nam 8) r.1), .a (.d (.int .i64) r.2)]
def w34enc (r : VShard × Int) : RL EE.T := .ret (shard_Done_u r) []
def w34lv : Lvs := ⟨[(5, ⟨[(1, false), (2, false), (3, false), (6, false), (8, false), (10, false)], [], [(3, (some 8, [])), (6, (none, []))]⟩), (7, ⟨[(1, false), (2, false), (3, false), (6, false), (8, false), (10, false)], [], [(3, (some 8, [])), (6, (none, []))]⟩)], [], [5, 7], [], false, [(6, (some 8, []))], []⟩
def w34rs : List ResultVar := [.cell 6 41, .tmp 7]
def w34G (N : Nat) : Gam EE := ⟨[⟨27, shard_Next_h N⟩, ⟨59, shard_own_h N⟩], EQT, []⟩
theorem w34Gok (N : Nat) : GOk Try.prog TT EE (w34G N) := GOk.cons (shard_Next_hok N) (GOk.cons (shard_own_hok N) (GOk.nil EQT_ok))
def w34kR7 (c : Code) : List It2 := atR 7 c
def w34sR7 (x1 : Int) (x2 : Int) (x8 : List VItem) (x10 : Int) (b3 : VShard) (b6_0 : List VItem) (b6_1 : Int) (b6_2 : Int) (b6_3 : Int) (b6_4 : Int) (b6_5 : Int) (b6_6 : Int) : TS EE.T := ⟨68, [(1, .a (.d (.int .i64) x1)), (2, .a (.d (.int .i64) x2)), (3, .a (.box 3 0)), (6, .a (.box 6 0)), (8, .a (.d (.sl (.nam 7)) x8)), (10, .a (.d (.int .i64) x10))], [(3, .cs (unpT EE (.nam 8) b3)), (6, .cs [.own (.nam 7) b6_0, .d (.int .i64) b6_1, .d (.int .i64) b6_2, .d (.int .i64) b6_3, .d (.int .i64) b6_4, .d (.int .i64) b6_5, .d (.int .i64) b6_6])], []⟩
def w34kR5 (c : Code) : List It2 := atR 5 c
def w34sR5 (x1 : Int) (x2 : Int) (x8 : List VItem) (x10 : Int) (b3 : VShard) (b6_0 : List VItem) (b6_1 : Int) (b6_2 : Int) (b6_3 : Int) (b6_4 : Int) (b6_5 : Int) (b6_6 : Int) : TS EE.T := ⟨68, [(1, .a (.d (.int .i64) x1)), (2, .a (.d (.int .i64) x2)), (3, .a (.box 3 0)), (6, .a (.box 6 0)), (8, .a (.d (.sl (.nam 7)) x8)), (10, .a (.d (.int .i64) x10))], [(3, .cs (unpT EE (.nam 8) b3)), (6, .cs [.own (.nam 7) b6_0, .d (.int .i64) b6_1, .d (.int .i64) b6_2, .d (.int .i64) b6_3, .d (.int .i64) b6_4, .d (.int .i64) b6_5, .d (.int .i64) b6_6])], []⟩
def w34kE0 (c : Code) : List It2 := [.c c]
def w34sE0 (x0 : VShard) (x1 : Int) (x2 : Int) : TS EE.T := ⟨68, [(0, .ag (unpT EE (.nam 8) x0)), (1, .a (.d (.int .i64) x1)), (2, .a (.d (.int .i64) x2))], [], []⟩
def w34TR7 (c : Code) (N : Nat) (n : Nat) (x1 : Int) (x2 : Int) (x8 : List VItem) (x10 : Int) (b3 : VShard) (b6_0 : List VItem) (b6_1 : Int) (b6_2 : Int) (b6_3 : Int) (b6_4 : Int) (b6_5 : Int) (b6_6 : Int) : Tree (Lf EE.T × Option (VShard × Int)) :=
  .cond (x10 != 0)
  (
    .leaf (.done (w34enc (({ Items := ([] : List VItem), Batch := 0, Room := 0, First := 0, Most := 0, Waits := 0, Till := 0 } : VShard), x10)), some (({ Items := ([] : List VItem), Batch := 0, Room := 0, First := 0, Most := 0, Waits := 0, Till := 0 } : VShard), x10)))
  (
    .cond (x2 != 0)
    (
      .bnd (shard_own N b3 (x8.length : Int)) fun z2 =>
      .leaf (.done (w34enc (({ Items := z2.Items, Batch := z2.Batch, Room := z2.Room, First := z2.First, Most := z2.Most, Waits := 0, Till := 0 } : VShard), 0)), some (({ Items := z2.Items, Batch := z2.Batch, Room := z2.Room, First := z2.First, Most := z2.Most, Waits := 0, Till := 0 } : VShard), 0)))
    (
      .bnd (shard_own N b3 0) fun z3 =>
      .leaf (.done (w34enc (({ Items := z3.Items, Batch := z3.Batch, Room := z3.Room, First := z3.First, Most := z3.Most, Waits := if (if z3.First < (w64 (2 * z3.Waits)) then (w64 (2 * z3.Waits)) else z3.First) < z3.Most then (if z3.First < (w64 (2 * z3.Waits)) then (w64 (2 * z3.Waits)) else z3.First) else z3.Most, Till := if (w64 (x1 + (if (if z3.First < (w64 (2 * z3.Waits)) then (w64 (2 * z3.Waits)) else z3.First) < z3.Most then (if z3.First < (w64 (2 * z3.Waits)) then (w64 (2 * z3.Waits)) else z3.First) else z3.Most))) < 9007199254740991 then (w64 (x1 + (if (if z3.First < (w64 (2 * z3.Waits)) then (w64 (2 * z3.Waits)) else z3.First) < z3.Most then (if z3.First < (w64 (2 * z3.Waits)) then (w64 (2 * z3.Waits)) else z3.First) else z3.Most))) else 9007199254740991 } : VShard), 0)), some (({ Items := z3.Items, Batch := z3.Batch, Room := z3.Room, First := z3.First, Most := z3.Most, Waits := if (if z3.First < (w64 (2 * z3.Waits)) then (w64 (2 * z3.Waits)) else z3.First) < z3.Most then (if z3.First < (w64 (2 * z3.Waits)) then (w64 (2 * z3.Waits)) else z3.First) else z3.Most, Till := if (w64 (x1 + (if (if z3.First < (w64 (2 * z3.Waits)) then (w64 (2 * z3.Waits)) else z3.First) < z3.Most then (if z3.First < (w64 (2 * z3.Waits)) then (w64 (2 * z3.Waits)) else z3.First) else z3.Most))) < 9007199254740991 then (w64 (x1 + (if (if z3.First < (w64 (2 * z3.Waits)) then (w64 (2 * z3.Waits)) else z3.First) < z3.Most then (if z3.First < (w64 (2 * z3.Waits)) then (w64 (2 * z3.Waits)) else z3.First) else z3.Most))) else 9007199254740991 } : VShard), 0))))
theorem w34vR7 (N : Nat) (n : Nat) (x1 : Int) (x2 : Int) (x8 : List VItem) (x10 : Int) (b3 : VShard) (b6_0 : List VItem) (b6_1 : Int) (b6_2 : Int) (b6_3 : Int) (b6_4 : Int) (b6_5 : Int) (b6_6 : Int) : evM TT EE (w34G N) w34lv w34rs 4000 true (w34kR7 (bodyOf 0 Try.f34)) (w34sR7 x1 x2 x8 x10 b3 b6_0 b6_1 b6_2 b6_3 b6_4 b6_5 b6_6) = (w34TR7 (bodyOf 0 Try.f34) N n x1 x2 x8 x10 b3 b6_0 b6_1 b6_2 b6_3 b6_4 b6_5 b6_6).map1 := by kernel_rfl
theorem w34nR7 (N : Nat) (n : Nat) (x1 : Int) (x2 : Int) (x8 : List VItem) (x10 : Int) (b3 : VShard) (b6_0 : List VItem) (b6_1 : Int) (b6_2 : Int) (b6_3 : Int) (b6_4 : Int) (b6_5 : Int) (b6_6 : Int) : shard_Done_R7 N n x1 x2 x8 x10 b3 b6_0 b6_1 b6_2 b6_3 b6_4 b6_5 b6_6 = (w34TR7 (bodyOf 0 Try.f34) N n x1 x2 x8 x10 b3 b6_0 b6_1 b6_2 b6_3 b6_4 b6_5 b6_6).run := by kernel_rfl
theorem w34oR7 {N : Nat} {r : VShard × Int} (n : Nat) (x1 : Int) (x2 : Int) (x8 : List VItem) (x10 : Int) (b3 : VShard) (b6_0 : List VItem) (b6_1 : Int) (b6_2 : Int) (b6_3 : Int) (b6_4 : Int) (b6_5 : Int) (b6_6 : Int) (h : shard_Done_R7 N n x1 x2 x8 x10 b3 b6_0 b6_1 b6_2 b6_3 b6_4 b6_5 b6_6 = some r) : Ends (Y := TT) EE (w34G N) w34lv w34rs (fun u => u = w34enc r) (w34kR7 (bodyOf 0 Try.f34)) (w34sR7 x1 x2 x8 x10 b3 b6_0 b6_1 b6_2 b6_3 b6_4 b6_5 b6_6) :=
  tree_use (w34vR7 N n x1 x2 x8 x10 b3 b6_0 b6_1 b6_2 b6_3 b6_4 b6_5 b6_6) (w34nR7 N n x1 x2 x8 x10 b3 b6_0 b6_1 b6_2 b6_3 b6_4 b6_5 b6_6) h (show (w34TR7 (bodyOf 0 Try.f34) N n x1 x2 x8 x10 b3 b6_0 b6_1 b6_2 b6_3 b6_4 b6_5 b6_6).all _ from ⟨retp (enc := w34enc) rfl, ⟨fun _ => retp (enc := w34enc) rfl, fun _ => retp (enc := w34enc) rfl⟩⟩)
def w34TR5 (c : Code) (N : Nat) (n : Nat) (x1 : Int) (x2 : Int) (x8 : List VItem) (x10 : Int) (b3 : VShard) (b6_0 : List VItem) (b6_1 : Int) (b6_2 : Int) (b6_3 : Int) (b6_4 : Int) (b6_5 : Int) (b6_6 : Int) : Tree (Lf EE.T × Option (VShard × Int)) :=
  .cond ((x8.length : Int) == 0)
  (
    .leaf (.go (w34kR7 c) (w34sR7 x1 x2 x8 5 b3 b6_0 b6_1 b6_2 b6_3 b6_4 b6_5 b6_6), shard_Done_R7 N n x1 x2 x8 5 b3 b6_0 b6_1 b6_2 b6_3 b6_4 b6_5 b6_6))
  (
    .leaf (.go (w34kR7 c) (w34sR7 x1 x2 x8 x10 b3 b6_0 b6_1 b6_2 b6_3 b6_4 b6_5 b6_6), shard_Done_R7 N n x1 x2 x8 x10 b3 b6_0 b6_1 b6_2 b6_3 b6_4 b6_5 b6_6))
theorem w34vR5 (N : Nat) (n : Nat) (x1 : Int) (x2 : Int) (x8 : List VItem) (x10 : Int) (b3 : VShard) (b6_0 : List VItem) (b6_1 : Int) (b6_2 : Int) (b6_3 : Int) (b6_4 : Int) (b6_5 : Int) (b6_6 : Int) : evM TT EE (w34G N) w34lv w34rs 4000 true (w34kR5 (bodyOf 0 Try.f34)) (w34sR5 x1 x2 x8 x10 b3 b6_0 b6_1 b6_2 b6_3 b6_4 b6_5 b6_6) = (w34TR5 (bodyOf 0 Try.f34) N n x1 x2 x8 x10 b3 b6_0 b6_1 b6_2 b6_3 b6_4 b6_5 b6_6).map1 := by kernel_rfl
theorem w34nR5 (N : Nat) (n : Nat) (x1 : Int) (x2 : Int) (x8 : List VItem) (x10 : Int) (b3 : VShard) (b6_0 : List VItem) (b6_1 : Int) (b6_2 : Int) (b6_3 : Int) (b6_4 : Int) (b6_5 : Int) (b6_6 : Int) : shard_Done_R5 N n x1 x2 x8 x10 b3 b6_0 b6_1 b6_2 b6_3 b6_4 b6_5 b6_6 = (w34TR5 (bodyOf 0 Try.f34) N n x1 x2 x8 x10 b3 b6_0 b6_1 b6_2 b6_3 b6_4 b6_5 b6_6).run := by kernel_rfl
theorem w34oR5 {N : Nat} {r : VShard × Int} (n : Nat) (x1 : Int) (x2 : Int) (x8 : List VItem) (x10 : Int) (b3 : VShard) (b6_0 : List VItem) (b6_1 : Int) (b6_2 : Int) (b6_3 : Int) (b6_4 : Int) (b6_5 : Int) (b6_6 : Int) (h : shard_Done_R5 N n x1 x2 x8 x10 b3 b6_0 b6_1 b6_2 b6_3 b6_4 b6_5 b6_6 = some r) : Ends (Y := TT) EE (w34G N) w34lv w34rs (fun u => u = w34enc r) (w34kR5 (bodyOf 0 Try.f34)) (w34sR5 x1 x2 x8 x10 b3 b6_0 b6_1 b6_2 b6_3 b6_4 b6_5 b6_6) :=
  tree_use (w34vR5 N n x1 x2 x8 x10 b3 b6_0 b6_1 b6_2 b6_3 b6_4 b6_5 b6_6) (w34nR5 N n x1 x2 x8 x10 b3 b6_0 b6_1 b6_2 b6_3 b6_4 b6_5 b6_6) h (show (w34TR5 (bodyOf 0 Try.f34) N n x1 x2 x8 x10 b3 b6_0 b6_1 b6_2 b6_3 b6_4 b6_5 b6_6).all _ from ⟨fun h => w34oR7 n _ _ _ _ _ _ _ _ _ _ _ _ h, fun h => w34oR7 n _ _ _ _ _ _ _ _ _ _ _ _ h⟩)
def w34TE0 (c : Code) (N : Nat) (x0 : VShard) (x1 : Int) (x2 : Int) : Tree (Lf EE.T × Option (VShard × Int)) :=
  .bnd (shard_Next N x0 x1) fun z1 =>
  .cond (z1.2.2 != 0)
  (
    .leaf (.go (w34kR7 c) (w34sR7 x1 x2 z1.1 z1.2.2 x0 ([] : List VItem) 0 0 0 0 0 0), shard_Done_R7 N N x1 x2 z1.1 z1.2.2 x0 ([] : List VItem) 0 0 0 0 0 0))
  (
    .cond (x2 != 200)
    (
      .cond (x2 != 400)
      (
        .cond (x2 != 0)
        (
          .leaf (.go (w34kR7 c) (w34sR7 x1 x2 z1.1 7 x0 ([] : List VItem) 0 0 0 0 0 0), shard_Done_R7 N N x1 x2 z1.1 7 x0 ([] : List VItem) 0 0 0 0 0 0))
        (
          .leaf (.go (w34kR5 c) (w34sR5 x1 x2 z1.1 z1.2.2 x0 ([] : List VItem) 0 0 0 0 0 0), shard_Done_R5 N N x1 x2 z1.1 z1.2.2 x0 ([] : List VItem) 0 0 0 0 0 0)))
      (
        .leaf (.go (w34kR5 c) (w34sR5 x1 x2 z1.1 z1.2.2 x0 ([] : List VItem) 0 0 0 0 0 0), shard_Done_R5 N N x1 x2 z1.1 z1.2.2 x0 ([] : List VItem) 0 0 0 0 0 0)))
    (
      .leaf (.go (w34kR5 c) (w34sR5 x1 x2 z1.1 z1.2.2 x0 ([] : List VItem) 0 0 0 0 0 0), shard_Done_R5 N N x1 x2 z1.1 z1.2.2 x0 ([] : List VItem) 0 0 0 0 0 0)))
theorem w34vE0 (N : Nat) (x0 : VShard) (x1 : Int) (x2 : Int) : evM TT EE (w34G N) w34lv w34rs 4000 true (w34kE0 (bodyOf 0 Try.f34)) (w34sE0 x0 x1 x2) = (w34TE0 (bodyOf 0 Try.f34) N x0 x1 x2).map1 := by kernel_rfl
theorem w34nE0 (N : Nat) (x0 : VShard) (x1 : Int) (x2 : Int) : shard_Done N x0 x1 x2 = (w34TE0 (bodyOf 0 Try.f34) N x0 x1 x2).run := by kernel_rfl
theorem w34oE0 {N : Nat} {r : VShard × Int} (x0 : VShard) (x1 : Int) (x2 : Int) (h : shard_Done N x0 x1 x2 = some r) : Ends (Y := TT) EE (w34G N) w34lv w34rs (fun u => u = w34enc r) (w34kE0 (bodyOf 0 Try.f34)) (w34sE0 x0 x1 x2) :=
  tree_use (w34vE0 N x0 x1 x2) (w34nE0 N x0 x1 x2) h (show (w34TE0 (bodyOf 0 Try.f34) N x0 x1 x2).all _ from fun _ => ⟨fun h => w34oR7 N _ _ _ _ _ _ _ _ _ _ _ _ h, ⟨⟨⟨fun h => w34oR7 N _ _ _ _ _ _ _ _ _ _ _ _ h, fun h => w34oR5 N _ _ _ _ _ _ _ _ _ _ _ _ h⟩, fun h => w34oR5 N _ _ _ _ _ _ _ _ _ _ _ _ h⟩, fun h => w34oR5 N _ _ _ _ _ _ _ _ _ _ _ _ h⟩⟩)
theorem shard_Done_ok {N : Nat} (x0 : VShard) (x1 : Int) (x2 : Int) {r : VShard × Int} (h : shard_Done N x0 x1 x2 = some r) (ρ : Nat → Nat) : ACalls Try.prog 34 (([.ag (unpT EE (.nam 8) x0), .a (.d (.int .i64) x1), .a (.d (.int .i64) x2)] : List (TV EE.T)).map (TV.to EE.toEnc ρ)) [] (fun out H => out = .ret ((shard_Done_u r).to EE.toEnc ρ) ∧ H = []) :=
  (fn_ok (bodyOf 0 Try.f34) 68 mixed (w34Gok N) Try.func34 (by kernel_rfl) rfl rfl rfl rfl (w34oE0 x0 x1 x2 h) ρ).mono fun out H h => KPost.ret rfl h
def shard_Done_h (N : Nat) : List (TV EE.T) → PV EE.T
  | [u0, u1, u2] => match argS EE 8 u0, argD (.int .i64) u1, argD (.int .i64) u2 with
    | some x0, some x1, some x2 => .opt (shard_Done N x0 x1 x2) shard_Done_u
    | _, _, _ => .bad
  | _ => .bad
theorem shard_Done_hok (N : Nat) (us : List (TV EE.T)) : (shard_Done_h N us).ok fun u => ∀ ρ, ACalls Try.prog 34 (us.map (TV.to EE.toEnc ρ)) [] (fun out H => out = .ret (u.to EE.toEnc ρ) ∧ H = []) := by
  unfold shard_Done_h
  split
  · split
    · rename_i h0 h1 h2
      intro z hz ρ; refine acalls_le ?_ (shard_Done_ok _ _ _ hz ρ); exact ⟨argS_le h0 ρ, argD_le h1 ρ, argD_le h2 ρ, trivial⟩
    · trivial
  · trivial
/-! ### gleaner/gleanerref.DoneOf -/
def ref_DoneOf_u (r : VShard × Int) : TV EE.T := .tu [.ag (unpT EE (.nam 8) r.1), .a (.d (.int .i64) r.2)]
def w35enc (r : VShard × Int) : RL EE.T := .ret (ref_DoneOf_u r) []
def w35lv : Lvs := ⟨[(4, ⟨[(1, false), (2, false), (3, false), (6, false), (8, false)], [], [(3, (some 8, [])), (6, (none, []))]⟩), (6, ⟨[(1, false), (2, false), (3, false), (6, false), (8, false)], [], [(3, (some 8, [])), (6, (none, []))]⟩), (9, ⟨[(3, false), (6, false)], [], [(3, (some 8, [])), (6, (none, []))]⟩), (15, ⟨[(1, false), (3, false), (6, false)], [], [(3, (some 8, [])), (6, (none, []))]⟩)], [], [4, 6, 15], [], false, [(6, (some 8, []))], []⟩
def w35rs : List ResultVar := [.cell 6 41, .tmp 7]
def w35G (N : Nat) : Gam EE := ⟨[⟨28, ref_CheckNext_h N⟩, ⟨29, ref_NextOf_h N⟩], EQT, []⟩
theorem w35Gok (N : Nat) : GOk Try.prog TT EE (w35G N) := GOk.cons (ref_CheckNext_hok N) (GOk.cons (ref_NextOf_hok N) (GOk.nil EQT_ok))
def w35kR15 (c : Code) : List It2 := atR 15 c
def w35sR15 (x1 : Int) (b3 : VShard) (b6_0 : List VItem) (b6_1 : Int) (b6_2 : Int) (b6_3 : Int) (b6_4 : Int) (b6_5 : Int) (b6_6 : Int) : TS EE.T := ⟨70, [(1, .a (.d (.int .i64) x1)), (3, .a (.box 3 0)), (6, .a (.box 6 0))], [(3, .cs (unpT EE (.nam 8) b3)), (6, .cs [.own (.nam 7) b6_0, .d (.int .i64) b6_1, .d (.int .i64) b6_2, .d (.int .i64) b6_3, .d (.int .i64) b6_4, .d (.int .i64) b6_5, .d (.int .i64) b6_6])], []⟩
def w35kR6 (c : Code) : List It2 := atR 6 c
def w35sR6 (x1 : Int) (x2 : Int) (x8 : Int) (b3 : VShard) (b6_0 : List VItem) (b6_1 : Int) (b6_2 : Int) (b6_3 : Int) (b6_4 : Int) (b6_5 : Int) (b6_6 : Int) : TS EE.T := ⟨70, [(1, .a (.d (.int .i64) x1)), (2, .a (.d (.int .i64) x2)), (3, .a (.box 3 0)), (6, .a (.box 6 0)), (8, .a (.d (.int .i64) x8))], [(3, .cs (unpT EE (.nam 8) b3)), (6, .cs [.own (.nam 7) b6_0, .d (.int .i64) b6_1, .d (.int .i64) b6_2, .d (.int .i64) b6_3, .d (.int .i64) b6_4, .d (.int .i64) b6_5, .d (.int .i64) b6_6])], []⟩
def w35kR4 (c : Code) : List It2 := atR 4 c
def w35sR4 (x1 : Int) (x2 : Int) (x8 : Int) (b3 : VShard) (b6_0 : List VItem) (b6_1 : Int) (b6_2 : Int) (b6_3 : Int) (b6_4 : Int) (b6_5 : Int) (b6_6 : Int) : TS EE.T := ⟨70, [(1, .a (.d (.int .i64) x1)), (2, .a (.d (.int .i64) x2)), (3, .a (.box 3 0)), (6, .a (.box 6 0)), (8, .a (.d (.int .i64) x8))], [(3, .cs (unpT EE (.nam 8) b3)), (6, .cs [.own (.nam 7) b6_0, .d (.int .i64) b6_1, .d (.int .i64) b6_2, .d (.int .i64) b6_3, .d (.int .i64) b6_4, .d (.int .i64) b6_5, .d (.int .i64) b6_6])], []⟩
def w35kE0 (c : Code) : List It2 := [.c c]
def w35sE0 (x0 : VShard) (x1 : Int) (x2 : Int) : TS EE.T := ⟨70, [(0, .ag (unpT EE (.nam 8) x0)), (1, .a (.d (.int .i64) x1)), (2, .a (.d (.int .i64) x2))], [], []⟩
def w35TR15 (c : Code) (N : Nat) (n : Nat) (x1 : Int) (b3 : VShard) (b6_0 : List VItem) (b6_1 : Int) (b6_2 : Int) (b6_3 : Int) (b6_4 : Int) (b6_5 : Int) (b6_6 : Int) : Tree (Lf EE.T × Option (VShard × Int)) :=
  .leaf (.done (w35enc (({ Items := b3.Items, Batch := b3.Batch, Room := b3.Room, First := b3.First, Most := b3.Most, Waits := b3.Waits, Till := if 9007199254740991 < (w64 (x1 + b3.Waits)) then 9007199254740991 else (w64 (x1 + b3.Waits)) } : VShard), 0)), some (({ Items := b3.Items, Batch := b3.Batch, Room := b3.Room, First := b3.First, Most := b3.Most, Waits := b3.Waits, Till := if 9007199254740991 < (w64 (x1 + b3.Waits)) then 9007199254740991 else (w64 (x1 + b3.Waits)) } : VShard), 0))
theorem w35vR15 (N : Nat) (n : Nat) (x1 : Int) (b3 : VShard) (b6_0 : List VItem) (b6_1 : Int) (b6_2 : Int) (b6_3 : Int) (b6_4 : Int) (b6_5 : Int) (b6_6 : Int) : evM TT EE (w35G N) w35lv w35rs 4000 true (w35kR15 (bodyOf 0 Try.f35)) (w35sR15 x1 b3 b6_0 b6_1 b6_2 b6_3 b6_4 b6_5 b6_6) = (w35TR15 (bodyOf 0 Try.f35) N n x1 b3 b6_0 b6_1 b6_2 b6_3 b6_4 b6_5 b6_6).map1 := by kernel_rfl
theorem w35nR15 (N : Nat) (n : Nat) (x1 : Int) (b3 : VShard) (b6_0 : List VItem) (b6_1 : Int) (b6_2 : Int) (b6_3 : Int) (b6_4 : Int) (b6_5 : Int) (b6_6 : Int) : ref_DoneOf_R15 N n x1 b3 b6_0 b6_1 b6_2 b6_3 b6_4 b6_5 b6_6 = (w35TR15 (bodyOf 0 Try.f35) N n x1 b3 b6_0 b6_1 b6_2 b6_3 b6_4 b6_5 b6_6).run := by kernel_rfl
theorem w35oR15 {N : Nat} {r : VShard × Int} (n : Nat) (x1 : Int) (b3 : VShard) (b6_0 : List VItem) (b6_1 : Int) (b6_2 : Int) (b6_3 : Int) (b6_4 : Int) (b6_5 : Int) (b6_6 : Int) (h : ref_DoneOf_R15 N n x1 b3 b6_0 b6_1 b6_2 b6_3 b6_4 b6_5 b6_6 = some r) : Ends (Y := TT) EE (w35G N) w35lv w35rs (fun u => u = w35enc r) (w35kR15 (bodyOf 0 Try.f35)) (w35sR15 x1 b3 b6_0 b6_1 b6_2 b6_3 b6_4 b6_5 b6_6) :=
  tree_use (w35vR15 N n x1 b3 b6_0 b6_1 b6_2 b6_3 b6_4 b6_5 b6_6) (w35nR15 N n x1 b3 b6_0 b6_1 b6_2 b6_3 b6_4 b6_5 b6_6) h (show (w35TR15 (bodyOf 0 Try.f35) N n x1 b3 b6_0 b6_1 b6_2 b6_3 b6_4 b6_5 b6_6).all _ from retp (enc := w35enc) rfl)
def w35TR6 (c : Code) (N : Nat) (n : Nat) (x1 : Int) (x2 : Int) (x8 : Int) (b3 : VShard) (b6_0 : List VItem) (b6_1 : Int) (b6_2 : Int) (b6_3 : Int) (b6_4 : Int) (b6_5 : Int) (b6_6 : Int) : Tree (Lf EE.T × Option (VShard × Int)) :=
  .cond (x8 != 0)
  (
    .leaf (.done (w35enc (({ Items := ([] : List VItem), Batch := 0, Room := 0, First := 0, Most := 0, Waits := 0, Till := 0 } : VShard), x8)), some (({ Items := ([] : List VItem), Batch := 0, Room := 0, First := 0, Most := 0, Waits := 0, Till := 0 } : VShard), x8)))
  (
    .cond (x2 != 0)
    (
      .bnd (ref_NextOf N b3) fun z2 =>
      .bnd (subC b3.Items (z2.length : Int) (b3.Items.length : Int)) fun z3 =>
      .leaf (.done (w35enc (({ Items := z3, Batch := b3.Batch, Room := b3.Room, First := b3.First, Most := b3.Most, Waits := 0, Till := 0 } : VShard), 0)), some (({ Items := z3, Batch := b3.Batch, Room := b3.Room, First := b3.First, Most := b3.Most, Waits := 0, Till := 0 } : VShard), 0)))
    (
      .cond (b3.Waits == 0)
      (
        .leaf (.go (w35kR15 c) (w35sR15 x1 ({ Items := b3.Items, Batch := b3.Batch, Room := b3.Room, First := b3.First, Most := b3.Most, Waits := b3.First, Till := b3.Till } : VShard) b6_0 b6_1 b6_2 b6_3 b6_4 b6_5 b6_6), ref_DoneOf_R15 N n x1 ({ Items := b3.Items, Batch := b3.Batch, Room := b3.Room, First := b3.First, Most := b3.Most, Waits := b3.First, Till := b3.Till } : VShard) b6_0 b6_1 b6_2 b6_3 b6_4 b6_5 b6_6))
      (
        .leaf (.go (w35kR15 c) (w35sR15 x1 ({ Items := b3.Items, Batch := b3.Batch, Room := b3.Room, First := b3.First, Most := b3.Most, Waits := if b3.Most < (w64 (2 * b3.Waits)) then b3.Most else (w64 (2 * b3.Waits)), Till := b3.Till } : VShard) b6_0 b6_1 b6_2 b6_3 b6_4 b6_5 b6_6), ref_DoneOf_R15 N n x1 ({ Items := b3.Items, Batch := b3.Batch, Room := b3.Room, First := b3.First, Most := b3.Most, Waits := if b3.Most < (w64 (2 * b3.Waits)) then b3.Most else (w64 (2 * b3.Waits)), Till := b3.Till } : VShard) b6_0 b6_1 b6_2 b6_3 b6_4 b6_5 b6_6))))
theorem w35vR6 (N : Nat) (n : Nat) (x1 : Int) (x2 : Int) (x8 : Int) (b3 : VShard) (b6_0 : List VItem) (b6_1 : Int) (b6_2 : Int) (b6_3 : Int) (b6_4 : Int) (b6_5 : Int) (b6_6 : Int) : evM TT EE (w35G N) w35lv w35rs 4000 true (w35kR6 (bodyOf 0 Try.f35)) (w35sR6 x1 x2 x8 b3 b6_0 b6_1 b6_2 b6_3 b6_4 b6_5 b6_6) = (w35TR6 (bodyOf 0 Try.f35) N n x1 x2 x8 b3 b6_0 b6_1 b6_2 b6_3 b6_4 b6_5 b6_6).map1 := by kernel_rfl
theorem w35nR6 (N : Nat) (n : Nat) (x1 : Int) (x2 : Int) (x8 : Int) (b3 : VShard) (b6_0 : List VItem) (b6_1 : Int) (b6_2 : Int) (b6_3 : Int) (b6_4 : Int) (b6_5 : Int) (b6_6 : Int) : ref_DoneOf_R6 N n x1 x2 x8 b3 b6_0 b6_1 b6_2 b6_3 b6_4 b6_5 b6_6 = (w35TR6 (bodyOf 0 Try.f35) N n x1 x2 x8 b3 b6_0 b6_1 b6_2 b6_3 b6_4 b6_5 b6_6).run := by kernel_rfl
theorem w35oR6 {N : Nat} {r : VShard × Int} (n : Nat) (x1 : Int) (x2 : Int) (x8 : Int) (b3 : VShard) (b6_0 : List VItem) (b6_1 : Int) (b6_2 : Int) (b6_3 : Int) (b6_4 : Int) (b6_5 : Int) (b6_6 : Int) (h : ref_DoneOf_R6 N n x1 x2 x8 b3 b6_0 b6_1 b6_2 b6_3 b6_4 b6_5 b6_6 = some r) : Ends (Y := TT) EE (w35G N) w35lv w35rs (fun u => u = w35enc r) (w35kR6 (bodyOf 0 Try.f35)) (w35sR6 x1 x2 x8 b3 b6_0 b6_1 b6_2 b6_3 b6_4 b6_5 b6_6) :=
  tree_use (w35vR6 N n x1 x2 x8 b3 b6_0 b6_1 b6_2 b6_3 b6_4 b6_5 b6_6) (w35nR6 N n x1 x2 x8 b3 b6_0 b6_1 b6_2 b6_3 b6_4 b6_5 b6_6) h (show (w35TR6 (bodyOf 0 Try.f35) N n x1 x2 x8 b3 b6_0 b6_1 b6_2 b6_3 b6_4 b6_5 b6_6).all _ from ⟨retp (enc := w35enc) rfl, ⟨fun _ => fun _ => retp (enc := w35enc) rfl, ⟨fun h => w35oR15 n _ _ _ _ _ _ _ _ _ h, fun h => w35oR15 n _ _ _ _ _ _ _ _ _ h⟩⟩⟩)
def w35TR4 (c : Code) (N : Nat) (n : Nat) (x1 : Int) (x2 : Int) (x8 : Int) (b3 : VShard) (b6_0 : List VItem) (b6_1 : Int) (b6_2 : Int) (b6_3 : Int) (b6_4 : Int) (b6_5 : Int) (b6_6 : Int) : Tree (Lf EE.T × Option (VShard × Int)) :=
  .cond (x8 == 0)
  (
    .cond ((b3.Items.length : Int) == 0)
    (
      .leaf (.go (w35kR6 c) (w35sR6 x1 x2 5 b3 b6_0 b6_1 b6_2 b6_3 b6_4 b6_5 b6_6), ref_DoneOf_R6 N n x1 x2 5 b3 b6_0 b6_1 b6_2 b6_3 b6_4 b6_5 b6_6))
    (
      .leaf (.go (w35kR6 c) (w35sR6 x1 x2 x8 b3 b6_0 b6_1 b6_2 b6_3 b6_4 b6_5 b6_6), ref_DoneOf_R6 N n x1 x2 x8 b3 b6_0 b6_1 b6_2 b6_3 b6_4 b6_5 b6_6)))
  (
    .leaf (.go (w35kR6 c) (w35sR6 x1 x2 x8 b3 b6_0 b6_1 b6_2 b6_3 b6_4 b6_5 b6_6), ref_DoneOf_R6 N n x1 x2 x8 b3 b6_0 b6_1 b6_2 b6_3 b6_4 b6_5 b6_6))
theorem w35vR4 (N : Nat) (n : Nat) (x1 : Int) (x2 : Int) (x8 : Int) (b3 : VShard) (b6_0 : List VItem) (b6_1 : Int) (b6_2 : Int) (b6_3 : Int) (b6_4 : Int) (b6_5 : Int) (b6_6 : Int) : evM TT EE (w35G N) w35lv w35rs 4000 true (w35kR4 (bodyOf 0 Try.f35)) (w35sR4 x1 x2 x8 b3 b6_0 b6_1 b6_2 b6_3 b6_4 b6_5 b6_6) = (w35TR4 (bodyOf 0 Try.f35) N n x1 x2 x8 b3 b6_0 b6_1 b6_2 b6_3 b6_4 b6_5 b6_6).map1 := by kernel_rfl
theorem w35nR4 (N : Nat) (n : Nat) (x1 : Int) (x2 : Int) (x8 : Int) (b3 : VShard) (b6_0 : List VItem) (b6_1 : Int) (b6_2 : Int) (b6_3 : Int) (b6_4 : Int) (b6_5 : Int) (b6_6 : Int) : ref_DoneOf_R4 N n x1 x2 x8 b3 b6_0 b6_1 b6_2 b6_3 b6_4 b6_5 b6_6 = (w35TR4 (bodyOf 0 Try.f35) N n x1 x2 x8 b3 b6_0 b6_1 b6_2 b6_3 b6_4 b6_5 b6_6).run := by kernel_rfl
theorem w35oR4 {N : Nat} {r : VShard × Int} (n : Nat) (x1 : Int) (x2 : Int) (x8 : Int) (b3 : VShard) (b6_0 : List VItem) (b6_1 : Int) (b6_2 : Int) (b6_3 : Int) (b6_4 : Int) (b6_5 : Int) (b6_6 : Int) (h : ref_DoneOf_R4 N n x1 x2 x8 b3 b6_0 b6_1 b6_2 b6_3 b6_4 b6_5 b6_6 = some r) : Ends (Y := TT) EE (w35G N) w35lv w35rs (fun u => u = w35enc r) (w35kR4 (bodyOf 0 Try.f35)) (w35sR4 x1 x2 x8 b3 b6_0 b6_1 b6_2 b6_3 b6_4 b6_5 b6_6) :=
  tree_use (w35vR4 N n x1 x2 x8 b3 b6_0 b6_1 b6_2 b6_3 b6_4 b6_5 b6_6) (w35nR4 N n x1 x2 x8 b3 b6_0 b6_1 b6_2 b6_3 b6_4 b6_5 b6_6) h (show (w35TR4 (bodyOf 0 Try.f35) N n x1 x2 x8 b3 b6_0 b6_1 b6_2 b6_3 b6_4 b6_5 b6_6).all _ from ⟨⟨fun h => w35oR6 n _ _ _ _ _ _ _ _ _ _ _ h, fun h => w35oR6 n _ _ _ _ _ _ _ _ _ _ _ h⟩, fun h => w35oR6 n _ _ _ _ _ _ _ _ _ _ _ h⟩)
def w35TE0 (c : Code) (N : Nat) (x0 : VShard) (x1 : Int) (x2 : Int) : Tree (Lf EE.T × Option (VShard × Int)) :=
  .bnd (ref_CheckNext N x0 x1) fun z1 =>
  .cond (z1 == 0)
  (
    .cond (x2 != 0)
    (
      .cond (x2 != 200)
      (
        .cond (x2 != 400)
        (
          .leaf (.go (w35kR4 c) (w35sR4 x1 x2 7 x0 ([] : List VItem) 0 0 0 0 0 0), ref_DoneOf_R4 N N x1 x2 7 x0 ([] : List VItem) 0 0 0 0 0 0))
        (
          .leaf (.go (w35kR4 c) (w35sR4 x1 x2 z1 x0 ([] : List VItem) 0 0 0 0 0 0), ref_DoneOf_R4 N N x1 x2 z1 x0 ([] : List VItem) 0 0 0 0 0 0)))
      (
        .leaf (.go (w35kR4 c) (w35sR4 x1 x2 z1 x0 ([] : List VItem) 0 0 0 0 0 0), ref_DoneOf_R4 N N x1 x2 z1 x0 ([] : List VItem) 0 0 0 0 0 0)))
    (
      .leaf (.go (w35kR4 c) (w35sR4 x1 x2 z1 x0 ([] : List VItem) 0 0 0 0 0 0), ref_DoneOf_R4 N N x1 x2 z1 x0 ([] : List VItem) 0 0 0 0 0 0)))
  (
    .leaf (.go (w35kR4 c) (w35sR4 x1 x2 z1 x0 ([] : List VItem) 0 0 0 0 0 0), ref_DoneOf_R4 N N x1 x2 z1 x0 ([] : List VItem) 0 0 0 0 0 0))
theorem w35vE0 (N : Nat) (x0 : VShard) (x1 : Int) (x2 : Int) : evM TT EE (w35G N) w35lv w35rs 4000 true (w35kE0 (bodyOf 0 Try.f35)) (w35sE0 x0 x1 x2) = (w35TE0 (bodyOf 0 Try.f35) N x0 x1 x2).map1 := by kernel_rfl
theorem w35nE0 (N : Nat) (x0 : VShard) (x1 : Int) (x2 : Int) : ref_DoneOf N x0 x1 x2 = (w35TE0 (bodyOf 0 Try.f35) N x0 x1 x2).run := by kernel_rfl
theorem w35oE0 {N : Nat} {r : VShard × Int} (x0 : VShard) (x1 : Int) (x2 : Int) (h : ref_DoneOf N x0 x1 x2 = some r) : Ends (Y := TT) EE (w35G N) w35lv w35rs (fun u => u = w35enc r) (w35kE0 (bodyOf 0 Try.f35)) (w35sE0 x0 x1 x2) :=
  tree_use (w35vE0 N x0 x1 x2) (w35nE0 N x0 x1 x2) h (show (w35TE0 (bodyOf 0 Try.f35) N x0 x1 x2).all _ from fun _ => ⟨⟨⟨⟨fun h => w35oR4 N _ _ _ _ _ _ _ _ _ _ _ h, fun h => w35oR4 N _ _ _ _ _ _ _ _ _ _ _ h⟩, fun h => w35oR4 N _ _ _ _ _ _ _ _ _ _ _ h⟩, fun h => w35oR4 N _ _ _ _ _ _ _ _ _ _ _ h⟩, fun h => w35oR4 N _ _ _ _ _ _ _ _ _ _ _ h⟩)
theorem ref_DoneOf_ok {N : Nat} (x0 : VShard) (x1 : Int) (x2 : Int) {r : VShard × Int} (h : ref_DoneOf N x0 x1 x2 = some r) (ρ : Nat → Nat) : ACalls Try.prog 35 (([.ag (unpT EE (.nam 8) x0), .a (.d (.int .i64) x1), .a (.d (.int .i64) x2)] : List (TV EE.T)).map (TV.to EE.toEnc ρ)) [] (fun out H => out = .ret ((ref_DoneOf_u r).to EE.toEnc ρ) ∧ H = []) :=
  (fn_ok (bodyOf 0 Try.f35) 70 mixed (w35Gok N) Try.func35 (by kernel_rfl) rfl rfl rfl rfl (w35oE0 x0 x1 x2 h) ρ).mono fun out H h => KPost.ret rfl h
def ref_DoneOf_h (N : Nat) : List (TV EE.T) → PV EE.T
  | [u0, u1, u2] => match argS EE 8 u0, argD (.int .i64) u1, argD (.int .i64) u2 with
    | some x0, some x1, some x2 => .opt (ref_DoneOf N x0 x1 x2) ref_DoneOf_u
    | _, _, _ => .bad
  | _ => .bad
theorem ref_DoneOf_hok (N : Nat) (us : List (TV EE.T)) : (ref_DoneOf_h N us).ok fun u => ∀ ρ, ACalls Try.prog 35 (us.map (TV.to EE.toEnc ρ)) [] (fun out H => out = .ret (u.to EE.toEnc ρ) ∧ H = []) := by
  unfold ref_DoneOf_h
  split
  · split
    · rename_i h0 h1 h2
      intro z hz ρ; refine acalls_le ?_ (ref_DoneOf_ok _ _ _ hz ρ); exact ⟨argS_le h0 ρ, argD_le h1 ρ, argD_le h2 ρ, trivial⟩
    · trivial
  · trivial
/-! ### gleaner/gleanerlaw.ShardDones -/
def law_ShardDones_u (r : Bool) : TV EE.T := .a (.d .bool r)
def w9enc (r : Bool) : RL EE.T := .ret (law_ShardDones_u r) []
def w9lv : Lvs := ⟨[], [], [], [], false, [], []⟩
def w9rs : List ResultVar := [.tmp 6]
def w9G (N : Nat) : Gam EE := ⟨[⟨21, law_shardBegun_h N⟩, ⟨35, ref_DoneOf_h N⟩, ⟨26, ref_SameShard_h N⟩, ⟨34, shard_Done_h N⟩], EQT, []⟩
theorem w9Gok (N : Nat) : GOk Try.prog TT EE (w9G N) := GOk.cons (law_shardBegun_hok N) (GOk.cons (ref_DoneOf_hok N) (GOk.cons (ref_SameShard_hok N) (GOk.cons (shard_Done_hok N) (GOk.nil EQT_ok))))
def w9kE0 (c : Code) : List It2 := [.c c]
def w9sE0 (x0 : VShard) (x1 : Int) (x2 : Int) : TS EE.T := ⟨36, [(0, .ag (unpT EE (.nam 8) x0)), (1, .a (.d (.int .i64) x1)), (2, .a (.d (.int .i64) x2))], [], []⟩
def w9TE0 (c : Code) (N : Nat) (x0 : VShard) (x1 : Int) (x2 : Int) : Tree (Lf EE.T × Option Bool) :=
  .bnd (shard_Done N x0 x1 x2) fun z1 =>
  .bnd (ref_DoneOf N x0 x1 x2) fun z2 =>
  .bnd (law_shardBegun N) fun z3 =>
  .cond (z3)
  (
    .cond (z1.2 == z2.2)
    (
      .bnd (ref_SameShard N z1.1 z2.1) fun z4 =>
      .leaf (.done (w9enc z4), some z4))
    (
      .leaf (.done (w9enc false), some false)))
  (
    .leaf (.done (w9enc false), some false))
theorem w9vE0 (N : Nat) (x0 : VShard) (x1 : Int) (x2 : Int) : evM TT EE (w9G N) w9lv w9rs 4000 true (w9kE0 (bodyOf 0 Try.f9)) (w9sE0 x0 x1 x2) = (w9TE0 (bodyOf 0 Try.f9) N x0 x1 x2).map1 := by kernel_rfl
theorem w9nE0 (N : Nat) (x0 : VShard) (x1 : Int) (x2 : Int) : law_ShardDones N x0 x1 x2 = (w9TE0 (bodyOf 0 Try.f9) N x0 x1 x2).run := by kernel_rfl
theorem w9oE0 {N : Nat} {r : Bool} (x0 : VShard) (x1 : Int) (x2 : Int) (h : law_ShardDones N x0 x1 x2 = some r) : Ends (Y := TT) EE (w9G N) w9lv w9rs (fun u => u = w9enc r) (w9kE0 (bodyOf 0 Try.f9)) (w9sE0 x0 x1 x2) :=
  tree_use (w9vE0 N x0 x1 x2) (w9nE0 N x0 x1 x2) h (show (w9TE0 (bodyOf 0 Try.f9) N x0 x1 x2).all _ from fun _ => fun _ => fun _ => ⟨⟨fun _ => retp (enc := w9enc) rfl, retp (enc := w9enc) rfl⟩, retp (enc := w9enc) rfl⟩)
theorem law_ShardDones_ok {N : Nat} (x0 : VShard) (x1 : Int) (x2 : Int) {r : Bool} (h : law_ShardDones N x0 x1 x2 = some r) (ρ : Nat → Nat) : ACalls Try.prog 9 (([.ag (unpT EE (.nam 8) x0), .a (.d (.int .i64) x1), .a (.d (.int .i64) x2)] : List (TV EE.T)).map (TV.to EE.toEnc ρ)) [] (fun out H => out = .ret ((law_ShardDones_u r).to EE.toEnc ρ) ∧ H = []) :=
  (fn_ok (bodyOf 0 Try.f9) 36 mixed (w9Gok N) Try.func9 (by kernel_rfl) rfl rfl rfl rfl (w9oE0 x0 x1 x2 h) ρ).mono fun out H h => KPost.ret rfl h
def law_ShardDones_h (N : Nat) : List (TV EE.T) → PV EE.T
  | [u0, u1, u2] => match argS EE 8 u0, argD (.int .i64) u1, argD (.int .i64) u2 with
    | some x0, some x1, some x2 => .opt (law_ShardDones N x0 x1 x2) law_ShardDones_u
    | _, _, _ => .bad
  | _ => .bad
theorem law_ShardDones_hok (N : Nat) (us : List (TV EE.T)) : (law_ShardDones_h N us).ok fun u => ∀ ρ, ACalls Try.prog 9 (us.map (TV.to EE.toEnc ρ)) [] (fun out H => out = .ret (u.to EE.toEnc ρ) ∧ H = []) := by
  unfold law_ShardDones_h
  split
  · split
    · rename_i h0 h1 h2
      intro z hz ρ; refine acalls_le ?_ (law_ShardDones_ok _ _ _ hz ρ); exact ⟨argS_le h0 ρ, argD_le h1 ρ, argD_le h2 ρ, trivial⟩
    · trivial
  · trivial
/-! ### gleaner/gleanerlaw.ShardGoes -/
def law_ShardGoes_u (r : Bool) : TV EE.T := .a (.d .bool r)
def w10enc (r : Bool) : RL EE.T := .ret (law_ShardGoes_u r) []
def w10lv : Lvs := ⟨[], [(6, ⟨[(1, false), (2, false), (5, false), (6, false), (7, false)], [], [(2, (some 8, []))]⟩)], [], [], false, [], []⟩
def w10rs : List ResultVar := [.tmp 4]
def w10G (N : Nat) : Gam EE := ⟨[⟨21, law_shardBegun_h N⟩, ⟨30, ref_SameItems_h N⟩, ⟨22, shard_Check_h N⟩, ⟨34, shard_Done_h N⟩, ⟨27, shard_Next_h N⟩], EQT, []⟩
theorem w10Gok (N : Nat) : GOk Try.prog TT EE (w10G N) := GOk.cons (law_shardBegun_hok N) (GOk.cons (ref_SameItems_hok N) (GOk.cons (shard_Check_hok N) (GOk.cons (shard_Done_hok N) (GOk.cons (shard_Next_hok N) (GOk.nil EQT_ok)))))
def w10kL6 (c : Code) : List It2 := atL 6 c
def w10sL6 (x1 : Int) (x5 : List VItem) (x6 : List VItem) (x7 : Int) (b2 : VShard) : TS EE.T := ⟨69, [(1, .a (.d (.int .i64) x1)), (2, .a (.box 2 0)), (5, .a (.d (.sl (.nam 7)) x5)), (6, .a (.own (.nam 7) x6)), (7, .a (.d (.int .i64) x7))], [(2, .cs (unpT EE (.nam 8) b2))], []⟩
def w10kE0 (c : Code) : List It2 := [.c c]
def w10sE0 (x0 : VShard) (x1 : Int) : TS EE.T := ⟨69, [(0, .ag (unpT EE (.nam 8) x0)), (1, .a (.d (.int .i64) x1))], [], []⟩
def w10TL6 (c : Code) (N : Nat) (n : Nat) (x1 : Int) (x5 : List VItem) (x6 : List VItem) (x7 : Int) (b2 : VShard) : Tree (Lf EE.T × Option Bool) :=
  .cond (decide (x7 ≤ (x5.length : Int)))
  (
    .bnd (shard_Next N b2 x1) fun z6 =>
    .cond (z6.2.2 != 0)
    (
      .leaf (.done (w10enc (x7 == 0)), some (x7 == 0)))
    (
      .cond ((z6.1.length : Int) == 0)
      (
        .bnd (ref_SameItems N x6 x5) fun z7 =>
        .leaf (.done (w10enc z7), some z7))
      (
        .bnd (appC 48 x6 z6.1) fun z8 =>
        .bnd (shard_Done N b2 x1 200) fun z9 =>
        .cond (z9.2 != 0)
        (
          .leaf (.done (w10enc false), some false))
        (
          .cond (z9.1.Waits != 0)
          (
            .leaf (.done (w10enc false), some false))
          (
            .bnd (shard_Check N z9.1) fun z10 =>
            .cond (z10 != 0)
            (
              .leaf (.done (w10enc false), some false))
            (
              .leaf (.go (w10kL6 c) (w10sL6 x1 x5 z8 (w64 (x7 + 1)) z9.1), law_ShardGoes_L6 N n x1 x5 z8 (w64 (x7 + 1)) z9.1)))))))
  (
    .leaf (.done (w10enc false), some false))
theorem w10vL6 (N : Nat) (n : Nat) (x1 : Int) (x5 : List VItem) (x6 : List VItem) (x7 : Int) (b2 : VShard) : evM TT EE (w10G N) w10lv w10rs 4000 true (w10kL6 (bodyOf 0 Try.f10)) (w10sL6 x1 x5 x6 x7 b2) = (w10TL6 (bodyOf 0 Try.f10) N n x1 x5 x6 x7 b2).map1 := by kernel_rfl
theorem w10nL6 (N : Nat) (n : Nat) (x1 : Int) (x5 : List VItem) (x6 : List VItem) (x7 : Int) (b2 : VShard) : law_ShardGoes_L6 N (n + 1) x1 x5 x6 x7 b2 = (w10TL6 (bodyOf 0 Try.f10) N n x1 x5 x6 x7 b2).run := by kernel_rfl
theorem w10oL6 {N : Nat} {r : Bool} : ∀ (n : Nat) (x1 : Int) (x5 : List VItem) (x6 : List VItem) (x7 : Int) (b2 : VShard), law_ShardGoes_L6 N n x1 x5 x6 x7 b2 = some r → Ends (Y := TT) EE (w10G N) w10lv w10rs (fun u => u = w10enc r) (w10kL6 (bodyOf 0 Try.f10)) (w10sL6 x1 x5 x6 x7 b2)
  | 0, _, _, _, _, _, h => by cases h
  | n + 1, x1, x5, x6, x7, b2, h => tree_use (w10vL6 N n x1 x5 x6 x7 b2) (w10nL6 N n x1 x5 x6 x7 b2) h (show (w10TL6 (bodyOf 0 Try.f10) N n x1 x5 x6 x7 b2).all _ from ⟨fun _ => ⟨retp (enc := w10enc) rfl, ⟨fun _ => retp (enc := w10enc) rfl, fun _ => fun _ => ⟨retp (enc := w10enc) rfl, ⟨retp (enc := w10enc) rfl, fun _ => ⟨retp (enc := w10enc) rfl, fun h => (w10oL6 n) _ _ _ _ _ h⟩⟩⟩⟩⟩, retp (enc := w10enc) rfl⟩)
def w10TE0 (c : Code) (N : Nat) (x0 : VShard) (x1 : Int) : Tree (Lf EE.T × Option Bool) :=
  .bnd (law_shardBegun N) fun z1 =>
  .cond (!z1)
  (
    .bnd (law_shardBegun N) fun z2 =>
    .leaf (.done (w10enc z2), some z2))
  (
    .bnd (shard_Check N x0) fun z3 =>
    .cond (z3 != 0)
    (
      .bnd (law_shardBegun N) fun z4 =>
      .leaf (.done (w10enc z4), some z4))
    (
      .cond (decide (x1 < 0))
      (
        .bnd (law_shardBegun N) fun z5 =>
        .leaf (.done (w10enc z5), some z5))
      (
        .leaf (.go (w10kL6 c) (w10sL6 x1 x0.Items ([] : List VItem) 0 x0), law_ShardGoes_L6 N N x1 x0.Items ([] : List VItem) 0 x0))))
theorem w10vE0 (N : Nat) (x0 : VShard) (x1 : Int) : evM TT EE (w10G N) w10lv w10rs 4000 true (w10kE0 (bodyOf 0 Try.f10)) (w10sE0 x0 x1) = (w10TE0 (bodyOf 0 Try.f10) N x0 x1).map1 := by kernel_rfl
theorem w10nE0 (N : Nat) (x0 : VShard) (x1 : Int) : law_ShardGoes N x0 x1 = (w10TE0 (bodyOf 0 Try.f10) N x0 x1).run := by kernel_rfl
theorem w10oE0 {N : Nat} {r : Bool} (x0 : VShard) (x1 : Int) (h : law_ShardGoes N x0 x1 = some r) : Ends (Y := TT) EE (w10G N) w10lv w10rs (fun u => u = w10enc r) (w10kE0 (bodyOf 0 Try.f10)) (w10sE0 x0 x1) :=
  tree_use (w10vE0 N x0 x1) (w10nE0 N x0 x1) h (show (w10TE0 (bodyOf 0 Try.f10) N x0 x1).all _ from fun _ => ⟨fun _ => retp (enc := w10enc) rfl, fun _ => ⟨fun _ => retp (enc := w10enc) rfl, ⟨fun _ => retp (enc := w10enc) rfl, fun h => w10oL6 N _ _ _ _ _ h⟩⟩⟩)
theorem law_ShardGoes_ok {N : Nat} (x0 : VShard) (x1 : Int) {r : Bool} (h : law_ShardGoes N x0 x1 = some r) (ρ : Nat → Nat) : ACalls Try.prog 10 (([.ag (unpT EE (.nam 8) x0), .a (.d (.int .i64) x1)] : List (TV EE.T)).map (TV.to EE.toEnc ρ)) [] (fun out H => out = .ret ((law_ShardGoes_u r).to EE.toEnc ρ) ∧ H = []) :=
  (fn_ok (bodyOf 0 Try.f10) 69 mixed (w10Gok N) Try.func10 (by kernel_rfl) rfl rfl rfl rfl (w10oE0 x0 x1 h) ρ).mono fun out H h => KPost.ret rfl h
def law_ShardGoes_h (N : Nat) : List (TV EE.T) → PV EE.T
  | [u0, u1] => match argS EE 8 u0, argD (.int .i64) u1 with
    | some x0, some x1 => .opt (law_ShardGoes N x0 x1) law_ShardGoes_u
    | _, _ => .bad
  | _ => .bad
theorem law_ShardGoes_hok (N : Nat) (us : List (TV EE.T)) : (law_ShardGoes_h N us).ok fun u => ∀ ρ, ACalls Try.prog 10 (us.map (TV.to EE.toEnc ρ)) [] (fun out H => out = .ret (u.to EE.toEnc ρ) ∧ H = []) := by
  unfold law_ShardGoes_h
  split
  · split
    · rename_i h0 h1
      intro z hz ρ; refine acalls_le ?_ (law_ShardGoes_ok _ _ hz ρ); exact ⟨argS_le h0 ρ, argD_le h1 ρ, trivial⟩
    · trivial
  · trivial
/-! ### gleaner/gleanerlaw.ShardWaits -/
def law_ShardWaits_u (r : Bool) : TV EE.T := .a (.d .bool r)
def w11enc (r : Bool) : RL EE.T := .ret (law_ShardWaits_u r) []
def w11lv : Lvs := ⟨[(10, ⟨[], [], []⟩), (11, ⟨[(2, false), (5, false), (6, false)], [], [(2, (some 8, [])), (6, (some 8, []))]⟩)], [(4, ⟨[(1, false), (2, false), (5, false)], [], [(2, (some 8, []))]⟩)], [10], [], false, [], []⟩
def w11rs : List ResultVar := [.tmp 4]
def w11G (N : Nat) : Gam EE := ⟨[⟨21, law_shardBegun_h N⟩, ⟨30, ref_SameItems_h N⟩, ⟨22, shard_Check_h N⟩, ⟨34, shard_Done_h N⟩], EQT, []⟩
theorem w11Gok (N : Nat) : GOk Try.prog TT EE (w11G N) := GOk.cons (law_shardBegun_hok N) (GOk.cons (ref_SameItems_hok N) (GOk.cons (shard_Check_hok N) (GOk.cons (shard_Done_hok N) (GOk.nil EQT_ok))))
def w11kR10 (c : Code) : List It2 := atR 10 c
def w11sR10 : TS EE.T := ⟨75, [], [], []⟩
def w11kL4 (c : Code) : List It2 := atL 4 c
def w11sL4 (x1 : Int) (x5 : Int) (b2 : VShard) : TS EE.T := ⟨75, [(1, .a (.d (.int .i64) x1)), (2, .a (.box 2 0)), (5, .a (.d (.int .i64) x5))], [(2, .cs (unpT EE (.nam 8) b2))], []⟩
def w11kE0 (c : Code) : List It2 := [.c c]
def w11sE0 (x0 : VShard) (x1 : Int) : TS EE.T := ⟨75, [(0, .ag (unpT EE (.nam 8) x0)), (1, .a (.d (.int .i64) x1))], [], []⟩
def w11TR10 (c : Code) (N : Nat) (k4 : Int → Int → VShard → Option Bool) (n : Nat) : Tree (Lf EE.T × Option Bool) :=
  .leaf (.done (w11enc false), some false)
theorem w11vR10 (N : Nat) (k4 : Int → Int → VShard → Option Bool) (n : Nat) : evM TT EE (w11G N) w11lv w11rs 4000 true (w11kR10 (bodyOf 0 Try.f11)) (w11sR10) = (w11TR10 (bodyOf 0 Try.f11) N k4 n).map1 := by kernel_rfl
theorem w11nR10 (N : Nat) (k4 : Int → Int → VShard → Option Bool) (n : Nat) : law_ShardWaits_R10 N k4 n = (w11TR10 (bodyOf 0 Try.f11) N k4 n).run := by kernel_rfl
theorem w11oR10 {N : Nat} {r : Bool} {k4 : Int → Int → VShard → Option Bool} (hk4 : ∀ x1 x5 b2, k4 x1 x5 b2 = some r → Ends (Y := TT) EE (w11G N) w11lv w11rs (fun u => u = w11enc r) (w11kL4 (bodyOf 0 Try.f11)) (w11sL4 x1 x5 b2)) (n : Nat) (h : law_ShardWaits_R10 N k4 n = some r) : Ends (Y := TT) EE (w11G N) w11lv w11rs (fun u => u = w11enc r) (w11kR10 (bodyOf 0 Try.f11)) (w11sR10) :=
  tree_use (w11vR10 N k4 n) (w11nR10 N k4 n) h (show (w11TR10 (bodyOf 0 Try.f11) N k4 n).all _ from retp (enc := w11enc) rfl)
def w11TL4 (c : Code) (N : Nat) (n : Nat) (x1 : Int) (x5 : Int) (b2 : VShard) : Tree (Lf EE.T × Option Bool) :=
  .cond (decide (x5 < 30))
  (
    .bnd (shard_Done N b2 x1 0) fun z2 =>
    .cond (z2.2 != 0)
    (
      .leaf (.done (w11enc (x5 == 0)), some (x5 == 0)))
    (
      .cond (decide (z2.1.Waits < z2.1.First))
      (
        .leaf (.go (w11kR10 c) (w11sR10), law_ShardWaits_R10 N (law_ShardWaits_L4 N n) n))
      (
        .cond (decide (z2.1.Waits > z2.1.Most))
        (
          .leaf (.go (w11kR10 c) (w11sR10), law_ShardWaits_R10 N (law_ShardWaits_L4 N n) n))
        (
          .cond (decide (z2.1.Waits < b2.Waits))
          (
            .leaf (.go (w11kR10 c) (w11sR10), law_ShardWaits_R10 N (law_ShardWaits_L4 N n) n))
          (
            .cond (decide (z2.1.Till < x1))
            (
              .leaf (.go (w11kR10 c) (w11sR10), law_ShardWaits_R10 N (law_ShardWaits_L4 N n) n))
            (
              .cond (decide (z2.1.Till > 9007199254740991))
              (
                .leaf (.go (w11kR10 c) (w11sR10), law_ShardWaits_R10 N (law_ShardWaits_L4 N n) n))
              (
                .bnd (ref_SameItems N z2.1.Items b2.Items) fun z3 =>
                .cond (!z3)
                (
                  .leaf (.go (w11kR10 c) (w11sR10), law_ShardWaits_R10 N (law_ShardWaits_L4 N n) n))
                (
                  .bnd (shard_Check N z2.1) fun z4 =>
                  .cond (z4 != 0)
                  (
                    .leaf (.go (w11kR10 c) (w11sR10), law_ShardWaits_R10 N (law_ShardWaits_L4 N n) n))
                  (
                    .leaf (.go (w11kL4 c) (w11sL4 z2.1.Till (w64 (x5 + 1)) z2.1), law_ShardWaits_L4 N n z2.1.Till (w64 (x5 + 1)) z2.1))))))))))
  (
    .leaf (.done (w11enc (b2.Waits == b2.Most)), some (b2.Waits == b2.Most)))
theorem w11vL4 (N : Nat) (n : Nat) (x1 : Int) (x5 : Int) (b2 : VShard) : evM TT EE (w11G N) w11lv w11rs 4000 true (w11kL4 (bodyOf 0 Try.f11)) (w11sL4 x1 x5 b2) = (w11TL4 (bodyOf 0 Try.f11) N n x1 x5 b2).map1 := by kernel_rfl
theorem w11nL4 (N : Nat) (n : Nat) (x1 : Int) (x5 : Int) (b2 : VShard) : law_ShardWaits_L4 N (n + 1) x1 x5 b2 = (w11TL4 (bodyOf 0 Try.f11) N n x1 x5 b2).run := by kernel_rfl
theorem w11oL4 {N : Nat} {r : Bool} : ∀ (n : Nat) (x1 : Int) (x5 : Int) (b2 : VShard), law_ShardWaits_L4 N n x1 x5 b2 = some r → Ends (Y := TT) EE (w11G N) w11lv w11rs (fun u => u = w11enc r) (w11kL4 (bodyOf 0 Try.f11)) (w11sL4 x1 x5 b2)
  | 0, _, _, _, h => by cases h
  | n + 1, x1, x5, b2, h => tree_use (w11vL4 N n x1 x5 b2) (w11nL4 N n x1 x5 b2) h (show (w11TL4 (bodyOf 0 Try.f11) N n x1 x5 b2).all _ from ⟨fun _ => ⟨retp (enc := w11enc) rfl, ⟨fun h => w11oR10 (w11oL4 n) n h, ⟨fun h => w11oR10 (w11oL4 n) n h, ⟨fun h => w11oR10 (w11oL4 n) n h, ⟨fun h => w11oR10 (w11oL4 n) n h, ⟨fun h => w11oR10 (w11oL4 n) n h, fun _ => ⟨fun h => w11oR10 (w11oL4 n) n h, fun _ => ⟨fun h => w11oR10 (w11oL4 n) n h, fun h => (w11oL4 n) _ _ _ h⟩⟩⟩⟩⟩⟩⟩⟩, retp (enc := w11enc) rfl⟩)
def w11TE0 (c : Code) (N : Nat) (x0 : VShard) (x1 : Int) : Tree (Lf EE.T × Option Bool) :=
  .bnd (law_shardBegun N) fun z1 =>
  .cond (!z1)
  (
    .leaf (.done (w11enc false), some false))
  (
    .leaf (.go (w11kL4 c) (w11sL4 x1 0 x0), law_ShardWaits_L4 N N x1 0 x0))
theorem w11vE0 (N : Nat) (x0 : VShard) (x1 : Int) : evM TT EE (w11G N) w11lv w11rs 4000 true (w11kE0 (bodyOf 0 Try.f11)) (w11sE0 x0 x1) = (w11TE0 (bodyOf 0 Try.f11) N x0 x1).map1 := by kernel_rfl
theorem w11nE0 (N : Nat) (x0 : VShard) (x1 : Int) : law_ShardWaits N x0 x1 = (w11TE0 (bodyOf 0 Try.f11) N x0 x1).run := by kernel_rfl
theorem w11oE0 {N : Nat} {r : Bool} (x0 : VShard) (x1 : Int) (h : law_ShardWaits N x0 x1 = some r) : Ends (Y := TT) EE (w11G N) w11lv w11rs (fun u => u = w11enc r) (w11kE0 (bodyOf 0 Try.f11)) (w11sE0 x0 x1) :=
  tree_use (w11vE0 N x0 x1) (w11nE0 N x0 x1) h (show (w11TE0 (bodyOf 0 Try.f11) N x0 x1).all _ from fun _ => ⟨retp (enc := w11enc) rfl, fun h => w11oL4 N _ _ _ h⟩)
theorem law_ShardWaits_ok {N : Nat} (x0 : VShard) (x1 : Int) {r : Bool} (h : law_ShardWaits N x0 x1 = some r) (ρ : Nat → Nat) : ACalls Try.prog 11 (([.ag (unpT EE (.nam 8) x0), .a (.d (.int .i64) x1)] : List (TV EE.T)).map (TV.to EE.toEnc ρ)) [] (fun out H => out = .ret ((law_ShardWaits_u r).to EE.toEnc ρ) ∧ H = []) :=
  (fn_ok (bodyOf 0 Try.f11) 75 mixed (w11Gok N) Try.func11 (by kernel_rfl) rfl rfl rfl rfl (w11oE0 x0 x1 h) ρ).mono fun out H h => KPost.ret rfl h
def law_ShardWaits_h (N : Nat) : List (TV EE.T) → PV EE.T
  | [u0, u1] => match argS EE 8 u0, argD (.int .i64) u1 with
    | some x0, some x1 => .opt (law_ShardWaits N x0 x1) law_ShardWaits_u
    | _, _ => .bad
  | _ => .bad
theorem law_ShardWaits_hok (N : Nat) (us : List (TV EE.T)) : (law_ShardWaits_h N us).ok fun u => ∀ ρ, ACalls Try.prog 11 (us.map (TV.to EE.toEnc ρ)) [] (fun out H => out = .ret (u.to EE.toEnc ρ) ∧ H = []) := by
  unfold law_ShardWaits_h
  split
  · split
    · rename_i h0 h1
      intro z hz ρ; refine acalls_le ?_ (law_ShardWaits_ok _ _ hz ρ); exact ⟨argS_le h0 ρ, argD_le h1 ρ, trivial⟩
    · trivial
  · trivial
end Go.Proofs.Ytofidfkojmbdoaa
