/- The walks that prove plain functions right, written by gen/tgl.py. -/
import Derived.Test.YtofidfkojmbdoaaFS2p
import Derived.Test.YtofidfkojmbdoaaFS1
namespace Go.Proofs.Ytofidfkojmbdoaa
open Go.RowKit P
set_option linter.unusedVariables false
set_option linter.unusedSimpArgs false
set_option maxRecDepth 100000
/-! ### gleaner/gleanerref.Xor -/
def ref_Xor_u (r : Int) : TV EE.T := .a (.d (.int .i64) r)
def w71enc (r : Int) : RL EE.T := .ret (ref_Xor_u r) []
def w71lv : Lvs := ⟨[(3, ⟨[(0, false), (1, false), (5, false), (6, false)], [], []⟩), (5, ⟨[(0, false), (1, false), (5, false), (6, false)], [], []⟩)], [(2, ⟨[(0, false), (1, false), (5, false), (6, false)], [], []⟩)], [3, 5], [], false, [], []⟩
def w71rs : List ResultVar := [.tmp 4]
def w71G (N : Nat) : Gam EE := ⟨[], EQT, [], []⟩
theorem w71Gok (N : Nat) : GOk Try.prog TT EE (w71G N) := GOk.nil EQT_ok
def w71kR5 (c : Code) : List It2 := atR 5 c
def w71sR5 (x0 : Int) (x1 : Int) (x5 : Int) (x6 : Int) : TS EE.T := ⟨28, [(0, .a (.d (.int .i64) x0)), (1, .a (.d (.int .i64) x1)), (5, .a (.d (.int .i64) x5)), (6, .a (.d (.int .i64) x6))], [], []⟩
def w71kR3 (c : Code) : List It2 := atR 3 c
def w71sR3 (x0 : Int) (x1 : Int) (x5 : Int) (x6 : Int) : TS EE.T := ⟨28, [(0, .a (.d (.int .i64) x0)), (1, .a (.d (.int .i64) x1)), (5, .a (.d (.int .i64) x5)), (6, .a (.d (.int .i64) x6))], [], []⟩
def w71kL2 (c : Code) : List It2 := atL 2 c
def w71sL2 (x0 : Int) (x1 : Int) (x5 : Int) (x6 : Int) : TS EE.T := ⟨28, [(0, .a (.d (.int .i64) x0)), (1, .a (.d (.int .i64) x1)), (5, .a (.d (.int .i64) x5)), (6, .a (.d (.int .i64) x6))], [], []⟩
def w71kE0 (c : Code) : List It2 := [.c c]
def w71sE0 (x0 : Int) (x1 : Int) : TS EE.T := ⟨28, [(0, .a (.d (.int .i64) x0)), (1, .a (.d (.int .i64) x1))], [], []⟩
def w71TR5 (c : Code) (N : Nat) (k2 : Int → Int → Int → Int → Option Int) (n : Nat) (x0 : Int) (x1 : Int) (x5 : Int) (x6 : Int) : Tree (Lf EE.T × Option Int) :=
  .bnd (quoC .i64 x0 2) fun z3 =>
  .bnd (quoC .i64 x1 2) fun z4 =>
  .leaf (.go (w71kL2 c) (w71sL2 z3 z4 x5 (w64 (2 * x6))), k2 z3 z4 x5 (w64 (2 * x6)))
theorem w71vR5 (N : Nat) (k2 : Int → Int → Int → Int → Option Int) (n : Nat) (x0 : Int) (x1 : Int) (x5 : Int) (x6 : Int) : evM TT EE (w71G N) w71lv w71rs 4000 true (w71kR5 (bodyOf 0 Try.f71)) (w71sR5 x0 x1 x5 x6) = (w71TR5 (bodyOf 0 Try.f71) N k2 n x0 x1 x5 x6).map1 := by kernel_rfl
theorem w71nR5 (N : Nat) (k2 : Int → Int → Int → Int → Option Int) (n : Nat) (x0 : Int) (x1 : Int) (x5 : Int) (x6 : Int) : ref_Xor_R5 N k2 n x0 x1 x5 x6 = (w71TR5 (bodyOf 0 Try.f71) N k2 n x0 x1 x5 x6).run := by kernel_rfl
theorem w71oR5 {N : Nat} {r : Int} {k2 : Int → Int → Int → Int → Option Int} (hk2 : ∀ x0 x1 x5 x6, k2 x0 x1 x5 x6 = some r → Ends (Y := TT) EE (w71G N) w71lv w71rs (fun u => u = w71enc r) (w71kL2 (bodyOf 0 Try.f71)) (w71sL2 x0 x1 x5 x6)) (n : Nat) (x0 : Int) (x1 : Int) (x5 : Int) (x6 : Int) (h : ref_Xor_R5 N k2 n x0 x1 x5 x6 = some r) : Ends (Y := TT) EE (w71G N) w71lv w71rs (fun u => u = w71enc r) (w71kR5 (bodyOf 0 Try.f71)) (w71sR5 x0 x1 x5 x6) :=
  tree_use (w71vR5 N k2 n x0 x1 x5 x6) (w71nR5 N k2 n x0 x1 x5 x6) h (show (w71TR5 (bodyOf 0 Try.f71) N k2 n x0 x1 x5 x6).all _ from fun _ => fun _ => fun h => hk2 _ _ _ _ h)
def w71TR3 (c : Code) (N : Nat) (k2 : Int → Int → Int → Int → Option Int) (n : Nat) (x0 : Int) (x1 : Int) (x5 : Int) (x6 : Int) : Tree (Lf EE.T × Option Int) :=
  .bnd (remC x0 2) fun z1 =>
  .bnd (remC x1 2) fun z2 =>
  .cond (z1 != z2)
  (
    .leaf (.go (w71kR5 c) (w71sR5 x0 x1 (w64 (x5 + x6)) x6), ref_Xor_R5 N k2 n x0 x1 (w64 (x5 + x6)) x6))
  (
    .leaf (.go (w71kR5 c) (w71sR5 x0 x1 x5 x6), ref_Xor_R5 N k2 n x0 x1 x5 x6))
theorem w71vR3 (N : Nat) (k2 : Int → Int → Int → Int → Option Int) (n : Nat) (x0 : Int) (x1 : Int) (x5 : Int) (x6 : Int) : evM TT EE (w71G N) w71lv w71rs 4000 true (w71kR3 (bodyOf 0 Try.f71)) (w71sR3 x0 x1 x5 x6) = (w71TR3 (bodyOf 0 Try.f71) N k2 n x0 x1 x5 x6).map1 := by kernel_rfl
theorem w71nR3 (N : Nat) (k2 : Int → Int → Int → Int → Option Int) (n : Nat) (x0 : Int) (x1 : Int) (x5 : Int) (x6 : Int) : ref_Xor_R3 N k2 n x0 x1 x5 x6 = (w71TR3 (bodyOf 0 Try.f71) N k2 n x0 x1 x5 x6).run := by kernel_rfl
theorem w71oR3 {N : Nat} {r : Int} {k2 : Int → Int → Int → Int → Option Int} (hk2 : ∀ x0 x1 x5 x6, k2 x0 x1 x5 x6 = some r → Ends (Y := TT) EE (w71G N) w71lv w71rs (fun u => u = w71enc r) (w71kL2 (bodyOf 0 Try.f71)) (w71sL2 x0 x1 x5 x6)) (n : Nat) (x0 : Int) (x1 : Int) (x5 : Int) (x6 : Int) (h : ref_Xor_R3 N k2 n x0 x1 x5 x6 = some r) : Ends (Y := TT) EE (w71G N) w71lv w71rs (fun u => u = w71enc r) (w71kR3 (bodyOf 0 Try.f71)) (w71sR3 x0 x1 x5 x6) :=
  tree_use (w71vR3 N k2 n x0 x1 x5 x6) (w71nR3 N k2 n x0 x1 x5 x6) h (show (w71TR3 (bodyOf 0 Try.f71) N k2 n x0 x1 x5 x6).all _ from fun _ => fun _ => ⟨fun h => w71oR5 hk2 n _ _ _ _ h, fun h => w71oR5 hk2 n _ _ _ _ h⟩)
def w71TL2 (c : Code) (N : Nat) (n : Nat) (x0 : Int) (x1 : Int) (x5 : Int) (x6 : Int) : Tree (Lf EE.T × Option Int) :=
  .cond (decide (x0 > 0))
  (
    .leaf (.go (w71kR3 c) (w71sR3 x0 x1 x5 x6), ref_Xor_R3 N (ref_Xor_L2 N n) n x0 x1 x5 x6))
  (
    .cond (decide (x1 > 0))
    (
      .leaf (.go (w71kR3 c) (w71sR3 x0 x1 x5 x6), ref_Xor_R3 N (ref_Xor_L2 N n) n x0 x1 x5 x6))
    (
      .leaf (.done (w71enc x5), some x5)))
theorem w71vL2 (N : Nat) (n : Nat) (x0 : Int) (x1 : Int) (x5 : Int) (x6 : Int) : evM TT EE (w71G N) w71lv w71rs 4000 true (w71kL2 (bodyOf 0 Try.f71)) (w71sL2 x0 x1 x5 x6) = (w71TL2 (bodyOf 0 Try.f71) N n x0 x1 x5 x6).map1 := by kernel_rfl
theorem w71nL2 (N : Nat) (n : Nat) (x0 : Int) (x1 : Int) (x5 : Int) (x6 : Int) : ref_Xor_L2 N (n + 1) x0 x1 x5 x6 = (w71TL2 (bodyOf 0 Try.f71) N n x0 x1 x5 x6).run := by kernel_rfl
theorem w71oL2 {N : Nat} {r : Int} : ∀ (n : Nat) (x0 : Int) (x1 : Int) (x5 : Int) (x6 : Int), ref_Xor_L2 N n x0 x1 x5 x6 = some r → Ends (Y := TT) EE (w71G N) w71lv w71rs (fun u => u = w71enc r) (w71kL2 (bodyOf 0 Try.f71)) (w71sL2 x0 x1 x5 x6)
  | 0, _, _, _, _, h => by cases h
  | n + 1, x0, x1, x5, x6, h => tree_use (w71vL2 N n x0 x1 x5 x6) (w71nL2 N n x0 x1 x5 x6) h (show (w71TL2 (bodyOf 0 Try.f71) N n x0 x1 x5 x6).all _ from ⟨fun h => w71oR3 (w71oL2 n) n _ _ _ _ h, ⟨fun h => w71oR3 (w71oL2 n) n _ _ _ _ h, retp (enc := w71enc) rfl⟩⟩)
def w71TE0 (c : Code) (N : Nat) (x0 : Int) (x1 : Int) : Tree (Lf EE.T × Option Int) :=
  .leaf (.go (w71kL2 c) (w71sL2 x0 x1 0 1), ref_Xor_L2 N N x0 x1 0 1)
theorem w71vE0 (N : Nat) (x0 : Int) (x1 : Int) : evM TT EE (w71G N) w71lv w71rs 4000 true (w71kE0 (bodyOf 0 Try.f71)) (w71sE0 x0 x1) = (w71TE0 (bodyOf 0 Try.f71) N x0 x1).map1 := by kernel_rfl
theorem w71nE0 (N : Nat) (x0 : Int) (x1 : Int) : ref_Xor N x0 x1 = (w71TE0 (bodyOf 0 Try.f71) N x0 x1).run := by kernel_rfl
theorem w71oE0 {N : Nat} {r : Int} (x0 : Int) (x1 : Int) (h : ref_Xor N x0 x1 = some r) : Ends (Y := TT) EE (w71G N) w71lv w71rs (fun u => u = w71enc r) (w71kE0 (bodyOf 0 Try.f71)) (w71sE0 x0 x1) :=
  tree_use (w71vE0 N x0 x1) (w71nE0 N x0 x1) h (show (w71TE0 (bodyOf 0 Try.f71) N x0 x1).all _ from fun h => w71oL2 N _ _ _ _ h)
theorem ref_Xor_ok {N : Nat} (x0 : Int) (x1 : Int) {r : Int} (h : ref_Xor N x0 x1 = some r) (ρ : Nat → Nat) : ACalls Try.prog 71 (([.a (.d (.int .i64) x0), .a (.d (.int .i64) x1)] : List (TV EE.T)).map (TV.to EE.toEnc ρ)) [] (fun out H => out = .ret ((ref_Xor_u r).to EE.toEnc ρ) ∧ H = []) :=
  (fn_ok (bodyOf 0 Try.f71) 28 mixed (w71Gok N) Try.func71 (by kernel_rfl) rfl rfl rfl rfl (w71oE0 x0 x1 h) ρ).mono fun out H h => KPost.ret rfl h
def ref_Xor_h (N : Nat) : List (TV EE.T) → PV EE.T
  | [u0, u1] => match argD (.int .i64) u0, argD (.int .i64) u1 with
    | some x0, some x1 => .opt (ref_Xor N x0 x1) ref_Xor_u
    | _, _ => .bad
  | _ => .bad
theorem ref_Xor_hok (N : Nat) (us : List (TV EE.T)) : (ref_Xor_h N us).ok fun u => ∀ ρ, ACalls Try.prog 71 (us.map (TV.to EE.toEnc ρ)) [] (fun out H => out = .ret (u.to EE.toEnc ρ) ∧ H = []) := by
  unfold ref_Xor_h
  split
  · split
    · rename_i h0 h1
      intro z hz ρ; refine acalls_le ?_ (ref_Xor_ok _ _ hz ρ); exact ⟨argD_le h0 ρ, argD_le h1 ρ, trivial⟩
    · trivial
  · trivial
/-! ### gleaner/gleanerref.SumOf$1 -/
def ref_SumOf_1_i0_u (r : List Int) : TV EE.T := .tu []
def w70i0hh (i0 : Nat) (i1 : Nat) (r : List Int) : List (Nat × TB EE.T) := [(i0, .cs [.bsl i1 0 4 4]), (i1, .row (.int .i64) r)]
def w70i0enc (r : List Int) : RL EE.T := .ret (ref_SumOf_1_i0_u r) (w70i0hh 100000 100001 r)
def w70i0lv : Lvs := ⟨[(0, ⟨[(0, false), (1, false)], [], [(100000, (none, [])), (100001, (none, []))]⟩), (1, ⟨[(1, false)], [], [(100000, (none, [])), (100001, (none, []))]⟩), (6, ⟨[(1, false), (3, false), (4, false), (5, false)], [], [(100000, (none, [])), (100001, (none, []))]⟩)], [(4, ⟨[(1, false), (3, false), (4, false), (5, false)], [], [(100000, (none, [])), (100001, (none, []))]⟩)], [], [], false, [(100000, (none, [])), (100001, (none, []))], [100000, 100001]⟩
def w70i0rs : List ResultVar := []
def w70i0G (N : Nat) : Gam EE := ⟨[⟨71, ref_Xor_h N⟩], EQT, [], []⟩
theorem w70i0Gok (N : Nat) : GOk Try.prog TT EE (w70i0G N) := GOk.cons (ref_Xor_hok N) (GOk.nil EQT_ok)
def w70i0kL4 (c : Code) : List It2 := atL 4 c
def w70i0sL4 (x3 : List Int) (x4 : Int) (x5 : Int) (b100001 : List Int) : TS EE.T := ⟨59, [(1, .a (.box 100000 0)), (3, .a (.d (.sl (.int .i64)) x3)), (4, .a (.d (.int .i64) x4)), (5, .a (.d (.int .i64) x5))], [(100000, .cs [.bsl 100001 0 4 4]), (100001, .row (.int .i64) b100001)], []⟩
def w70i0kE0 (c : Code) : List It2 := [.c c]
def w70i0sE0 (x0 : Int) (y1 : List Int) : TS EE.T := ⟨59, [(0, .a (.d (.int .i64) x0)), (1, .a (.box 100000 0))], [(100000, .cs [.bsl 100001 0 4 4]), (100001, .row (.int .i64) y1)], []⟩
def w70i0TL4 (c : Code) (N : Nat) (n : Nat) (x3 : List Int) (x4 : Int) (x5 : Int) (b100001 : List Int) : Tree (Lf EE.T × Option (List Int)) :=
  .cond (decide (x5 < 4))
  (
    .bnd (idxN 4 x5) fun z19 =>
    .bnd (b100001[0 + z19]?) fun z20 =>
    .bnd (idxC x3 x5) fun z21 =>
    .bnd (remC (w64 (x4 + (w64 ((w64 (z20 * 435)) + z21)))) 65536) fun z22 =>
    .bnd (quoC .i64 (w64 (x4 + (w64 ((w64 (z20 * 435)) + z21)))) 65536) fun z23 =>
    .bnd (idxN 4 x5) fun z24 =>
    .bnd (setA b100001 (0 + z24) z22) fun z25 =>
    .leaf (.go (w70i0kL4 c) (w70i0sL4 x3 z23 (w64 (x5 + 1)) z25), ref_SumOf_1_i0_L4 N n x3 z23 (w64 (x5 + 1)) z25))
  (
    .leaf (.done (w70i0enc b100001), some b100001))
theorem w70i0vL4 (N : Nat) (n : Nat) (x3 : List Int) (x4 : Int) (x5 : Int) (b100001 : List Int) : evM TT EE (w70i0G N) w70i0lv w70i0rs 4000 true (w70i0kL4 (bodyOf 0 Try.f70)) (w70i0sL4 x3 x4 x5 b100001) = (w70i0TL4 (bodyOf 0 Try.f70) N n x3 x4 x5 b100001).map1 := by kernel_rfl
theorem w70i0nL4 (N : Nat) (n : Nat) (x3 : List Int) (x4 : Int) (x5 : Int) (b100001 : List Int) : ref_SumOf_1_i0_L4 N (n + 1) x3 x4 x5 b100001 = (w70i0TL4 (bodyOf 0 Try.f70) N n x3 x4 x5 b100001).run := by kernel_rfl
theorem w70i0oL4 {N : Nat} {r : List Int} : ∀ (n : Nat) (x3 : List Int) (x4 : Int) (x5 : Int) (b100001 : List Int), ref_SumOf_1_i0_L4 N n x3 x4 x5 b100001 = some r → Ends (Y := TT) EE (w70i0G N) w70i0lv w70i0rs (fun u => u = w70i0enc r) (w70i0kL4 (bodyOf 0 Try.f70)) (w70i0sL4 x3 x4 x5 b100001)
  | 0, _, _, _, _, h => by cases h
  | n + 1, x3, x4, x5, b100001, h => tree_use (w70i0vL4 N n x3 x4 x5 b100001) (w70i0nL4 N n x3 x4 x5 b100001) h (show (w70i0TL4 (bodyOf 0 Try.f70) N n x3 x4 x5 b100001).all _ from ⟨fun _ => fun _ => fun _ => fun _ => fun _ => fun _ => fun _ => fun h => (w70i0oL4 n) _ _ _ _ h, retp (enc := w70i0enc) rfl⟩)
def w70i0TE0 (c : Code) (N : Nat) (x0 : Int) (y1 : List Int) : Tree (Lf EE.T × Option (List Int)) :=
  .bnd (idxN 4 0) fun z1 =>
  .bnd (y1[0 + z1]?) fun z2 =>
  .bnd (quoC .i64 z2 256) fun z3 =>
  .bnd (idxN 4 0) fun z4 =>
  .bnd (y1[0 + z4]?) fun z5 =>
  .bnd (remC z5 256) fun z6 =>
  .bnd (ref_Xor N z6 x0) fun z7 =>
  .bnd (idxN 4 0) fun z8 =>
  .bnd (setA y1 (0 + z8) (w64 ((w64 (z3 * 256)) + z7))) fun z9 =>
  .bnd (idxN 4 0) fun z10 =>
  .bnd (z9[0 + z10]?) fun z11 =>
  .bnd (remC z11 256) fun z12 =>
  .bnd (idxN 4 0) fun z13 =>
  .bnd (z9[0 + z13]?) fun z14 =>
  .bnd (quoC .i64 z14 256) fun z15 =>
  .bnd (idxN 4 1) fun z16 =>
  .bnd (z9[0 + z16]?) fun z17 =>
  .bnd (remC z17 256) fun z18 =>
  .leaf (.go (w70i0kL4 c) (w70i0sL4 ([0, 0, w64 (z12 * 256), w64 (z15 + (w64 (z18 * 256)))] : List Int) 0 0 z9), ref_SumOf_1_i0_L4 N N ([0, 0, w64 (z12 * 256), w64 (z15 + (w64 (z18 * 256)))] : List Int) 0 0 z9)
theorem w70i0vE0 (N : Nat) (x0 : Int) (y1 : List Int) : evM TT EE (w70i0G N) w70i0lv w70i0rs 4000 true (w70i0kE0 (bodyOf 0 Try.f70)) (w70i0sE0 x0 y1) = (w70i0TE0 (bodyOf 0 Try.f70) N x0 y1).map1 := by kernel_rfl
theorem w70i0nE0 (N : Nat) (x0 : Int) (y1 : List Int) : ref_SumOf_1_i0 N x0 y1 = (w70i0TE0 (bodyOf 0 Try.f70) N x0 y1).run := by kernel_rfl
theorem w70i0oE0 {N : Nat} {r : List Int} (x0 : Int) (y1 : List Int) (h : ref_SumOf_1_i0 N x0 y1 = some r) : Ends (Y := TT) EE (w70i0G N) w70i0lv w70i0rs (fun u => u = w70i0enc r) (w70i0kE0 (bodyOf 0 Try.f70)) (w70i0sE0 x0 y1) :=
  tree_use (w70i0vE0 N x0 y1) (w70i0nE0 N x0 y1) h (show (w70i0TE0 (bodyOf 0 Try.f70) N x0 y1).all _ from fun _ => fun _ => fun _ => fun _ => fun _ => fun _ => fun _ => fun _ => fun _ => fun _ => fun _ => fun _ => fun _ => fun _ => fun _ => fun _ => fun _ => fun _ => fun h => w70i0oL4 N _ _ _ _ h)
def w70i0us (x0 : Int) (y1 : List Int) : List (TV EE.T) := [.a (.d (.int .i64) x0), .a (.box 100000 0)]
def w70i0h0 (x0 : Int) (y1 : List Int) : List (Nat × TB EE.T) := [(100000, .cs [.bsl 100001 0 4 4]), (100001, .row (.int .i64) y1)]
theorem ref_SumOf_1_i0_ok {N : Nat} (x0 : Int) (y1 : List Int) {r : List Int} (h : ref_SumOf_1_i0 N x0 y1 = some r) (ρ : Nat → Nat) (hi : Inj ρ (w70i0h0 x0 y1)) : ACalls Try.prog 70 ((w70i0us x0 y1).map (TV.to EE.toEnc ρ)) (hTo EE.toEnc ρ (w70i0h0 x0 y1)) (fun out H => out = .ret ((ref_SumOf_1_i0_u r).to EE.toEnc ρ) ∧ H = hTo EE.toEnc ρ (w70i0hh 100000 100001 r)) :=
  (fn_okH (bodyOf 0 Try.f70) 59 mixed (w70i0Gok N) Try.func70 (by kernel_rfl) rfl rfl rfl rfl (w70i0oE0 x0 y1 h) ρ hi).mono fun out H h => KPost.retH rfl rfl h
def ref_SumOf_1_i0_h (N : Nat) (us : List (TV EE.T)) (hs : List (Nat × TB EE.T)) : XR EE.T :=
  gdX (lenX us 2) <|
  bnX (aD (.int .i64) us 0) fun x0 =>
  bnX (aB us 1) fun i0 =>
  bnX (bC hs i0) fun l0 =>
  gdX (lenX l0 1) <|
  bnX (cW 0 4 4 l0 0) fun i1 =>
  bnX (bR (.int .i64) hs i1) fun y1 =>
  gdX (goodIds hs [i0, i1]) <|
  .ret (ref_SumOf_1_i0 N x0 y1) [i0, i1] ref_SumOf_1_i0_u (w70i0hh i0 i1)
theorem ref_SumOf_1_i0_hok (N : Nat) : XOk Try.prog EE 70 (ref_SumOf_1_i0_h N) := fun us hs =>
  gdX_ok fun h1 => bnX_ok fun x0 h2 => bnX_ok fun i0 h3 => bnX_ok fun l0 h4 => gdX_ok fun h5 => bnX_ok fun i1 h6 => bnX_ok fun y1 h7 => gdX_ok fun h8 => fun z hz => ⟨rfl, fun ρ hi => xcall (us' := w70i0us x0 y1) (h0 := w70i0h0 x0 y1) (ρ' := rhoS ρ [i0, i1]) ⟨aD_le h2, aB_le h3 (by kernel_rfl), lenX_ok h1⟩ ⟨(by kernel_rfl), bC_le h4 ⟨cW_le h6 (by kernel_rfl), lenX_ok h5⟩, (by kernel_rfl), bR_le h7, trivial⟩ (ref_SumOf_1_i0_ok x0 y1 hz _ (rhoS_inj hi h8 _ (by kernel_rfl))) (fun out H h => ⟨h.1.trans (by kernel_rfl), h.2.trans (by kernel_rfl)⟩)⟩
/-! ### gleaner/gleanerref.SumOf$2 -/
def ref_SumOf_2_i0_u (r : List Int) : TV EE.T := .tu []
def w72i0hh (i0 : Nat) (i1 : Nat) (i2 : Nat) (r : List Int) : List (Nat × TB EE.T) := [(i0, .cs [.fnb 70 [i1]]), (i1, .cs [.bsl i2 0 4 4]), (i2, .row (.int .i64) r)]
def w72i0enc (r : List Int) : RL EE.T := .ret (ref_SumOf_2_i0_u r) (w72i0hh 100000 100001 100002 r)
def w72i0lv : Lvs := ⟨[(3, ⟨[(0, false), (1, false), (3, false)], [], [(100000, (none, [])), (100001, (none, [])), (100002, (none, []))]⟩)], [(1, ⟨[(0, false), (1, false), (3, false)], [], [(100000, (none, [])), (100001, (none, [])), (100002, (none, []))]⟩)], [], [], false, [(100000, (none, [])), (100001, (none, [])), (100002, (none, []))], [100000, 100001, 100002]⟩
def w72i0rs : List ResultVar := []
def w72i0G (N : Nat) : Gam EE := ⟨[], EQT, [⟨70, ref_SumOf_1_i0_h N⟩], [15]⟩
theorem w72i0Gok (N : Nat) : GOk Try.prog TT EE (w72i0G N) := GOk.consx (ref_SumOf_1_i0_hok N) (GOk.nil EQT_ok)
def w72i0kL1 (c : Code) : List It2 := atL 1 c
def w72i0sL1 (x0 : List UInt8) (x3 : Int) (b100002 : List Int) : TS EE.T := ⟨18, [(0, .a (.d .str x0)), (1, .a (.box 100000 0)), (3, .a (.d (.int .i64) x3))], [(100000, .cs [.fnb 70 [100001]]), (100001, .cs [.bsl 100002 0 4 4]), (100002, .row (.int .i64) b100002)], []⟩
def w72i0kE0 (c : Code) : List It2 := [.c c]
def w72i0sE0 (x0 : List UInt8) (y2 : List Int) : TS EE.T := ⟨18, [(0, .a (.d .str x0)), (1, .a (.box 100000 0))], [(100000, .cs [.fnb 70 [100001]]), (100001, .cs [.bsl 100002 0 4 4]), (100002, .row (.int .i64) y2)], []⟩
def w72i0TL1 (c : Code) (N : Nat) (n : Nat) (x0 : List UInt8) (x3 : Int) (b100002 : List Int) : Tree (Lf EE.T × Option (List Int)) :=
  .cond (decide (x3 < (x0.length : Int)))
  (
    .bnd (idxC x0 x3) fun z1 =>
    .bnd (ref_SumOf_1_i0 N (w64 (b2i z1)) b100002) fun z2 =>
    .leaf (.go (w72i0kL1 c) (w72i0sL1 x0 (w64 (x3 + 1)) z2), ref_SumOf_2_i0_L1 N n x0 (w64 (x3 + 1)) z2))
  (
    .bnd (ref_SumOf_1_i0 N 255 b100002) fun z3 =>
    .leaf (.done (w72i0enc z3), some z3))
theorem w72i0vL1 (N : Nat) (n : Nat) (x0 : List UInt8) (x3 : Int) (b100002 : List Int) : evM TT EE (w72i0G N) w72i0lv w72i0rs 4000 true (w72i0kL1 (bodyOf 0 Try.f72)) (w72i0sL1 x0 x3 b100002) = (w72i0TL1 (bodyOf 0 Try.f72) N n x0 x3 b100002).map1 := by kernel_rfl
theorem w72i0nL1 (N : Nat) (n : Nat) (x0 : List UInt8) (x3 : Int) (b100002 : List Int) : ref_SumOf_2_i0_L1 N (n + 1) x0 x3 b100002 = (w72i0TL1 (bodyOf 0 Try.f72) N n x0 x3 b100002).run := by kernel_rfl
theorem w72i0oL1 {N : Nat} {r : List Int} : ∀ (n : Nat) (x0 : List UInt8) (x3 : Int) (b100002 : List Int), ref_SumOf_2_i0_L1 N n x0 x3 b100002 = some r → Ends (Y := TT) EE (w72i0G N) w72i0lv w72i0rs (fun u => u = w72i0enc r) (w72i0kL1 (bodyOf 0 Try.f72)) (w72i0sL1 x0 x3 b100002)
  | 0, _, _, _, h => by cases h
  | n + 1, x0, x3, b100002, h => tree_use (w72i0vL1 N n x0 x3 b100002) (w72i0nL1 N n x0 x3 b100002) h (show (w72i0TL1 (bodyOf 0 Try.f72) N n x0 x3 b100002).all _ from ⟨fun _ => fun _ => fun h => (w72i0oL1 n) _ _ _ h, fun _ => retp (enc := w72i0enc) rfl⟩)
def w72i0TE0 (c : Code) (N : Nat) (x0 : List UInt8) (y2 : List Int) : Tree (Lf EE.T × Option (List Int)) :=
  .leaf (.go (w72i0kL1 c) (w72i0sL1 x0 0 y2), ref_SumOf_2_i0_L1 N N x0 0 y2)
theorem w72i0vE0 (N : Nat) (x0 : List UInt8) (y2 : List Int) : evM TT EE (w72i0G N) w72i0lv w72i0rs 4000 true (w72i0kE0 (bodyOf 0 Try.f72)) (w72i0sE0 x0 y2) = (w72i0TE0 (bodyOf 0 Try.f72) N x0 y2).map1 := by kernel_rfl
theorem w72i0nE0 (N : Nat) (x0 : List UInt8) (y2 : List Int) : ref_SumOf_2_i0 N x0 y2 = (w72i0TE0 (bodyOf 0 Try.f72) N x0 y2).run := by kernel_rfl
theorem w72i0oE0 {N : Nat} {r : List Int} (x0 : List UInt8) (y2 : List Int) (h : ref_SumOf_2_i0 N x0 y2 = some r) : Ends (Y := TT) EE (w72i0G N) w72i0lv w72i0rs (fun u => u = w72i0enc r) (w72i0kE0 (bodyOf 0 Try.f72)) (w72i0sE0 x0 y2) :=
  tree_use (w72i0vE0 N x0 y2) (w72i0nE0 N x0 y2) h (show (w72i0TE0 (bodyOf 0 Try.f72) N x0 y2).all _ from fun h => w72i0oL1 N _ _ _ h)
def w72i0us (x0 : List UInt8) (y2 : List Int) : List (TV EE.T) := [.a (.d .str x0), .a (.box 100000 0)]
def w72i0h0 (x0 : List UInt8) (y2 : List Int) : List (Nat × TB EE.T) := [(100000, .cs [.fnb 70 [100001]]), (100001, .cs [.bsl 100002 0 4 4]), (100002, .row (.int .i64) y2)]
theorem ref_SumOf_2_i0_ok {N : Nat} (x0 : List UInt8) (y2 : List Int) {r : List Int} (h : ref_SumOf_2_i0 N x0 y2 = some r) (ρ : Nat → Nat) (hi : Inj ρ (w72i0h0 x0 y2)) : ACalls Try.prog 72 ((w72i0us x0 y2).map (TV.to EE.toEnc ρ)) (hTo EE.toEnc ρ (w72i0h0 x0 y2)) (fun out H => out = .ret ((ref_SumOf_2_i0_u r).to EE.toEnc ρ) ∧ H = hTo EE.toEnc ρ (w72i0hh 100000 100001 100002 r)) :=
  (fn_okH (bodyOf 0 Try.f72) 18 mixed (w72i0Gok N) Try.func72 (by kernel_rfl) rfl rfl rfl rfl (w72i0oE0 x0 y2 h) ρ hi).mono fun out H h => KPost.retH rfl rfl h
def ref_SumOf_2_i0_h (N : Nat) (us : List (TV EE.T)) (hs : List (Nat × TB EE.T)) : XR EE.T :=
  gdX (lenX us 2) <|
  bnX (aD .str us 0) fun x0 =>
  bnX (aB us 1) fun i0 =>
  bnX (bC hs i0) fun l0 =>
  gdX (lenX l0 1) <|
  bnX (cF 70 l0 0) fun s0_0 =>
  gdX (lenX s0_0 1) <|
  bnX (s0_0[0]?) fun i1 =>
  bnX (bC hs i1) fun l1 =>
  gdX (lenX l1 1) <|
  bnX (cW 0 4 4 l1 0) fun i2 =>
  bnX (bR (.int .i64) hs i2) fun y2 =>
  gdX (goodIds hs [i0, i1, i2]) <|
  .ret (ref_SumOf_2_i0 N x0 y2) [i0, i1, i2] ref_SumOf_2_i0_u (w72i0hh i0 i1 i2)
theorem ref_SumOf_2_i0_hok (N : Nat) : XOk Try.prog EE 72 (ref_SumOf_2_i0_h N) := fun us hs =>
  gdX_ok fun h1 => bnX_ok fun x0 h2 => bnX_ok fun i0 h3 => bnX_ok fun l0 h4 => gdX_ok fun h5 => bnX_ok fun s0_0 h6 => gdX_ok fun h7 => bnX_ok fun i1 h8 => bnX_ok fun l1 h9 => gdX_ok fun h10 => bnX_ok fun i2 h11 => bnX_ok fun y2 h12 => gdX_ok fun h13 => fun z hz => ⟨rfl, fun ρ hi => xcall (us' := w72i0us x0 y2) (h0 := w72i0h0 x0 y2) (ρ' := rhoS ρ [i0, i1, i2]) ⟨aD_le h2, aB_le h3 (by kernel_rfl), lenX_ok h1⟩ ⟨(by kernel_rfl), bC_le h4 ⟨cF_le (js := [100001]) h6 (by rw [lis1 (lenX_ok h7) h8];  kernel_rfl), lenX_ok h5⟩, (by kernel_rfl), bC_le h9 ⟨cW_le h11 (by kernel_rfl), lenX_ok h10⟩, (by kernel_rfl), bR_le h12, trivial⟩ (ref_SumOf_2_i0_ok x0 y2 hz _ (rhoS_inj hi h13 _ (by kernel_rfl))) (fun out H h => ⟨h.1.trans (by kernel_rfl), h.2.trans (by kernel_rfl)⟩)⟩
/-! ### gleaner/gleanerref.SumOf -/
def ref_SumOf_u (r : Int) : TV EE.T := .a (.d (.int .u64) r)
def w38enc (r : Int) : RL EE.T := .ret (ref_SumOf_u r) []
def w38lv : Lvs := ⟨[], [(5, ⟨[(0, false), (3, false), (5, false), (6, false)], [], [(3, (none, [])), (4, (none, [])), (9, (none, []))]⟩), (11, ⟨[(3, false), (7, false), (8, false)], [], [(3, (none, [])), (9, (none, []))]⟩)], [], [], false, [], []⟩
def w38rs : List ResultVar := [.tmp 2]
def w38G (N : Nat) : Gam EE := ⟨[], EQT, [⟨72, ref_SumOf_2_i0_h N⟩], [9]⟩
theorem w38Gok (N : Nat) : GOk Try.prog TT EE (w38G N) := GOk.consx (ref_SumOf_2_i0_hok N) (GOk.nil EQT_ok)
def w38kL11 (c : Code) : List It2 := atL 11 c
def w38sL11 (x7 : Int) (x8 : Int) (b9 : List Int) : TS EE.T := ⟨45, [(3, .a (.box 3 0)), (7, .a (.d (.int .u64) x7)), (8, .a (.d (.int .i64) x8))], [(3, .cs [.bsl 9 0 4 4]), (9, .row (.int .i64) b9)], []⟩
def w38kL5 (c : Code) : List It2 := atL 5 c
def w38sL5 (x0 : List VLabel) (x6 : Int) (b9 : List Int) : TS EE.T := ⟨45, [(0, .a (.d (.sl (.nam 2)) x0)), (3, .a (.box 3 0)), (5, .fn 72 [.box 4 0]), (6, .a (.d (.int .i64) x6))], [(3, .cs [.bsl 9 0 4 4]), (4, .cs [.fnb 70 [3]]), (9, .row (.int .i64) b9)], []⟩
def w38kE0 (c : Code) : List It2 := [.c c]
def w38sE0 (x0 : List VLabel) : TS EE.T := ⟨45, [(0, .a (.d (.sl (.nam 2)) x0))], [], []⟩
def w38TL11 (c : Code) (N : Nat) (n : Nat) (x7 : Int) (x8 : Int) (b9 : List Int) : Tree (Lf EE.T × Option Int) :=
  .cond (decide (x8 ≥ 0))
  (
    .bnd (idxN 4 x8) fun z5 =>
    .bnd (b9[0 + z5]?) fun z6 =>
    .leaf (.go (w38kL11 c) (w38sL11 (IntKind.wrap .u64 ((IntKind.wrap .u64 (x7 * 65536)) + (IntKind.wrap .u64 z6))) (w64 (x8 - 1)) b9), ref_SumOf_L11 N n (IntKind.wrap .u64 ((IntKind.wrap .u64 (x7 * 65536)) + (IntKind.wrap .u64 z6))) (w64 (x8 - 1)) b9))
  (
    .leaf (.done (w38enc x7), some x7))
theorem w38vL11 (N : Nat) (n : Nat) (x7 : Int) (x8 : Int) (b9 : List Int) : evM TT EE (w38G N) w38lv w38rs 4000 true (w38kL11 (bodyOf 0 Try.f38)) (w38sL11 x7 x8 b9) = (w38TL11 (bodyOf 0 Try.f38) N n x7 x8 b9).map1 := by kernel_rfl
theorem w38nL11 (N : Nat) (n : Nat) (x7 : Int) (x8 : Int) (b9 : List Int) : ref_SumOf_L11 N (n + 1) x7 x8 b9 = (w38TL11 (bodyOf 0 Try.f38) N n x7 x8 b9).run := by kernel_rfl
theorem w38oL11 {N : Nat} {r : Int} : ∀ (n : Nat) (x7 : Int) (x8 : Int) (b9 : List Int), ref_SumOf_L11 N n x7 x8 b9 = some r → Ends (Y := TT) EE (w38G N) w38lv w38rs (fun u => u = w38enc r) (w38kL11 (bodyOf 0 Try.f38)) (w38sL11 x7 x8 b9)
  | 0, _, _, _, h => by cases h
  | n + 1, x7, x8, b9, h => tree_use (w38vL11 N n x7 x8 b9) (w38nL11 N n x7 x8 b9) h (show (w38TL11 (bodyOf 0 Try.f38) N n x7 x8 b9).all _ from ⟨fun _ => fun _ => fun h => (w38oL11 n) _ _ _ h, retp (enc := w38enc) rfl⟩)
def w38TL5 (c : Code) (N : Nat) (n : Nat) (x0 : List VLabel) (x6 : Int) (b9 : List Int) : Tree (Lf EE.T × Option Int) :=
  .cond (decide (x6 < (x0.length : Int)))
  (
    .bnd (idxC x0 x6) fun z1 =>
    .bnd (ref_SumOf_2_i0 N z1.Name b9) fun z2 =>
    .bnd (idxC x0 x6) fun z3 =>
    .bnd (ref_SumOf_2_i0 N z3.Value z2) fun z4 =>
    .leaf (.go (w38kL5 c) (w38sL5 x0 (w64 (x6 + 1)) z4), ref_SumOf_L5 N n x0 (w64 (x6 + 1)) z4))
  (
    .leaf (.go (w38kL11 c) (w38sL11 0 3 b9), ref_SumOf_L11 N n 0 3 b9))
theorem w38vL5 (N : Nat) (n : Nat) (x0 : List VLabel) (x6 : Int) (b9 : List Int) : evM TT EE (w38G N) w38lv w38rs 4000 true (w38kL5 (bodyOf 0 Try.f38)) (w38sL5 x0 x6 b9) = (w38TL5 (bodyOf 0 Try.f38) N n x0 x6 b9).map1 := by kernel_rfl
theorem w38nL5 (N : Nat) (n : Nat) (x0 : List VLabel) (x6 : Int) (b9 : List Int) : ref_SumOf_L5 N (n + 1) x0 x6 b9 = (w38TL5 (bodyOf 0 Try.f38) N n x0 x6 b9).run := by kernel_rfl
theorem w38oL5 {N : Nat} {r : Int} : ∀ (n : Nat) (x0 : List VLabel) (x6 : Int) (b9 : List Int), ref_SumOf_L5 N n x0 x6 b9 = some r → Ends (Y := TT) EE (w38G N) w38lv w38rs (fun u => u = w38enc r) (w38kL5 (bodyOf 0 Try.f38)) (w38sL5 x0 x6 b9)
  | 0, _, _, _, h => by cases h
  | n + 1, x0, x6, b9, h => tree_use (w38vL5 N n x0 x6 b9) (w38nL5 N n x0 x6 b9) h (show (w38TL5 (bodyOf 0 Try.f38) N n x0 x6 b9).all _ from ⟨fun _ => fun _ => fun _ => fun _ => fun h => (w38oL5 n) _ _ _ h, fun h => w38oL11 n _ _ _ h⟩)
def w38TE0 (c : Code) (N : Nat) (x0 : List VLabel) : Tree (Lf EE.T × Option Int) :=
  .leaf (.go (w38kL5 c) (w38sL5 x0 0 ([8997, 33826, 40164, 52210] : List Int)), ref_SumOf_L5 N N x0 0 ([8997, 33826, 40164, 52210] : List Int))
theorem w38vE0 (N : Nat) (x0 : List VLabel) : evM TT EE (w38G N) w38lv w38rs 4000 true (w38kE0 (bodyOf 0 Try.f38)) (w38sE0 x0) = (w38TE0 (bodyOf 0 Try.f38) N x0).map1 := by kernel_rfl
theorem w38nE0 (N : Nat) (x0 : List VLabel) : ref_SumOf N x0 = (w38TE0 (bodyOf 0 Try.f38) N x0).run := by kernel_rfl
theorem w38oE0 {N : Nat} {r : Int} (x0 : List VLabel) (h : ref_SumOf N x0 = some r) : Ends (Y := TT) EE (w38G N) w38lv w38rs (fun u => u = w38enc r) (w38kE0 (bodyOf 0 Try.f38)) (w38sE0 x0) :=
  tree_use (w38vE0 N x0) (w38nE0 N x0) h (show (w38TE0 (bodyOf 0 Try.f38) N x0).all _ from fun h => w38oL5 N _ _ _ h)
theorem ref_SumOf_ok {N : Nat} (x0 : List VLabel) {r : Int} (h : ref_SumOf N x0 = some r) (ρ : Nat → Nat) : ACalls Try.prog 38 (([.a (.d (.sl (.nam 2)) x0)] : List (TV EE.T)).map (TV.to EE.toEnc ρ)) [] (fun out H => out = .ret ((ref_SumOf_u r).to EE.toEnc ρ) ∧ H = []) :=
  (fn_ok (bodyOf 0 Try.f38) 45 mixed (w38Gok N) Try.func38 (by kernel_rfl) rfl rfl rfl rfl (w38oE0 x0 h) ρ).mono fun out H h => KPost.ret rfl h
def ref_SumOf_h (N : Nat) : List (TV EE.T) → PV EE.T
  | [u0] => match argD (.sl (.nam 2)) u0 with
    | some x0 => .opt (ref_SumOf N x0) ref_SumOf_u
    | _ => .bad
  | _ => .bad
theorem ref_SumOf_hok (N : Nat) (us : List (TV EE.T)) : (ref_SumOf_h N us).ok fun u => ∀ ρ, ACalls Try.prog 38 (us.map (TV.to EE.toEnc ρ)) [] (fun out H => out = .ret (u.to EE.toEnc ρ) ∧ H = []) := by
  unfold ref_SumOf_h
  split
  · split
    · rename_i h0
      intro z hz ρ; refine acalls_le ?_ (ref_SumOf_ok _ hz ρ); exact ⟨argD_le h0 ρ, trivial⟩
    · trivial
  · trivial
/-! ### gleaner/shard.isTime -/
def shard_isTime_u (r : Bool) : TV EE.T := .a (.d .bool r)
def w55enc (r : Bool) : RL EE.T := .ret (shard_isTime_u r) []
def w55lv : Lvs := ⟨[], [], [], [], false, [], []⟩
def w55rs : List ResultVar := [.tmp 2]
def w55G (N : Nat) : Gam EE := ⟨[⟨54, shard_within_h N⟩], EQT, [], []⟩
theorem w55Gok (N : Nat) : GOk Try.prog TT EE (w55G N) := GOk.cons (shard_within_hok N) (GOk.nil EQT_ok)
def w55kE0 (c : Code) : List It2 := [.c c]
def w55sE0 (x0 : Int) : TS EE.T := ⟨5, [(0, .a (.d (.int .i64) x0))], [], []⟩
def w55TE0 (c : Code) (N : Nat) (x0 : Int) : Tree (Lf EE.T × Option Bool) :=
  .bnd (shard_within N x0 (-9007199254740991) 9007199254740991) fun z1 =>
  .leaf (.done (w55enc z1), some z1)
theorem w55vE0 (N : Nat) (x0 : Int) : evM TT EE (w55G N) w55lv w55rs 4000 true (w55kE0 (bodyOf 0 Try.f55)) (w55sE0 x0) = (w55TE0 (bodyOf 0 Try.f55) N x0).map1 := by kernel_rfl
theorem w55nE0 (N : Nat) (x0 : Int) : shard_isTime N x0 = (w55TE0 (bodyOf 0 Try.f55) N x0).run := by kernel_rfl
theorem w55oE0 {N : Nat} {r : Bool} (x0 : Int) (h : shard_isTime N x0 = some r) : Ends (Y := TT) EE (w55G N) w55lv w55rs (fun u => u = w55enc r) (w55kE0 (bodyOf 0 Try.f55)) (w55sE0 x0) :=
  tree_use (w55vE0 N x0) (w55nE0 N x0) h (show (w55TE0 (bodyOf 0 Try.f55) N x0).all _ from fun _ => retp (enc := w55enc) rfl)
theorem shard_isTime_ok {N : Nat} (x0 : Int) {r : Bool} (h : shard_isTime N x0 = some r) (ρ : Nat → Nat) : ACalls Try.prog 55 (([.a (.d (.int .i64) x0)] : List (TV EE.T)).map (TV.to EE.toEnc ρ)) [] (fun out H => out = .ret ((shard_isTime_u r).to EE.toEnc ρ) ∧ H = []) :=
  (fn_ok (bodyOf 0 Try.f55) 5 mixed (w55Gok N) Try.func55 (by kernel_rfl) rfl rfl rfl rfl (w55oE0 x0 h) ρ).mono fun out H h => KPost.ret rfl h
def shard_isTime_h (N : Nat) : List (TV EE.T) → PV EE.T
  | [u0] => match argD (.int .i64) u0 with
    | some x0 => .opt (shard_isTime N x0) shard_isTime_u
    | _ => .bad
  | _ => .bad
theorem shard_isTime_hok (N : Nat) (us : List (TV EE.T)) : (shard_isTime_h N us).ok fun u => ∀ ρ, ACalls Try.prog 55 (us.map (TV.to EE.toEnc ρ)) [] (fun out H => out = .ret (u.to EE.toEnc ρ) ∧ H = []) := by
  unfold shard_isTime_h
  split
  · split
    · rename_i h0
      intro z hz ρ; refine acalls_le ?_ (shard_isTime_ok _ hz ρ); exact ⟨argD_le h0 ρ, trivial⟩
    · trivial
  · trivial
/-! ### gleaner/shard.checkItem -/
def shard_checkItem_u (r : Int) : TV EE.T := .a (.d (.int .i64) r)
def w56enc (r : Int) : RL EE.T := .ret (shard_checkItem_u r) []
def w56lv : Lvs := ⟨[], [], [], [], false, [], []⟩
def w56rs : List ResultVar := [.tmp 2]
def w56G (N : Nat) : Gam EE := ⟨[⟨84, labels_Check_h N⟩, ⟨55, shard_isTime_h N⟩], EQT, [], []⟩
theorem w56Gok (N : Nat) : GOk Try.prog TT EE (w56G N) := GOk.cons (labels_Check_hok N) (GOk.cons (shard_isTime_hok N) (GOk.nil EQT_ok))
def w56kE0 (c : Code) : List It2 := [.c c]
def w56sE0 (x0 : VItem) : TS EE.T := ⟨16, [(0, .ag (unpT EE (.nam 7) x0))], [], []⟩
def w56TE0 (c : Code) (N : Nat) (x0 : VItem) : Tree (Lf EE.T × Option Int) :=
  .cond (decide (x0.Number < 0))
  (
    .leaf (.done (w56enc 3), some 3))
  (
    .bnd (shard_isTime N x0.Sample.Time) fun z1 =>
    .cond (!z1)
    (
      .leaf (.done (w56enc 3), some 3))
    (
      .bnd (labels_Check N x0.Labels) fun z2 =>
      .leaf (.done (w56enc z2), some z2)))
theorem w56vE0 (N : Nat) (x0 : VItem) : evM TT EE (w56G N) w56lv w56rs 4000 true (w56kE0 (bodyOf 0 Try.f56)) (w56sE0 x0) = (w56TE0 (bodyOf 0 Try.f56) N x0).map1 := by kernel_rfl
theorem w56nE0 (N : Nat) (x0 : VItem) : shard_checkItem N x0 = (w56TE0 (bodyOf 0 Try.f56) N x0).run := by kernel_rfl
theorem w56oE0 {N : Nat} {r : Int} (x0 : VItem) (h : shard_checkItem N x0 = some r) : Ends (Y := TT) EE (w56G N) w56lv w56rs (fun u => u = w56enc r) (w56kE0 (bodyOf 0 Try.f56)) (w56sE0 x0) :=
  tree_use (w56vE0 N x0) (w56nE0 N x0) h (show (w56TE0 (bodyOf 0 Try.f56) N x0).all _ from ⟨retp (enc := w56enc) rfl, fun _ => ⟨retp (enc := w56enc) rfl, fun _ => retp (enc := w56enc) rfl⟩⟩)
theorem shard_checkItem_ok {N : Nat} (x0 : VItem) {r : Int} (h : shard_checkItem N x0 = some r) (ρ : Nat → Nat) : ACalls Try.prog 56 (([.ag (unpT EE (.nam 7) x0)] : List (TV EE.T)).map (TV.to EE.toEnc ρ)) [] (fun out H => out = .ret ((shard_checkItem_u r).to EE.toEnc ρ) ∧ H = []) :=
  (fn_ok (bodyOf 0 Try.f56) 16 mixed (w56Gok N) Try.func56 (by kernel_rfl) rfl rfl rfl rfl (w56oE0 x0 h) ρ).mono fun out H h => KPost.ret rfl h
def shard_checkItem_h (N : Nat) : List (TV EE.T) → PV EE.T
  | [u0] => match argS EE 7 u0 with
    | some x0 => .opt (shard_checkItem N x0) shard_checkItem_u
    | _ => .bad
  | _ => .bad
theorem shard_checkItem_hok (N : Nat) (us : List (TV EE.T)) : (shard_checkItem_h N us).ok fun u => ∀ ρ, ACalls Try.prog 56 (us.map (TV.to EE.toEnc ρ)) [] (fun out H => out = .ret (u.to EE.toEnc ρ) ∧ H = []) := by
  unfold shard_checkItem_h
  split
  · split
    · rename_i h0
      intro z hz ρ; refine acalls_le ?_ (shard_checkItem_ok _ hz ρ); exact ⟨argS_le h0 ρ, trivial⟩
    · trivial
  · trivial
/-! ### gleaner/shard.Check -/
def shard_Check_u (r : Int) : TV EE.T := .a (.d (.int .i64) r)
def w22enc (r : Int) : RL EE.T := .ret (shard_Check_u r) []
def w22lv : Lvs := ⟨[(2, ⟨[(1, false), (3, false)], [], [(1, (some 8, []))]⟩), (16, ⟨[(1, false), (7, false)], [], [(1, (some 8, []))]⟩)], [(7, ⟨[(1, false), (58, false), (59, false), (60, false)], [], [(1, (some 8, []))]⟩), (14, ⟨[(1, false), (7, false)], [], [(1, (some 8, []))]⟩)], [2], [], false, [], []⟩
def w22rs : List ResultVar := [.tmp 2]
def w22G (N : Nat) : Gam EE := ⟨[⟨56, shard_checkItem_h N⟩, ⟨55, shard_isTime_h N⟩, ⟨54, shard_within_h N⟩], EQT, [], []⟩
theorem w22Gok (N : Nat) : GOk Try.prog TT EE (w22G N) := GOk.cons (shard_checkItem_hok N) (GOk.cons (shard_isTime_hok N) (GOk.cons (shard_within_hok N) (GOk.nil EQT_ok)))
def w22kL14 (c : Code) : List It2 := atL 14 c
def w22sL14 (x7 : Int) (b1 : VShard) : TS EE.T := ⟨91, [(1, .a (.box 1 0)), (7, .a (.d (.int .i64) x7))], [(1, .cs (unpT EE (.nam 8) b1))], []⟩
def w22kL7 (c : Code) : List It2 := atL 7 c
def w22sL7 (x58 : List VItem) (x59 : Int) (x60 : Int) (b1 : VShard) : TS EE.T := ⟨91, [(1, .a (.box 1 0)), (58, .a (.d (.sl (.nam 7)) x58)), (59, .a (.d (.int .i64) x59)), (60, .a (.d (.int .i64) x60))], [(1, .cs (unpT EE (.nam 8) b1))], []⟩
def w22kR2 (c : Code) : List It2 := atR 2 c
def w22sR2 (x3 : Bool) (b1 : VShard) : TS EE.T := ⟨91, [(1, .a (.box 1 0)), (3, .a (.d .bool x3))], [(1, .cs (unpT EE (.nam 8) b1))], []⟩
def w22kE0 (c : Code) : List It2 := [.c c]
def w22sE0 (x0 : VShard) : TS EE.T := ⟨91, [(0, .ag (unpT EE (.nam 8) x0))], [], []⟩
def w22TL14 (c : Code) (N : Nat) (n : Nat) (x7 : Int) (b1 : VShard) : Tree (Lf EE.T × Option Int) :=
  .cond (decide (x7 < (b1.Items.length : Int)))
  (
    .bnd (idxC b1.Items x7) fun z9 =>
    .bnd (idxC b1.Items (w64 (x7 - 1))) fun z10 =>
    .cond (decide (z9.Number ≤ z10.Number))
    (
      .leaf (.done (w22enc 4), some 4))
    (
      .leaf (.go (w22kL14 c) (w22sL14 (w64 (x7 + 1)) b1), shard_Check_L14 N n (w64 (x7 + 1)) b1)))
  (
    .leaf (.done (w22enc 0), some 0))
theorem w22vL14 (N : Nat) (n : Nat) (x7 : Int) (b1 : VShard) : evM TT EE (w22G N) w22lv w22rs 4000 true (w22kL14 (bodyOf 0 Try.f22)) (w22sL14 x7 b1) = (w22TL14 (bodyOf 0 Try.f22) N n x7 b1).map1 := by kernel_rfl
theorem w22nL14 (N : Nat) (n : Nat) (x7 : Int) (b1 : VShard) : shard_Check_L14 N (n + 1) x7 b1 = (w22TL14 (bodyOf 0 Try.f22) N n x7 b1).run := by kernel_rfl
theorem w22oL14 {N : Nat} {r : Int} : ∀ (n : Nat) (x7 : Int) (b1 : VShard), shard_Check_L14 N n x7 b1 = some r → Ends (Y := TT) EE (w22G N) w22lv w22rs (fun u => u = w22enc r) (w22kL14 (bodyOf 0 Try.f22)) (w22sL14 x7 b1)
  | 0, _, _, h => by cases h
  | n + 1, x7, b1, h => tree_use (w22vL14 N n x7 b1) (w22nL14 N n x7 b1) h (show (w22TL14 (bodyOf 0 Try.f22) N n x7 b1).all _ from ⟨fun _ => fun _ => ⟨retp (enc := w22enc) rfl, fun h => (w22oL14 n) _ _ h⟩, retp (enc := w22enc) rfl⟩)
def w22TL7 (c : Code) (N : Nat) (n : Nat) (x58 : List VItem) (x59 : Int) (x60 : Int) (b1 : VShard) : Tree (Lf EE.T × Option Int) :=
  .cond (decide (x60 < x59))
  (
    .bnd (idxC x58 x60) fun z7 =>
    .bnd (shard_checkItem N z7) fun z8 =>
    .cond (z8 != 0)
    (
      .leaf (.done (w22enc z8), some z8))
    (
      .leaf (.go (w22kL7 c) (w22sL7 x58 x59 (w64 (x60 + 1)) b1), shard_Check_L7 N n x58 x59 (w64 (x60 + 1)) b1)))
  (
    .leaf (.go (w22kL14 c) (w22sL14 1 b1), shard_Check_L14 N n 1 b1))
theorem w22vL7 (N : Nat) (n : Nat) (x58 : List VItem) (x59 : Int) (x60 : Int) (b1 : VShard) : evM TT EE (w22G N) w22lv w22rs 4000 true (w22kL7 (bodyOf 0 Try.f22)) (w22sL7 x58 x59 x60 b1) = (w22TL7 (bodyOf 0 Try.f22) N n x58 x59 x60 b1).map1 := by kernel_rfl
theorem w22nL7 (N : Nat) (n : Nat) (x58 : List VItem) (x59 : Int) (x60 : Int) (b1 : VShard) : shard_Check_L7 N (n + 1) x58 x59 x60 b1 = (w22TL7 (bodyOf 0 Try.f22) N n x58 x59 x60 b1).run := by kernel_rfl
theorem w22oL7 {N : Nat} {r : Int} : ∀ (n : Nat) (x58 : List VItem) (x59 : Int) (x60 : Int) (b1 : VShard), shard_Check_L7 N n x58 x59 x60 b1 = some r → Ends (Y := TT) EE (w22G N) w22lv w22rs (fun u => u = w22enc r) (w22kL7 (bodyOf 0 Try.f22)) (w22sL7 x58 x59 x60 b1)
  | 0, _, _, _, _, h => by cases h
  | n + 1, x58, x59, x60, b1, h => tree_use (w22vL7 N n x58 x59 x60 b1) (w22nL7 N n x58 x59 x60 b1) h (show (w22TL7 (bodyOf 0 Try.f22) N n x58 x59 x60 b1).all _ from ⟨fun _ => fun _ => ⟨retp (enc := w22enc) rfl, fun h => (w22oL7 n) _ _ _ _ h⟩, fun h => w22oL14 n _ _ h⟩)
def w22TR2 (c : Code) (N : Nat) (n : Nat) (x3 : Bool) (b1 : VShard) : Tree (Lf EE.T × Option Int) :=
  .cond (!x3)
  (
    .leaf (.done (w22enc 3), some 3))
  (
    .cond (decide ((b1.Items.length : Int) > b1.Room))
    (
      .leaf (.done (w22enc 2), some 2))
    (
      .leaf (.go (w22kL7 c) (w22sL7 b1.Items (b1.Items.length : Int) 0 b1), shard_Check_L7 N n b1.Items (b1.Items.length : Int) 0 b1)))
theorem w22vR2 (N : Nat) (n : Nat) (x3 : Bool) (b1 : VShard) : evM TT EE (w22G N) w22lv w22rs 4000 true (w22kR2 (bodyOf 0 Try.f22)) (w22sR2 x3 b1) = (w22TR2 (bodyOf 0 Try.f22) N n x3 b1).map1 := by kernel_rfl
theorem w22nR2 (N : Nat) (n : Nat) (x3 : Bool) (b1 : VShard) : shard_Check_R2 N n x3 b1 = (w22TR2 (bodyOf 0 Try.f22) N n x3 b1).run := by kernel_rfl
theorem w22oR2 {N : Nat} {r : Int} (n : Nat) (x3 : Bool) (b1 : VShard) (h : shard_Check_R2 N n x3 b1 = some r) : Ends (Y := TT) EE (w22G N) w22lv w22rs (fun u => u = w22enc r) (w22kR2 (bodyOf 0 Try.f22)) (w22sR2 x3 b1) :=
  tree_use (w22vR2 N n x3 b1) (w22nR2 N n x3 b1) h (show (w22TR2 (bodyOf 0 Try.f22) N n x3 b1).all _ from ⟨retp (enc := w22enc) rfl, ⟨retp (enc := w22enc) rfl, fun h => w22oL7 n _ _ _ _ h⟩⟩)
def w22TE0 (c : Code) (N : Nat) (x0 : VShard) : Tree (Lf EE.T × Option Int) :=
  .bnd (shard_within N x0.Batch 1 200) fun z1 =>
  .cond (z1)
  (
    .bnd (shard_within N x0.Room 1 100) fun z2 =>
    .cond (z2)
    (
      .bnd (shard_within N x0.First 1 x0.Most) fun z3 =>
      .cond (z3)
      (
        .cond (decide (x0.Most ≤ 100000))
        (
          .cond (x0.Waits == 0)
          (
            .bnd (shard_isTime N x0.Till) fun z4 =>
            .leaf (.go (w22kR2 c) (w22sR2 z4 x0), shard_Check_R2 N N z4 x0))
          (
            .bnd (shard_within N x0.Waits x0.First x0.Most) fun z5 =>
            .cond (z5)
            (
              .bnd (shard_isTime N x0.Till) fun z6 =>
              .leaf (.go (w22kR2 c) (w22sR2 z6 x0), shard_Check_R2 N N z6 x0))
            (
              .leaf (.go (w22kR2 c) (w22sR2 false x0), shard_Check_R2 N N false x0))))
        (
          .leaf (.go (w22kR2 c) (w22sR2 false x0), shard_Check_R2 N N false x0)))
      (
        .leaf (.go (w22kR2 c) (w22sR2 false x0), shard_Check_R2 N N false x0)))
    (
      .leaf (.go (w22kR2 c) (w22sR2 false x0), shard_Check_R2 N N false x0)))
  (
    .leaf (.go (w22kR2 c) (w22sR2 false x0), shard_Check_R2 N N false x0))
theorem w22vE0 (N : Nat) (x0 : VShard) : evM TT EE (w22G N) w22lv w22rs 4000 true (w22kE0 (bodyOf 0 Try.f22)) (w22sE0 x0) = (w22TE0 (bodyOf 0 Try.f22) N x0).map1 := by kernel_rfl
theorem w22nE0 (N : Nat) (x0 : VShard) : shard_Check N x0 = (w22TE0 (bodyOf 0 Try.f22) N x0).run := by kernel_rfl
theorem w22oE0 {N : Nat} {r : Int} (x0 : VShard) (h : shard_Check N x0 = some r) : Ends (Y := TT) EE (w22G N) w22lv w22rs (fun u => u = w22enc r) (w22kE0 (bodyOf 0 Try.f22)) (w22sE0 x0) :=
  tree_use (w22vE0 N x0) (w22nE0 N x0) h (show (w22TE0 (bodyOf 0 Try.f22) N x0).all _ from fun _ => ⟨fun _ => ⟨fun _ => ⟨⟨⟨fun _ => fun h => w22oR2 N _ _ h, fun _ => ⟨fun _ => fun h => w22oR2 N _ _ h, fun h => w22oR2 N _ _ h⟩⟩, fun h => w22oR2 N _ _ h⟩, fun h => w22oR2 N _ _ h⟩, fun h => w22oR2 N _ _ h⟩, fun h => w22oR2 N _ _ h⟩)
theorem shard_Check_ok {N : Nat} (x0 : VShard) {r : Int} (h : shard_Check N x0 = some r) (ρ : Nat → Nat) : ACalls Try.prog 22 (([.ag (unpT EE (.nam 8) x0)] : List (TV EE.T)).map (TV.to EE.toEnc ρ)) [] (fun out H => out = .ret ((shard_Check_u r).to EE.toEnc ρ) ∧ H = []) :=
  (fn_ok (bodyOf 0 Try.f22) 91 mixed (w22Gok N) Try.func22 (by kernel_rfl) rfl rfl rfl rfl (w22oE0 x0 h) ρ).mono fun out H h => KPost.ret rfl h
def shard_Check_h (N : Nat) : List (TV EE.T) → PV EE.T
  | [u0] => match argS EE 8 u0 with
    | some x0 => .opt (shard_Check N x0) shard_Check_u
    | _ => .bad
  | _ => .bad
theorem shard_Check_hok (N : Nat) (us : List (TV EE.T)) : (shard_Check_h N us).ok fun u => ∀ ρ, ACalls Try.prog 22 (us.map (TV.to EE.toEnc ρ)) [] (fun out H => out = .ret (u.to EE.toEnc ρ) ∧ H = []) := by
  unfold shard_Check_h
  split
  · split
    · rename_i h0
      intro z hz ρ; refine acalls_le ?_ (shard_Check_ok _ hz ρ); exact ⟨argS_le h0 ρ, trivial⟩
    · trivial
  · trivial
/-! ### slices.Clone[[]gleaner/api.Label,gleaner/api.Label] -/
def slices_Clone_api_Label_api_Label__u (r : List VLabel) : TV EE.T := .a (.d (.sl (.nam 2)) r)
def w85enc (r : List VLabel) : RL EE.T := .ret (slices_Clone_api_Label_api_Label__u r) []
def w85lv : Lvs := ⟨[], [], [], [], false, [], []⟩
def w85rs : List ResultVar := [.tmp 2]
def w85G (N : Nat) : Gam EE := ⟨[], EQT, [], []⟩
theorem w85Gok (N : Nat) : GOk Try.prog TT EE (w85G N) := GOk.nil EQT_ok
def w85kE0 (c : Code) : List It2 := [.c c]
def w85sE0 (x0 : List VLabel) : TS EE.T := ⟨8, [(0, .a (.d (.sl (.nam 2)) x0))], [], []⟩
def w85TE0 (c : Code) (N : Nat) (x0 : List VLabel) : Tree (Lf EE.T × Option (List VLabel)) :=
  .nl (x0)
  (
    .leaf (.done (w85enc ([] : List VLabel)), some ([] : List VLabel)))
  (
    .bnd (appC 32 ([] : List VLabel) x0) fun z1 =>
    .leaf (.done (w85enc z1), some z1))
theorem w85vE0 (N : Nat) (x0 : List VLabel) : evM TT EE (w85G N) w85lv w85rs 4000 true (w85kE0 (bodyOf 0 Try.f85)) (w85sE0 x0) = (w85TE0 (bodyOf 0 Try.f85) N x0).map1 := by kernel_rfl
theorem w85nE0 (N : Nat) (x0 : List VLabel) : slices_Clone_api_Label_api_Label_ N x0 = (w85TE0 (bodyOf 0 Try.f85) N x0).run := by kernel_rfl
theorem w85oE0 {N : Nat} {r : List VLabel} (x0 : List VLabel) (h : slices_Clone_api_Label_api_Label_ N x0 = some r) : Ends (Y := TT) EE (w85G N) w85lv w85rs (fun u => u = w85enc r) (w85kE0 (bodyOf 0 Try.f85)) (w85sE0 x0) :=
  tree_use (w85vE0 N x0) (w85nE0 N x0) h (show (w85TE0 (bodyOf 0 Try.f85) N x0).all _ from ⟨fun e => (by first | (subst e; kernel_rfl) | (rw [e]; kernel_rfl) | (simp only [e]; kernel_rfl)), retp (enc := w85enc) rfl, fun _ => retp (enc := w85enc) rfl⟩)
theorem slices_Clone_api_Label_api_Label__ok {N : Nat} (x0 : List VLabel) {r : List VLabel} (h : slices_Clone_api_Label_api_Label_ N x0 = some r) (ρ : Nat → Nat) : ACalls Try.prog 85 (([.a (.d (.sl (.nam 2)) x0)] : List (TV EE.T)).map (TV.to EE.toEnc ρ)) [] (fun out H => out = .ret ((slices_Clone_api_Label_api_Label__u r).to EE.toEnc ρ) ∧ H = []) :=
  (fn_ok (bodyOf 0 Try.f85) 8 mixed (w85Gok N) Try.func85 (by kernel_rfl) rfl rfl rfl rfl (w85oE0 x0 h) ρ).mono fun out H h => KPost.ret rfl h
def slices_Clone_api_Label_api_Label__h (N : Nat) : List (TV EE.T) → PV EE.T
  | [u0] => match argD (.sl (.nam 2)) u0 with
    | some x0 => .opt (slices_Clone_api_Label_api_Label_ N x0) slices_Clone_api_Label_api_Label__u
    | _ => .bad
  | _ => .bad
theorem slices_Clone_api_Label_api_Label__hok (N : Nat) (us : List (TV EE.T)) : (slices_Clone_api_Label_api_Label__h N us).ok fun u => ∀ ρ, ACalls Try.prog 85 (us.map (TV.to EE.toEnc ρ)) [] (fun out H => out = .ret (u.to EE.toEnc ρ) ∧ H = []) := by
  unfold slices_Clone_api_Label_api_Label__h
  split
  · split
    · rename_i h0
      intro z hz ρ; refine acalls_le ?_ (slices_Clone_api_Label_api_Label__ok _ hz ρ); exact ⟨argD_le h0 ρ, trivial⟩
    · trivial
  · trivial
/-! ### gleaner/shard.own -/
def shard_own_u (r : VShard) : TV EE.T := .ag (unpT EE (.nam 8) r)
def w59enc (r : VShard) : RL EE.T := .ret (shard_own_u r) []
def w59lv : Lvs := ⟨[], [(4, ⟨[(2, false), (4, false), (13, false), (14, false), (15, false)], [], [(2, (none, [])), (4, (none, []))]⟩)], [], [], false, [(4, (some 8, []))], []⟩
def w59rs : List ResultVar := [.cell 4 41]
def w59G (N : Nat) : Gam EE := ⟨[⟨85, slices_Clone_api_Label_api_Label__h N⟩], EQT, [], []⟩
theorem w59Gok (N : Nat) : GOk Try.prog TT EE (w59G N) := GOk.cons (slices_Clone_api_Label_api_Label__hok N) (GOk.nil EQT_ok)
def w59kL4 (c : Code) : List It2 := atL 4 c
def w59sL4 (x13 : List VItem) (x14 : Int) (x15 : Int) (b2_0 : List VItem) (b2_1 : Int) (b2_2 : Int) (b2_3 : Int) (b2_4 : Int) (b2_5 : Int) (b2_6 : Int) (b4_0 : List VItem) (b4_1 : Int) (b4_2 : Int) (b4_3 : Int) (b4_4 : Int) (b4_5 : Int) (b4_6 : Int) : TS EE.T := ⟨31, [(2, .a (.box 2 0)), (4, .a (.box 4 0)), (13, .a (.d (.sl (.nam 7)) x13)), (14, .a (.d (.int .i64) x14)), (15, .a (.d (.int .i64) x15))], [(2, .cs [.own (.nam 7) b2_0, .d (.int .i64) b2_1, .d (.int .i64) b2_2, .d (.int .i64) b2_3, .d (.int .i64) b2_4, .d (.int .i64) b2_5, .d (.int .i64) b2_6]), (4, .cs [.own (.nam 7) b4_0, .d (.int .i64) b4_1, .d (.int .i64) b4_2, .d (.int .i64) b4_3, .d (.int .i64) b4_4, .d (.int .i64) b4_5, .d (.int .i64) b4_6])], []⟩
def w59kE0 (c : Code) : List It2 := [.c c]
def w59sE0 (x0 : VShard) (x1 : Int) : TS EE.T := ⟨31, [(0, .ag (unpT EE (.nam 8) x0)), (1, .a (.d (.int .i64) x1))], [], []⟩
def w59TL4 (c : Code) (N : Nat) (n : Nat) (x13 : List VItem) (x14 : Int) (x15 : Int) (b2_0 : List VItem) (b2_1 : Int) (b2_2 : Int) (b2_3 : Int) (b2_4 : Int) (b2_5 : Int) (b2_6 : Int) (b4_0 : List VItem) (b4_1 : Int) (b4_2 : Int) (b4_3 : Int) (b4_4 : Int) (b4_5 : Int) (b4_6 : Int) : Tree (Lf EE.T × Option VShard) :=
  .cond (decide (x15 < x14))
  (
    .bnd (idxC x13 x15) fun z2 =>
    .bnd (slices_Clone_api_Label_api_Label_ N z2.Labels) fun z3 =>
    .bnd (appC 48 b2_0 ([({ Number := z2.Number, Labels := z3, Sample := z2.Sample } : VItem)] : List VItem)) fun z4 =>
    .leaf (.go (w59kL4 c) (w59sL4 x13 x14 (w64 (x15 + 1)) z4 b2_1 b2_2 b2_3 b2_4 b2_5 b2_6 b4_0 b4_1 b4_2 b4_3 b4_4 b4_5 b4_6), shard_own_L4 N n x13 x14 (w64 (x15 + 1)) z4 b2_1 b2_2 b2_3 b2_4 b2_5 b2_6 b4_0 b4_1 b4_2 b4_3 b4_4 b4_5 b4_6))
  (
    .leaf (.done (w59enc ({ Items := b2_0, Batch := b2_1, Room := b2_2, First := b2_3, Most := b2_4, Waits := b2_5, Till := b2_6 } : VShard)), some ({ Items := b2_0, Batch := b2_1, Room := b2_2, First := b2_3, Most := b2_4, Waits := b2_5, Till := b2_6 } : VShard)))
theorem w59vL4 (N : Nat) (n : Nat) (x13 : List VItem) (x14 : Int) (x15 : Int) (b2_0 : List VItem) (b2_1 : Int) (b2_2 : Int) (b2_3 : Int) (b2_4 : Int) (b2_5 : Int) (b2_6 : Int) (b4_0 : List VItem) (b4_1 : Int) (b4_2 : Int) (b4_3 : Int) (b4_4 : Int) (b4_5 : Int) (b4_6 : Int) : evM TT EE (w59G N) w59lv w59rs 4000 true (w59kL4 (bodyOf 0 Try.f59)) (w59sL4 x13 x14 x15 b2_0 b2_1 b2_2 b2_3 b2_4 b2_5 b2_6 b4_0 b4_1 b4_2 b4_3 b4_4 b4_5 b4_6) = (w59TL4 (bodyOf 0 Try.f59) N n x13 x14 x15 b2_0 b2_1 b2_2 b2_3 b2_4 b2_5 b2_6 b4_0 b4_1 b4_2 b4_3 b4_4 b4_5 b4_6).map1 := by kernel_rfl
theorem w59nL4 (N : Nat) (n : Nat) (x13 : List VItem) (x14 : Int) (x15 : Int) (b2_0 : List VItem) (b2_1 : Int) (b2_2 : Int) (b2_3 : Int) (b2_4 : Int) (b2_5 : Int) (b2_6 : Int) (b4_0 : List VItem) (b4_1 : Int) (b4_2 : Int) (b4_3 : Int) (b4_4 : Int) (b4_5 : Int) (b4_6 : Int) : shard_own_L4 N (n + 1) x13 x14 x15 b2_0 b2_1 b2_2 b2_3 b2_4 b2_5 b2_6 b4_0 b4_1 b4_2 b4_3 b4_4 b4_5 b4_6 = (w59TL4 (bodyOf 0 Try.f59) N n x13 x14 x15 b2_0 b2_1 b2_2 b2_3 b2_4 b2_5 b2_6 b4_0 b4_1 b4_2 b4_3 b4_4 b4_5 b4_6).run := by kernel_rfl
theorem w59oL4 {N : Nat} {r : VShard} : ∀ (n : Nat) (x13 : List VItem) (x14 : Int) (x15 : Int) (b2_0 : List VItem) (b2_1 : Int) (b2_2 : Int) (b2_3 : Int) (b2_4 : Int) (b2_5 : Int) (b2_6 : Int) (b4_0 : List VItem) (b4_1 : Int) (b4_2 : Int) (b4_3 : Int) (b4_4 : Int) (b4_5 : Int) (b4_6 : Int), shard_own_L4 N n x13 x14 x15 b2_0 b2_1 b2_2 b2_3 b2_4 b2_5 b2_6 b4_0 b4_1 b4_2 b4_3 b4_4 b4_5 b4_6 = some r → Ends (Y := TT) EE (w59G N) w59lv w59rs (fun u => u = w59enc r) (w59kL4 (bodyOf 0 Try.f59)) (w59sL4 x13 x14 x15 b2_0 b2_1 b2_2 b2_3 b2_4 b2_5 b2_6 b4_0 b4_1 b4_2 b4_3 b4_4 b4_5 b4_6)
  | 0, _, _, _, _, _, _, _, _, _, _, _, _, _, _, _, _, _, h => by cases h
  | n + 1, x13, x14, x15, b2_0, b2_1, b2_2, b2_3, b2_4, b2_5, b2_6, b4_0, b4_1, b4_2, b4_3, b4_4, b4_5, b4_6, h => tree_use (w59vL4 N n x13 x14 x15 b2_0 b2_1 b2_2 b2_3 b2_4 b2_5 b2_6 b4_0 b4_1 b4_2 b4_3 b4_4 b4_5 b4_6) (w59nL4 N n x13 x14 x15 b2_0 b2_1 b2_2 b2_3 b2_4 b2_5 b2_6 b4_0 b4_1 b4_2 b4_3 b4_4 b4_5 b4_6) h (show (w59TL4 (bodyOf 0 Try.f59) N n x13 x14 x15 b2_0 b2_1 b2_2 b2_3 b2_4 b2_5 b2_6 b4_0 b4_1 b4_2 b4_3 b4_4 b4_5 b4_6).all _ from ⟨fun _ => fun _ => fun _ => fun h => (w59oL4 n) _ _ _ _ _ _ _ _ _ _ _ _ _ _ _ _ _ h, retp (enc := w59enc) rfl⟩)
def w59TE0 (c : Code) (N : Nat) (x0 : VShard) (x1 : Int) : Tree (Lf EE.T × Option VShard) :=
  .bnd (subC x0.Items x1 (x0.Items.length : Int)) fun z1 =>
  .leaf (.go (w59kL4 c) (w59sL4 z1 (z1.length : Int) 0 ([] : List VItem) x0.Batch x0.Room x0.First x0.Most x0.Waits x0.Till ([] : List VItem) 0 0 0 0 0 0), shard_own_L4 N N z1 (z1.length : Int) 0 ([] : List VItem) x0.Batch x0.Room x0.First x0.Most x0.Waits x0.Till ([] : List VItem) 0 0 0 0 0 0)
theorem w59vE0 (N : Nat) (x0 : VShard) (x1 : Int) : evM TT EE (w59G N) w59lv w59rs 4000 true (w59kE0 (bodyOf 0 Try.f59)) (w59sE0 x0 x1) = (w59TE0 (bodyOf 0 Try.f59) N x0 x1).map1 := by kernel_rfl
theorem w59nE0 (N : Nat) (x0 : VShard) (x1 : Int) : shard_own N x0 x1 = (w59TE0 (bodyOf 0 Try.f59) N x0 x1).run := by kernel_rfl
theorem w59oE0 {N : Nat} {r : VShard} (x0 : VShard) (x1 : Int) (h : shard_own N x0 x1 = some r) : Ends (Y := TT) EE (w59G N) w59lv w59rs (fun u => u = w59enc r) (w59kE0 (bodyOf 0 Try.f59)) (w59sE0 x0 x1) :=
  tree_use (w59vE0 N x0 x1) (w59nE0 N x0 x1) h (show (w59TE0 (bodyOf 0 Try.f59) N x0 x1).all _ from fun _ => fun h => w59oL4 N _ _ _ _ _ _ _ _ _ _ _ _ _ _ _ _ _ h)
theorem shard_own_ok {N : Nat} (x0 : VShard) (x1 : Int) {r : VShard} (h : shard_own N x0 x1 = some r) (ρ : Nat → Nat) : ACalls Try.prog 59 (([.ag (unpT EE (.nam 8) x0), .a (.d (.int .i64) x1)] : List (TV EE.T)).map (TV.to EE.toEnc ρ)) [] (fun out H => out = .ret ((shard_own_u r).to EE.toEnc ρ) ∧ H = []) :=
  (fn_ok (bodyOf 0 Try.f59) 31 mixed (w59Gok N) Try.func59 (by kernel_rfl) rfl rfl rfl rfl (w59oE0 x0 x1 h) ρ).mono fun out H h => KPost.ret rfl h
def shard_own_h (N : Nat) : List (TV EE.T) → PV EE.T
  | [u0, u1] => match argS EE 8 u0, argD (.int .i64) u1 with
    | some x0, some x1 => .opt (shard_own N x0 x1) shard_own_u
    | _, _ => .bad
  | _ => .bad
theorem shard_own_hok (N : Nat) (us : List (TV EE.T)) : (shard_own_h N us).ok fun u => ∀ ρ, ACalls Try.prog 59 (us.map (TV.to EE.toEnc ρ)) [] (fun out H => out = .ret (u.to EE.toEnc ρ) ∧ H = []) := by
  unfold shard_own_h
  split
  · split
    · rename_i h0 h1
      intro z hz ρ; refine acalls_le ?_ (shard_own_ok _ _ hz ρ); exact ⟨argS_le h0 ρ, argD_le h1 ρ, trivial⟩
    · trivial
  · trivial
/-! ### gleaner/shard.Push -/
def shard_Push_u (r : VShard × Int) : TV EE.T := .tu [.ag (unpT EE (.nam 8) r.1), .a (.d (.int .i64) r.2)]
def w24enc (r : VShard × Int) : RL EE.T := .ret (shard_Push_u r) []
def w24lv : Lvs := ⟨[(4, ⟨[(2, false), (3, false), (4, false), (6, false)], [], [(2, (some 8, [])), (3, (some 7, [])), (4, (none, []))]⟩), (6, ⟨[(2, false), (3, false), (4, false), (6, false), (7, false)], [], [(2, (some 8, [])), (3, (some 7, [])), (4, (none, []))]⟩), (8, ⟨[(2, false), (3, false), (4, false), (6, false), (7, false)], [], [(2, (some 8, [])), (3, (some 7, [])), (4, (none, []))]⟩), (10, ⟨[(2, false), (3, false), (4, false), (6, false)], [], [(2, (some 8, [])), (3, (some 7, [])), (4, (none, []))]⟩), (12, ⟨[(2, false), (3, false), (4, false)], [], [(2, (some 8, [])), (3, (some 7, [])), (4, (none, []))]⟩)], [], [4, 8, 10], [], false, [(4, (some 8, []))], []⟩
def w24rs : List ResultVar := [.cell 4 41, .tmp 5]
def w24G (N : Nat) : Gam EE := ⟨[⟨22, shard_Check_h N⟩, ⟨56, shard_checkItem_h N⟩, ⟨59, shard_own_h N⟩, ⟨58, clip_h N⟩], EQT, [], []⟩
theorem w24Gok (N : Nat) : GOk Try.prog TT EE (w24G N) := GOk.cons (shard_Check_hok N) (GOk.cons (shard_checkItem_hok N) (GOk.cons (shard_own_hok N) (GOk.cons (clip_hok N) (GOk.nil EQT_ok))))
def w24kR10 (c : Code) : List It2 := atR 10 c
def w24sR10 (x6 : Int) (b2 : VShard) (b3 : VItem) (b4_0 : List VItem) (b4_1 : Int) (b4_2 : Int) (b4_3 : Int) (b4_4 : Int) (b4_5 : Int) (b4_6 : Int) : TS EE.T := ⟨53, [(2, .a (.box 2 0)), (3, .a (.box 3 0)), (4, .a (.box 4 0)), (6, .a (.d (.int .i64) x6))], [(2, .cs (unpT EE (.nam 8) b2)), (3, .cs (unpT EE (.nam 7) b3)), (4, .cs [.own (.nam 7) b4_0, .d (.int .i64) b4_1, .d (.int .i64) b4_2, .d (.int .i64) b4_3, .d (.int .i64) b4_4, .d (.int .i64) b4_5, .d (.int .i64) b4_6])], []⟩
def w24kR8 (c : Code) : List It2 := atR 8 c
def w24sR8 (x6 : Int) (x7 : Int) (b2 : VShard) (b3 : VItem) (b4_0 : List VItem) (b4_1 : Int) (b4_2 : Int) (b4_3 : Int) (b4_4 : Int) (b4_5 : Int) (b4_6 : Int) : TS EE.T := ⟨53, [(2, .a (.box 2 0)), (3, .a (.box 3 0)), (4, .a (.box 4 0)), (6, .a (.d (.int .i64) x6)), (7, .a (.d (.int .i64) x7))], [(2, .cs (unpT EE (.nam 8) b2)), (3, .cs (unpT EE (.nam 7) b3)), (4, .cs [.own (.nam 7) b4_0, .d (.int .i64) b4_1, .d (.int .i64) b4_2, .d (.int .i64) b4_3, .d (.int .i64) b4_4, .d (.int .i64) b4_5, .d (.int .i64) b4_6])], []⟩
def w24kR4 (c : Code) : List It2 := atR 4 c
def w24sR4 (x6 : Int) (b2 : VShard) (b3 : VItem) (b4_0 : List VItem) (b4_1 : Int) (b4_2 : Int) (b4_3 : Int) (b4_4 : Int) (b4_5 : Int) (b4_6 : Int) : TS EE.T := ⟨53, [(2, .a (.box 2 0)), (3, .a (.box 3 0)), (4, .a (.box 4 0)), (6, .a (.d (.int .i64) x6))], [(2, .cs (unpT EE (.nam 8) b2)), (3, .cs (unpT EE (.nam 7) b3)), (4, .cs [.own (.nam 7) b4_0, .d (.int .i64) b4_1, .d (.int .i64) b4_2, .d (.int .i64) b4_3, .d (.int .i64) b4_4, .d (.int .i64) b4_5, .d (.int .i64) b4_6])], []⟩
def w24kE0 (c : Code) : List It2 := [.c c]
def w24sE0 (x0 : VShard) (x1 : VItem) : TS EE.T := ⟨53, [(0, .ag (unpT EE (.nam 8) x0)), (1, .ag (unpT EE (.nam 7) x1))], [], []⟩
def w24TR10 (c : Code) (N : Nat) (n : Nat) (x6 : Int) (b2 : VShard) (b3 : VItem) (b4_0 : List VItem) (b4_1 : Int) (b4_2 : Int) (b4_3 : Int) (b4_4 : Int) (b4_5 : Int) (b4_6 : Int) : Tree (Lf EE.T × Option (VShard × Int)) :=
  .cond (x6 != 0)
  (
    .leaf (.done (w24enc (({ Items := ([] : List VItem), Batch := 0, Room := 0, First := 0, Most := 0, Waits := 0, Till := 0 } : VShard), x6)), some (({ Items := ([] : List VItem), Batch := 0, Room := 0, First := 0, Most := 0, Waits := 0, Till := 0 } : VShard), x6)))
  (
    .bnd (appCl 48 b2.Items ([b3] : List VItem)) fun z4 =>
    .bnd (shard_own N ({ Items := z4, Batch := b2.Batch, Room := b2.Room, First := b2.First, Most := b2.Most, Waits := b2.Waits, Till := b2.Till } : VShard) 0) fun z5 =>
    .leaf (.done (w24enc (z5, 0)), some (z5, 0)))
theorem w24vR10 (N : Nat) (n : Nat) (x6 : Int) (b2 : VShard) (b3 : VItem) (b4_0 : List VItem) (b4_1 : Int) (b4_2 : Int) (b4_3 : Int) (b4_4 : Int) (b4_5 : Int) (b4_6 : Int) : evM TT EE (w24G N) w24lv w24rs 4000 true (w24kR10 (bodyOf 0 Try.f24)) (w24sR10 x6 b2 b3 b4_0 b4_1 b4_2 b4_3 b4_4 b4_5 b4_6) = (w24TR10 (bodyOf 0 Try.f24) N n x6 b2 b3 b4_0 b4_1 b4_2 b4_3 b4_4 b4_5 b4_6).map1 := by kernel_rfl
theorem w24nR10 (N : Nat) (n : Nat) (x6 : Int) (b2 : VShard) (b3 : VItem) (b4_0 : List VItem) (b4_1 : Int) (b4_2 : Int) (b4_3 : Int) (b4_4 : Int) (b4_5 : Int) (b4_6 : Int) : shard_Push_R10 N n x6 b2 b3 b4_0 b4_1 b4_2 b4_3 b4_4 b4_5 b4_6 = (w24TR10 (bodyOf 0 Try.f24) N n x6 b2 b3 b4_0 b4_1 b4_2 b4_3 b4_4 b4_5 b4_6).run := by kernel_rfl
theorem w24oR10 {N : Nat} {r : VShard × Int} (n : Nat) (x6 : Int) (b2 : VShard) (b3 : VItem) (b4_0 : List VItem) (b4_1 : Int) (b4_2 : Int) (b4_3 : Int) (b4_4 : Int) (b4_5 : Int) (b4_6 : Int) (h : shard_Push_R10 N n x6 b2 b3 b4_0 b4_1 b4_2 b4_3 b4_4 b4_5 b4_6 = some r) : Ends (Y := TT) EE (w24G N) w24lv w24rs (fun u => u = w24enc r) (w24kR10 (bodyOf 0 Try.f24)) (w24sR10 x6 b2 b3 b4_0 b4_1 b4_2 b4_3 b4_4 b4_5 b4_6) :=
  tree_use (w24vR10 N n x6 b2 b3 b4_0 b4_1 b4_2 b4_3 b4_4 b4_5 b4_6) (w24nR10 N n x6 b2 b3 b4_0 b4_1 b4_2 b4_3 b4_4 b4_5 b4_6) h (show (w24TR10 (bodyOf 0 Try.f24) N n x6 b2 b3 b4_0 b4_1 b4_2 b4_3 b4_4 b4_5 b4_6).all _ from ⟨retp (enc := w24enc) rfl, fun _ => fun _ => retp (enc := w24enc) rfl⟩)
def w24TR8 (c : Code) (N : Nat) (n : Nat) (x6 : Int) (x7 : Int) (b2 : VShard) (b3 : VItem) (b4_0 : List VItem) (b4_1 : Int) (b4_2 : Int) (b4_3 : Int) (b4_4 : Int) (b4_5 : Int) (b4_6 : Int) : Tree (Lf EE.T × Option (VShard × Int)) :=
  .cond (x7 == b2.Room)
  (
    .leaf (.go (w24kR10 c) (w24sR10 2 b2 b3 b4_0 b4_1 b4_2 b4_3 b4_4 b4_5 b4_6), shard_Push_R10 N n 2 b2 b3 b4_0 b4_1 b4_2 b4_3 b4_4 b4_5 b4_6))
  (
    .leaf (.go (w24kR10 c) (w24sR10 x6 b2 b3 b4_0 b4_1 b4_2 b4_3 b4_4 b4_5 b4_6), shard_Push_R10 N n x6 b2 b3 b4_0 b4_1 b4_2 b4_3 b4_4 b4_5 b4_6))
theorem w24vR8 (N : Nat) (n : Nat) (x6 : Int) (x7 : Int) (b2 : VShard) (b3 : VItem) (b4_0 : List VItem) (b4_1 : Int) (b4_2 : Int) (b4_3 : Int) (b4_4 : Int) (b4_5 : Int) (b4_6 : Int) : evM TT EE (w24G N) w24lv w24rs 4000 true (w24kR8 (bodyOf 0 Try.f24)) (w24sR8 x6 x7 b2 b3 b4_0 b4_1 b4_2 b4_3 b4_4 b4_5 b4_6) = (w24TR8 (bodyOf 0 Try.f24) N n x6 x7 b2 b3 b4_0 b4_1 b4_2 b4_3 b4_4 b4_5 b4_6).map1 := by kernel_rfl
theorem w24nR8 (N : Nat) (n : Nat) (x6 : Int) (x7 : Int) (b2 : VShard) (b3 : VItem) (b4_0 : List VItem) (b4_1 : Int) (b4_2 : Int) (b4_3 : Int) (b4_4 : Int) (b4_5 : Int) (b4_6 : Int) : shard_Push_R8 N n x6 x7 b2 b3 b4_0 b4_1 b4_2 b4_3 b4_4 b4_5 b4_6 = (w24TR8 (bodyOf 0 Try.f24) N n x6 x7 b2 b3 b4_0 b4_1 b4_2 b4_3 b4_4 b4_5 b4_6).run := by kernel_rfl
theorem w24oR8 {N : Nat} {r : VShard × Int} (n : Nat) (x6 : Int) (x7 : Int) (b2 : VShard) (b3 : VItem) (b4_0 : List VItem) (b4_1 : Int) (b4_2 : Int) (b4_3 : Int) (b4_4 : Int) (b4_5 : Int) (b4_6 : Int) (h : shard_Push_R8 N n x6 x7 b2 b3 b4_0 b4_1 b4_2 b4_3 b4_4 b4_5 b4_6 = some r) : Ends (Y := TT) EE (w24G N) w24lv w24rs (fun u => u = w24enc r) (w24kR8 (bodyOf 0 Try.f24)) (w24sR8 x6 x7 b2 b3 b4_0 b4_1 b4_2 b4_3 b4_4 b4_5 b4_6) :=
  tree_use (w24vR8 N n x6 x7 b2 b3 b4_0 b4_1 b4_2 b4_3 b4_4 b4_5 b4_6) (w24nR8 N n x6 x7 b2 b3 b4_0 b4_1 b4_2 b4_3 b4_4 b4_5 b4_6) h (show (w24TR8 (bodyOf 0 Try.f24) N n x6 x7 b2 b3 b4_0 b4_1 b4_2 b4_3 b4_4 b4_5 b4_6).all _ from ⟨fun h => w24oR10 n _ _ _ _ _ _ _ _ _ _ h, fun h => w24oR10 n _ _ _ _ _ _ _ _ _ _ h⟩)
def w24TR4 (c : Code) (N : Nat) (n : Nat) (x6 : Int) (b2 : VShard) (b3 : VItem) (b4_0 : List VItem) (b4_1 : Int) (b4_2 : Int) (b4_3 : Int) (b4_4 : Int) (b4_5 : Int) (b4_6 : Int) : Tree (Lf EE.T × Option (VShard × Int)) :=
  .cond (x6 != 0)
  (
    .leaf (.go (w24kR10 c) (w24sR10 x6 b2 b3 b4_0 b4_1 b4_2 b4_3 b4_4 b4_5 b4_6), shard_Push_R10 N n x6 b2 b3 b4_0 b4_1 b4_2 b4_3 b4_4 b4_5 b4_6))
  (
    .cond (decide ((b2.Items.length : Int) > 0))
    (
      .bnd (idxC b2.Items (w64 ((b2.Items.length : Int) - 1))) fun z3 =>
      .cond (decide (b3.Number ≤ z3.Number))
      (
        .leaf (.go (w24kR10 c) (w24sR10 4 b2 b3 b4_0 b4_1 b4_2 b4_3 b4_4 b4_5 b4_6), shard_Push_R10 N n 4 b2 b3 b4_0 b4_1 b4_2 b4_3 b4_4 b4_5 b4_6))
      (
        .leaf (.go (w24kR8 c) (w24sR8 x6 (b2.Items.length : Int) b2 b3 b4_0 b4_1 b4_2 b4_3 b4_4 b4_5 b4_6), shard_Push_R8 N n x6 (b2.Items.length : Int) b2 b3 b4_0 b4_1 b4_2 b4_3 b4_4 b4_5 b4_6)))
    (
      .leaf (.go (w24kR8 c) (w24sR8 x6 (b2.Items.length : Int) b2 b3 b4_0 b4_1 b4_2 b4_3 b4_4 b4_5 b4_6), shard_Push_R8 N n x6 (b2.Items.length : Int) b2 b3 b4_0 b4_1 b4_2 b4_3 b4_4 b4_5 b4_6)))
theorem w24vR4 (N : Nat) (n : Nat) (x6 : Int) (b2 : VShard) (b3 : VItem) (b4_0 : List VItem) (b4_1 : Int) (b4_2 : Int) (b4_3 : Int) (b4_4 : Int) (b4_5 : Int) (b4_6 : Int) : evM TT EE (w24G N) w24lv w24rs 4000 true (w24kR4 (bodyOf 0 Try.f24)) (w24sR4 x6 b2 b3 b4_0 b4_1 b4_2 b4_3 b4_4 b4_5 b4_6) = (w24TR4 (bodyOf 0 Try.f24) N n x6 b2 b3 b4_0 b4_1 b4_2 b4_3 b4_4 b4_5 b4_6).map1 := by kernel_rfl
theorem w24nR4 (N : Nat) (n : Nat) (x6 : Int) (b2 : VShard) (b3 : VItem) (b4_0 : List VItem) (b4_1 : Int) (b4_2 : Int) (b4_3 : Int) (b4_4 : Int) (b4_5 : Int) (b4_6 : Int) : shard_Push_R4 N n x6 b2 b3 b4_0 b4_1 b4_2 b4_3 b4_4 b4_5 b4_6 = (w24TR4 (bodyOf 0 Try.f24) N n x6 b2 b3 b4_0 b4_1 b4_2 b4_3 b4_4 b4_5 b4_6).run := by kernel_rfl
theorem w24oR4 {N : Nat} {r : VShard × Int} (n : Nat) (x6 : Int) (b2 : VShard) (b3 : VItem) (b4_0 : List VItem) (b4_1 : Int) (b4_2 : Int) (b4_3 : Int) (b4_4 : Int) (b4_5 : Int) (b4_6 : Int) (h : shard_Push_R4 N n x6 b2 b3 b4_0 b4_1 b4_2 b4_3 b4_4 b4_5 b4_6 = some r) : Ends (Y := TT) EE (w24G N) w24lv w24rs (fun u => u = w24enc r) (w24kR4 (bodyOf 0 Try.f24)) (w24sR4 x6 b2 b3 b4_0 b4_1 b4_2 b4_3 b4_4 b4_5 b4_6) :=
  tree_use (w24vR4 N n x6 b2 b3 b4_0 b4_1 b4_2 b4_3 b4_4 b4_5 b4_6) (w24nR4 N n x6 b2 b3 b4_0 b4_1 b4_2 b4_3 b4_4 b4_5 b4_6) h (show (w24TR4 (bodyOf 0 Try.f24) N n x6 b2 b3 b4_0 b4_1 b4_2 b4_3 b4_4 b4_5 b4_6).all _ from ⟨fun h => w24oR10 n _ _ _ _ _ _ _ _ _ _ h, ⟨fun _ => ⟨fun h => w24oR10 n _ _ _ _ _ _ _ _ _ _ h, fun h => w24oR8 n _ _ _ _ _ _ _ _ _ _ _ h⟩, fun h => w24oR8 n _ _ _ _ _ _ _ _ _ _ _ h⟩⟩)
def w24TE0 (c : Code) (N : Nat) (x0 : VShard) (x1 : VItem) : Tree (Lf EE.T × Option (VShard × Int)) :=
  .bnd (shard_Check N x0) fun z1 =>
  .cond (z1 == 0)
  (
    .bnd (shard_checkItem N x1) fun z2 =>
    .leaf (.go (w24kR4 c) (w24sR4 z2 x0 x1 ([] : List VItem) 0 0 0 0 0 0), shard_Push_R4 N N z2 x0 x1 ([] : List VItem) 0 0 0 0 0 0))
  (
    .leaf (.go (w24kR4 c) (w24sR4 z1 x0 x1 ([] : List VItem) 0 0 0 0 0 0), shard_Push_R4 N N z1 x0 x1 ([] : List VItem) 0 0 0 0 0 0))
theorem w24vE0 (N : Nat) (x0 : VShard) (x1 : VItem) : evM TT EE (w24G N) w24lv w24rs 4000 true (w24kE0 (bodyOf 0 Try.f24)) (w24sE0 x0 x1) = (w24TE0 (bodyOf 0 Try.f24) N x0 x1).map1 := by kernel_rfl
theorem w24nE0 (N : Nat) (x0 : VShard) (x1 : VItem) : shard_Push N x0 x1 = (w24TE0 (bodyOf 0 Try.f24) N x0 x1).run := by kernel_rfl
theorem w24oE0 {N : Nat} {r : VShard × Int} (x0 : VShard) (x1 : VItem) (h : shard_Push N x0 x1 = some r) : Ends (Y := TT) EE (w24G N) w24lv w24rs (fun u => u = w24enc r) (w24kE0 (bodyOf 0 Try.f24)) (w24sE0 x0 x1) :=
  tree_use (w24vE0 N x0 x1) (w24nE0 N x0 x1) h (show (w24TE0 (bodyOf 0 Try.f24) N x0 x1).all _ from fun _ => ⟨fun _ => fun h => w24oR4 N _ _ _ _ _ _ _ _ _ _ h, fun h => w24oR4 N _ _ _ _ _ _ _ _ _ _ h⟩)
theorem shard_Push_ok {N : Nat} (x0 : VShard) (x1 : VItem) {r : VShard × Int} (h : shard_Push N x0 x1 = some r) (ρ : Nat → Nat) : ACalls Try.prog 24 (([.ag (unpT EE (.nam 8) x0), .ag (unpT EE (.nam 7) x1)] : List (TV EE.T)).map (TV.to EE.toEnc ρ)) [] (fun out H => out = .ret ((shard_Push_u r).to EE.toEnc ρ) ∧ H = []) :=
  (fn_ok (bodyOf 0 Try.f24) 53 mixed (w24Gok N) Try.func24 (by kernel_rfl) rfl rfl rfl rfl (w24oE0 x0 x1 h) ρ).mono fun out H h => KPost.ret rfl h
def shard_Push_h (N : Nat) : List (TV EE.T) → PV EE.T
  | [u0, u1] => match argS EE 8 u0, argS EE 7 u1 with
    | some x0, some x1 => .opt (shard_Push N x0 x1) shard_Push_u
    | _, _ => .bad
  | _ => .bad
theorem shard_Push_hok (N : Nat) (us : List (TV EE.T)) : (shard_Push_h N us).ok fun u => ∀ ρ, ACalls Try.prog 24 (us.map (TV.to EE.toEnc ρ)) [] (fun out H => out = .ret (u.to EE.toEnc ρ) ∧ H = []) := by
  unfold shard_Push_h
  split
  · split
    · rename_i h0 h1
      intro z hz ρ; refine acalls_le ?_ (shard_Push_ok _ _ hz ρ); exact ⟨argS_le h0 ρ, argS_le h1 ρ, trivial⟩
    · trivial
  · trivial
/-! ### gleaner/wire.many -/
def wire_many_u (r : Bool) : TV EE.T := .a (.d .bool r)
def w106enc (r : Bool) : RL EE.T := .ret (wire_many_u r) []
def w106lv : Lvs := ⟨[], [(4, ⟨[(10, false), (11, false), (12, false)], [], []⟩), (9, ⟨[(10, false), (11, false), (12, false), (27, false), (28, false), (29, false)], [], []⟩)], [], [], false, [], []⟩
def w106rs : List ResultVar := [.tmp 2]
def w106G (N : Nat) : Gam EE := ⟨[], EQT, [], []⟩
theorem w106Gok (N : Nat) : GOk Try.prog TT EE (w106G N) := GOk.nil EQT_ok
def w106kL9 (c : Code) : List It2 := atL 9 c
def w106sL9 (x10 : List VSeries) (x11 : Int) (x12 : Int) (x27 : List VLabel) (x28 : Int) (x29 : Int) : TS EE.T := ⟨45, [(10, .a (.d (.sl (.nam 9)) x10)), (11, .a (.d (.int .i64) x11)), (12, .a (.d (.int .i64) x12)), (27, .a (.d (.sl (.nam 2)) x27)), (28, .a (.d (.int .i64) x28)), (29, .a (.d (.int .i64) x29))], [], []⟩
def w106kL4 (c : Code) : List It2 := atL 4 c
def w106sL4 (x10 : List VSeries) (x11 : Int) (x12 : Int) : TS EE.T := ⟨45, [(10, .a (.d (.sl (.nam 9)) x10)), (11, .a (.d (.int .i64) x11)), (12, .a (.d (.int .i64) x12))], [], []⟩
def w106kE0 (c : Code) : List It2 := [.c c]
def w106sE0 (x0 : List VSeries) : TS EE.T := ⟨45, [(0, .a (.d (.sl (.nam 9)) x0))], [], []⟩
def w106TL9 (c : Code) (N : Nat) (k4 : (List VSeries) → Int → Int → Option Bool) (n : Nat) (x10 : List VSeries) (x11 : Int) (x12 : Int) (x27 : List VLabel) (x28 : Int) (x29 : Int) : Tree (Lf EE.T × Option Bool) :=
  .cond (decide (x29 < x28))
  (
    .bnd (idxC x27 x29) fun z2 =>
    .cond (decide ((z2.Name.length : Int) > 20000))
    (
      .leaf (.done (w106enc true), some true))
    (
      .cond (decide ((z2.Value.length : Int) > 20000))
      (
        .leaf (.done (w106enc true), some true))
      (
        .leaf (.go (w106kL9 c) (w106sL9 x10 x11 x12 x27 x28 (w64 (x29 + 1))), wire_many_L9 N k4 n x10 x11 x12 x27 x28 (w64 (x29 + 1))))))
  (
    .leaf (.go (w106kL4 c) (w106sL4 x10 x11 (w64 (x12 + 1))), k4 x10 x11 (w64 (x12 + 1))))
theorem w106vL9 (N : Nat) (k4 : (List VSeries) → Int → Int → Option Bool) (n : Nat) (x10 : List VSeries) (x11 : Int) (x12 : Int) (x27 : List VLabel) (x28 : Int) (x29 : Int) : evM TT EE (w106G N) w106lv w106rs 4000 true (w106kL9 (bodyOf 0 Try.f106)) (w106sL9 x10 x11 x12 x27 x28 x29) = (w106TL9 (bodyOf 0 Try.f106) N k4 n x10 x11 x12 x27 x28 x29).map1 := by kernel_rfl
theorem w106nL9 (N : Nat) (k4 : (List VSeries) → Int → Int → Option Bool) (n : Nat) (x10 : List VSeries) (x11 : Int) (x12 : Int) (x27 : List VLabel) (x28 : Int) (x29 : Int) : wire_many_L9 N k4 (n + 1) x10 x11 x12 x27 x28 x29 = (w106TL9 (bodyOf 0 Try.f106) N k4 n x10 x11 x12 x27 x28 x29).run := by kernel_rfl
theorem w106oL9 {N : Nat} {r : Bool} {k4 : (List VSeries) → Int → Int → Option Bool} (hk4 : ∀ x10 x11 x12, k4 x10 x11 x12 = some r → Ends (Y := TT) EE (w106G N) w106lv w106rs (fun u => u = w106enc r) (w106kL4 (bodyOf 0 Try.f106)) (w106sL4 x10 x11 x12)) : ∀ (n : Nat) (x10 : List VSeries) (x11 : Int) (x12 : Int) (x27 : List VLabel) (x28 : Int) (x29 : Int), wire_many_L9 N k4 n x10 x11 x12 x27 x28 x29 = some r → Ends (Y := TT) EE (w106G N) w106lv w106rs (fun u => u = w106enc r) (w106kL9 (bodyOf 0 Try.f106)) (w106sL9 x10 x11 x12 x27 x28 x29)
  | 0, _, _, _, _, _, _, h => by cases h
  | n + 1, x10, x11, x12, x27, x28, x29, h => tree_use (w106vL9 N k4 n x10 x11 x12 x27 x28 x29) (w106nL9 N k4 n x10 x11 x12 x27 x28 x29) h (show (w106TL9 (bodyOf 0 Try.f106) N k4 n x10 x11 x12 x27 x28 x29).all _ from ⟨fun _ => ⟨retp (enc := w106enc) rfl, ⟨retp (enc := w106enc) rfl, fun h => (w106oL9 hk4 n) _ _ _ _ _ _ h⟩⟩, fun h => hk4 _ _ _ h⟩)
def w106TL4 (c : Code) (N : Nat) (n : Nat) (x10 : List VSeries) (x11 : Int) (x12 : Int) : Tree (Lf EE.T × Option Bool) :=
  .cond (decide (x12 < x11))
  (
    .bnd (idxC x10 x12) fun z1 =>
    .cond (decide ((z1.Labels.length : Int) > 20))
    (
      .leaf (.done (w106enc true), some true))
    (
      .cond (decide ((z1.Samples.length : Int) > 200))
      (
        .leaf (.done (w106enc true), some true))
      (
        .leaf (.go (w106kL9 c) (w106sL9 x10 x11 x12 z1.Labels (z1.Labels.length : Int) 0), wire_many_L9 N (wire_many_L4 N n) n x10 x11 x12 z1.Labels (z1.Labels.length : Int) 0))))
  (
    .leaf (.done (w106enc false), some false))
theorem w106vL4 (N : Nat) (n : Nat) (x10 : List VSeries) (x11 : Int) (x12 : Int) : evM TT EE (w106G N) w106lv w106rs 4000 true (w106kL4 (bodyOf 0 Try.f106)) (w106sL4 x10 x11 x12) = (w106TL4 (bodyOf 0 Try.f106) N n x10 x11 x12).map1 := by kernel_rfl
theorem w106nL4 (N : Nat) (n : Nat) (x10 : List VSeries) (x11 : Int) (x12 : Int) : wire_many_L4 N (n + 1) x10 x11 x12 = (w106TL4 (bodyOf 0 Try.f106) N n x10 x11 x12).run := by kernel_rfl
theorem w106oL4 {N : Nat} {r : Bool} : ∀ (n : Nat) (x10 : List VSeries) (x11 : Int) (x12 : Int), wire_many_L4 N n x10 x11 x12 = some r → Ends (Y := TT) EE (w106G N) w106lv w106rs (fun u => u = w106enc r) (w106kL4 (bodyOf 0 Try.f106)) (w106sL4 x10 x11 x12)
  | 0, _, _, _, h => by cases h
  | n + 1, x10, x11, x12, h => tree_use (w106vL4 N n x10 x11 x12) (w106nL4 N n x10 x11 x12) h (show (w106TL4 (bodyOf 0 Try.f106) N n x10 x11 x12).all _ from ⟨fun _ => ⟨retp (enc := w106enc) rfl, ⟨retp (enc := w106enc) rfl, fun h => w106oL9 (w106oL4 n) n _ _ _ _ _ _ h⟩⟩, retp (enc := w106enc) rfl⟩)
def w106TE0 (c : Code) (N : Nat) (x0 : List VSeries) : Tree (Lf EE.T × Option Bool) :=
  .cond (decide ((x0.length : Int) > 200))
  (
    .leaf (.done (w106enc true), some true))
  (
    .leaf (.go (w106kL4 c) (w106sL4 x0 (x0.length : Int) 0), wire_many_L4 N N x0 (x0.length : Int) 0))
theorem w106vE0 (N : Nat) (x0 : List VSeries) : evM TT EE (w106G N) w106lv w106rs 4000 true (w106kE0 (bodyOf 0 Try.f106)) (w106sE0 x0) = (w106TE0 (bodyOf 0 Try.f106) N x0).map1 := by kernel_rfl
theorem w106nE0 (N : Nat) (x0 : List VSeries) : wire_many N x0 = (w106TE0 (bodyOf 0 Try.f106) N x0).run := by kernel_rfl
theorem w106oE0 {N : Nat} {r : Bool} (x0 : List VSeries) (h : wire_many N x0 = some r) : Ends (Y := TT) EE (w106G N) w106lv w106rs (fun u => u = w106enc r) (w106kE0 (bodyOf 0 Try.f106)) (w106sE0 x0) :=
  tree_use (w106vE0 N x0) (w106nE0 N x0) h (show (w106TE0 (bodyOf 0 Try.f106) N x0).all _ from ⟨retp (enc := w106enc) rfl, fun h => w106oL4 N _ _ _ h⟩)
theorem wire_many_ok {N : Nat} (x0 : List VSeries) {r : Bool} (h : wire_many N x0 = some r) (ρ : Nat → Nat) : ACalls Try.prog 106 (([.a (.d (.sl (.nam 9)) x0)] : List (TV EE.T)).map (TV.to EE.toEnc ρ)) [] (fun out H => out = .ret ((wire_many_u r).to EE.toEnc ρ) ∧ H = []) :=
  (fn_ok (bodyOf 0 Try.f106) 45 mixed (w106Gok N) Try.func106 (by kernel_rfl) rfl rfl rfl rfl (w106oE0 x0 h) ρ).mono fun out H h => KPost.ret rfl h
def wire_many_h (N : Nat) : List (TV EE.T) → PV EE.T
  | [u0] => match argD (.sl (.nam 9)) u0 with
    | some x0 => .opt (wire_many N x0) wire_many_u
    | _ => .bad
  | _ => .bad
theorem wire_many_hok (N : Nat) (us : List (TV EE.T)) : (wire_many_h N us).ok fun u => ∀ ρ, ACalls Try.prog 106 (us.map (TV.to EE.toEnc ρ)) [] (fun out H => out = .ret (u.to EE.toEnc ρ) ∧ H = []) := by
  unfold wire_many_h
  split
  · split
    · rename_i h0
      intro z hz ρ; refine acalls_le ?_ (wire_many_ok _ hz ρ); exact ⟨argD_le h0 ρ, trivial⟩
    · trivial
  · trivial
/-! ### gleaner/wire.isTime -/
def wire_isTime_u (r : Bool) : TV EE.T := .a (.d .bool r)
def w109enc (r : Bool) : RL EE.T := .ret (wire_isTime_u r) []
def w109lv : Lvs := ⟨[], [], [], [], false, [], []⟩
def w109rs : List ResultVar := [.tmp 2]
def w109G (N : Nat) : Gam EE := ⟨[], EQT, [], []⟩
theorem w109Gok (N : Nat) : GOk Try.prog TT EE (w109G N) := GOk.nil EQT_ok
def w109kE0 (c : Code) : List It2 := [.c c]
def w109sE0 (x0 : Int) : TS EE.T := ⟨9, [(0, .a (.d (.int .i64) x0))], [], []⟩
def w109TE0 (c : Code) (N : Nat) (x0 : Int) : Tree (Lf EE.T × Option Bool) :=
  .cond (decide (x0 ≥ (-9007199254740991)))
  (
    .leaf (.done (w109enc (decide (x0 ≤ 9007199254740991))), some (decide (x0 ≤ 9007199254740991))))
  (
    .leaf (.done (w109enc false), some false))
theorem w109vE0 (N : Nat) (x0 : Int) : evM TT EE (w109G N) w109lv w109rs 4000 true (w109kE0 (bodyOf 0 Try.f109)) (w109sE0 x0) = (w109TE0 (bodyOf 0 Try.f109) N x0).map1 := by kernel_rfl
theorem w109nE0 (N : Nat) (x0 : Int) : wire_isTime N x0 = (w109TE0 (bodyOf 0 Try.f109) N x0).run := by kernel_rfl
theorem w109oE0 {N : Nat} {r : Bool} (x0 : Int) (h : wire_isTime N x0 = some r) : Ends (Y := TT) EE (w109G N) w109lv w109rs (fun u => u = w109enc r) (w109kE0 (bodyOf 0 Try.f109)) (w109sE0 x0) :=
  tree_use (w109vE0 N x0) (w109nE0 N x0) h (show (w109TE0 (bodyOf 0 Try.f109) N x0).all _ from ⟨retp (enc := w109enc) rfl, retp (enc := w109enc) rfl⟩)
theorem wire_isTime_ok {N : Nat} (x0 : Int) {r : Bool} (h : wire_isTime N x0 = some r) (ρ : Nat → Nat) : ACalls Try.prog 109 (([.a (.d (.int .i64) x0)] : List (TV EE.T)).map (TV.to EE.toEnc ρ)) [] (fun out H => out = .ret ((wire_isTime_u r).to EE.toEnc ρ) ∧ H = []) :=
  (fn_ok (bodyOf 0 Try.f109) 9 mixed (w109Gok N) Try.func109 (by kernel_rfl) rfl rfl rfl rfl (w109oE0 x0 h) ρ).mono fun out H h => KPost.ret rfl h
def wire_isTime_h (N : Nat) : List (TV EE.T) → PV EE.T
  | [u0] => match argD (.int .i64) u0 with
    | some x0 => .opt (wire_isTime N x0) wire_isTime_u
    | _ => .bad
  | _ => .bad
theorem wire_isTime_hok (N : Nat) (us : List (TV EE.T)) : (wire_isTime_h N us).ok fun u => ∀ ρ, ACalls Try.prog 109 (us.map (TV.to EE.toEnc ρ)) [] (fun out H => out = .ret (u.to EE.toEnc ρ) ∧ H = []) := by
  unfold wire_isTime_h
  split
  · split
    · rename_i h0
      intro z hz ρ; refine acalls_le ?_ (wire_isTime_ok _ hz ρ); exact ⟨argD_le h0 ρ, trivial⟩
    · trivial
  · trivial
/-! ### gleaner/wire.times -/
def wire_times_u (r : Bool) : TV EE.T := .a (.d .bool r)
def w107enc (r : Bool) : RL EE.T := .ret (wire_times_u r) []
def w107lv : Lvs := ⟨[], [(2, ⟨[(7, false), (8, false), (9, false)], [], []⟩), (5, ⟨[(7, false), (8, false), (9, false), (14, false), (15, false), (16, false)], [], []⟩)], [], [], false, [], []⟩
def w107rs : List ResultVar := [.tmp 2]
def w107G (N : Nat) : Gam EE := ⟨[⟨109, wire_isTime_h N⟩], EQT, [], []⟩
theorem w107Gok (N : Nat) : GOk Try.prog TT EE (w107G N) := GOk.cons (wire_isTime_hok N) (GOk.nil EQT_ok)
def w107kL5 (c : Code) : List It2 := atL 5 c
def w107sL5 (x7 : List VSeries) (x8 : Int) (x9 : Int) (x14 : List VSample) (x15 : Int) (x16 : Int) : TS EE.T := ⟨26, [(7, .a (.d (.sl (.nam 9)) x7)), (8, .a (.d (.int .i64) x8)), (9, .a (.d (.int .i64) x9)), (14, .a (.d (.sl (.nam 6)) x14)), (15, .a (.d (.int .i64) x15)), (16, .a (.d (.int .i64) x16))], [], []⟩
def w107kL2 (c : Code) : List It2 := atL 2 c
def w107sL2 (x7 : List VSeries) (x8 : Int) (x9 : Int) : TS EE.T := ⟨26, [(7, .a (.d (.sl (.nam 9)) x7)), (8, .a (.d (.int .i64) x8)), (9, .a (.d (.int .i64) x9))], [], []⟩
def w107kE0 (c : Code) : List It2 := [.c c]
def w107sE0 (x0 : List VSeries) : TS EE.T := ⟨26, [(0, .a (.d (.sl (.nam 9)) x0))], [], []⟩
def w107TL5 (c : Code) (N : Nat) (k2 : (List VSeries) → Int → Int → Option Bool) (n : Nat) (x7 : List VSeries) (x8 : Int) (x9 : Int) (x14 : List VSample) (x15 : Int) (x16 : Int) : Tree (Lf EE.T × Option Bool) :=
  .cond (decide (x16 < x15))
  (
    .bnd (idxC x14 x16) fun z2 =>
    .bnd (wire_isTime N z2.Time) fun z3 =>
    .cond (!z3)
    (
      .leaf (.done (w107enc false), some false))
    (
      .leaf (.go (w107kL5 c) (w107sL5 x7 x8 x9 x14 x15 (w64 (x16 + 1))), wire_times_L5 N k2 n x7 x8 x9 x14 x15 (w64 (x16 + 1)))))
  (
    .leaf (.go (w107kL2 c) (w107sL2 x7 x8 (w64 (x9 + 1))), k2 x7 x8 (w64 (x9 + 1))))
theorem w107vL5 (N : Nat) (k2 : (List VSeries) → Int → Int → Option Bool) (n : Nat) (x7 : List VSeries) (x8 : Int) (x9 : Int) (x14 : List VSample) (x15 : Int) (x16 : Int) : evM TT EE (w107G N) w107lv w107rs 4000 true (w107kL5 (bodyOf 0 Try.f107)) (w107sL5 x7 x8 x9 x14 x15 x16) = (w107TL5 (bodyOf 0 Try.f107) N k2 n x7 x8 x9 x14 x15 x16).map1 := by kernel_rfl
theorem w107nL5 (N : Nat) (k2 : (List VSeries) → Int → Int → Option Bool) (n : Nat) (x7 : List VSeries) (x8 : Int) (x9 : Int) (x14 : List VSample) (x15 : Int) (x16 : Int) : wire_times_L5 N k2 (n + 1) x7 x8 x9 x14 x15 x16 = (w107TL5 (bodyOf 0 Try.f107) N k2 n x7 x8 x9 x14 x15 x16).run := by kernel_rfl
theorem w107oL5 {N : Nat} {r : Bool} {k2 : (List VSeries) → Int → Int → Option Bool} (hk2 : ∀ x7 x8 x9, k2 x7 x8 x9 = some r → Ends (Y := TT) EE (w107G N) w107lv w107rs (fun u => u = w107enc r) (w107kL2 (bodyOf 0 Try.f107)) (w107sL2 x7 x8 x9)) : ∀ (n : Nat) (x7 : List VSeries) (x8 : Int) (x9 : Int) (x14 : List VSample) (x15 : Int) (x16 : Int), wire_times_L5 N k2 n x7 x8 x9 x14 x15 x16 = some r → Ends (Y := TT) EE (w107G N) w107lv w107rs (fun u => u = w107enc r) (w107kL5 (bodyOf 0 Try.f107)) (w107sL5 x7 x8 x9 x14 x15 x16)
  | 0, _, _, _, _, _, _, h => by cases h
  | n + 1, x7, x8, x9, x14, x15, x16, h => tree_use (w107vL5 N k2 n x7 x8 x9 x14 x15 x16) (w107nL5 N k2 n x7 x8 x9 x14 x15 x16) h (show (w107TL5 (bodyOf 0 Try.f107) N k2 n x7 x8 x9 x14 x15 x16).all _ from ⟨fun _ => fun _ => ⟨retp (enc := w107enc) rfl, fun h => (w107oL5 hk2 n) _ _ _ _ _ _ h⟩, fun h => hk2 _ _ _ h⟩)
def w107TL2 (c : Code) (N : Nat) (n : Nat) (x7 : List VSeries) (x8 : Int) (x9 : Int) : Tree (Lf EE.T × Option Bool) :=
  .cond (decide (x9 < x8))
  (
    .bnd (idxC x7 x9) fun z1 =>
    .leaf (.go (w107kL5 c) (w107sL5 x7 x8 x9 z1.Samples (z1.Samples.length : Int) 0), wire_times_L5 N (wire_times_L2 N n) n x7 x8 x9 z1.Samples (z1.Samples.length : Int) 0))
  (
    .leaf (.done (w107enc true), some true))
theorem w107vL2 (N : Nat) (n : Nat) (x7 : List VSeries) (x8 : Int) (x9 : Int) : evM TT EE (w107G N) w107lv w107rs 4000 true (w107kL2 (bodyOf 0 Try.f107)) (w107sL2 x7 x8 x9) = (w107TL2 (bodyOf 0 Try.f107) N n x7 x8 x9).map1 := by kernel_rfl
theorem w107nL2 (N : Nat) (n : Nat) (x7 : List VSeries) (x8 : Int) (x9 : Int) : wire_times_L2 N (n + 1) x7 x8 x9 = (w107TL2 (bodyOf 0 Try.f107) N n x7 x8 x9).run := by kernel_rfl
theorem w107oL2 {N : Nat} {r : Bool} : ∀ (n : Nat) (x7 : List VSeries) (x8 : Int) (x9 : Int), wire_times_L2 N n x7 x8 x9 = some r → Ends (Y := TT) EE (w107G N) w107lv w107rs (fun u => u = w107enc r) (w107kL2 (bodyOf 0 Try.f107)) (w107sL2 x7 x8 x9)
  | 0, _, _, _, h => by cases h
  | n + 1, x7, x8, x9, h => tree_use (w107vL2 N n x7 x8 x9) (w107nL2 N n x7 x8 x9) h (show (w107TL2 (bodyOf 0 Try.f107) N n x7 x8 x9).all _ from ⟨fun _ => fun h => w107oL5 (w107oL2 n) n _ _ _ _ _ _ h, retp (enc := w107enc) rfl⟩)
def w107TE0 (c : Code) (N : Nat) (x0 : List VSeries) : Tree (Lf EE.T × Option Bool) :=
  .leaf (.go (w107kL2 c) (w107sL2 x0 (x0.length : Int) 0), wire_times_L2 N N x0 (x0.length : Int) 0)
theorem w107vE0 (N : Nat) (x0 : List VSeries) : evM TT EE (w107G N) w107lv w107rs 4000 true (w107kE0 (bodyOf 0 Try.f107)) (w107sE0 x0) = (w107TE0 (bodyOf 0 Try.f107) N x0).map1 := by kernel_rfl
theorem w107nE0 (N : Nat) (x0 : List VSeries) : wire_times N x0 = (w107TE0 (bodyOf 0 Try.f107) N x0).run := by kernel_rfl
theorem w107oE0 {N : Nat} {r : Bool} (x0 : List VSeries) (h : wire_times N x0 = some r) : Ends (Y := TT) EE (w107G N) w107lv w107rs (fun u => u = w107enc r) (w107kE0 (bodyOf 0 Try.f107)) (w107sE0 x0) :=
  tree_use (w107vE0 N x0) (w107nE0 N x0) h (show (w107TE0 (bodyOf 0 Try.f107) N x0).all _ from fun h => w107oL2 N _ _ _ h)
theorem wire_times_ok {N : Nat} (x0 : List VSeries) {r : Bool} (h : wire_times N x0 = some r) (ρ : Nat → Nat) : ACalls Try.prog 107 (([.a (.d (.sl (.nam 9)) x0)] : List (TV EE.T)).map (TV.to EE.toEnc ρ)) [] (fun out H => out = .ret ((wire_times_u r).to EE.toEnc ρ) ∧ H = []) :=
  (fn_ok (bodyOf 0 Try.f107) 26 mixed (w107Gok N) Try.func107 (by kernel_rfl) rfl rfl rfl rfl (w107oE0 x0 h) ρ).mono fun out H h => KPost.ret rfl h
def wire_times_h (N : Nat) : List (TV EE.T) → PV EE.T
  | [u0] => match argD (.sl (.nam 9)) u0 with
    | some x0 => .opt (wire_times N x0) wire_times_u
    | _ => .bad
  | _ => .bad
theorem wire_times_hok (N : Nat) (us : List (TV EE.T)) : (wire_times_h N us).ok fun u => ∀ ρ, ACalls Try.prog 107 (us.map (TV.to EE.toEnc ρ)) [] (fun out H => out = .ret (u.to EE.toEnc ρ) ∧ H = []) := by
  unfold wire_times_h
  split
  · split
    · rename_i h0
      intro z hz ρ; refine acalls_le ?_ (wire_times_ok _ hz ρ); exact ⟨argD_le h0 ρ, trivial⟩
    · trivial
  · trivial
/-! ### gleaner/wire.check -/
def wire_check_u (r : Int) : TV EE.T := .a (.d (.int .i64) r)
def w96enc (r : Int) : RL EE.T := .ret (wire_check_u r) []
def w96lv : Lvs := ⟨[], [], [], [], false, [], []⟩
def w96rs : List ResultVar := [.tmp 2]
def w96G (N : Nat) : Gam EE := ⟨[⟨106, wire_many_h N⟩, ⟨107, wire_times_h N⟩], EQT, [], []⟩
theorem w96Gok (N : Nat) : GOk Try.prog TT EE (w96G N) := GOk.cons (wire_many_hok N) (GOk.cons (wire_times_hok N) (GOk.nil EQT_ok))
def w96kE0 (c : Code) : List It2 := [.c c]
def w96sE0 (x0 : List VSeries) : TS EE.T := ⟨10, [(0, .a (.d (.sl (.nam 9)) x0))], [], []⟩
def w96TE0 (c : Code) (N : Nat) (x0 : List VSeries) : Tree (Lf EE.T × Option Int) :=
  .bnd (wire_many N x0) fun z1 =>
  .cond (z1)
  (
    .leaf (.done (w96enc 2), some 2))
  (
    .bnd (wire_times N x0) fun z2 =>
    .cond (!z2)
    (
      .leaf (.done (w96enc 3), some 3))
    (
      .leaf (.done (w96enc 0), some 0)))
theorem w96vE0 (N : Nat) (x0 : List VSeries) : evM TT EE (w96G N) w96lv w96rs 4000 true (w96kE0 (bodyOf 0 Try.f96)) (w96sE0 x0) = (w96TE0 (bodyOf 0 Try.f96) N x0).map1 := by kernel_rfl
theorem w96nE0 (N : Nat) (x0 : List VSeries) : wire_check N x0 = (w96TE0 (bodyOf 0 Try.f96) N x0).run := by kernel_rfl
theorem w96oE0 {N : Nat} {r : Int} (x0 : List VSeries) (h : wire_check N x0 = some r) : Ends (Y := TT) EE (w96G N) w96lv w96rs (fun u => u = w96enc r) (w96kE0 (bodyOf 0 Try.f96)) (w96sE0 x0) :=
  tree_use (w96vE0 N x0) (w96nE0 N x0) h (show (w96TE0 (bodyOf 0 Try.f96) N x0).all _ from fun _ => ⟨retp (enc := w96enc) rfl, fun _ => ⟨retp (enc := w96enc) rfl, retp (enc := w96enc) rfl⟩⟩)
theorem wire_check_ok {N : Nat} (x0 : List VSeries) {r : Int} (h : wire_check N x0 = some r) (ρ : Nat → Nat) : ACalls Try.prog 96 (([.a (.d (.sl (.nam 9)) x0)] : List (TV EE.T)).map (TV.to EE.toEnc ρ)) [] (fun out H => out = .ret ((wire_check_u r).to EE.toEnc ρ) ∧ H = []) :=
  (fn_ok (bodyOf 0 Try.f96) 10 mixed (w96Gok N) Try.func96 (by kernel_rfl) rfl rfl rfl rfl (w96oE0 x0 h) ρ).mono fun out H h => KPost.ret rfl h
def wire_check_h (N : Nat) : List (TV EE.T) → PV EE.T
  | [u0] => match argD (.sl (.nam 9)) u0 with
    | some x0 => .opt (wire_check N x0) wire_check_u
    | _ => .bad
  | _ => .bad
theorem wire_check_hok (N : Nat) (us : List (TV EE.T)) : (wire_check_h N us).ok fun u => ∀ ρ, ACalls Try.prog 96 (us.map (TV.to EE.toEnc ρ)) [] (fun out H => out = .ret (u.to EE.toEnc ρ) ∧ H = []) := by
  unfold wire_check_h
  split
  · split
    · rename_i h0
      intro z hz ρ; refine acalls_le ?_ (wire_check_ok _ hz ρ); exact ⟨argD_le h0 ρ, trivial⟩
    · trivial
  · trivial
/-! ### gleaner/wire.Number -/
def wire_Number_u (r : List UInt8) : TV EE.T := .a (.d .str r)
def w76enc (r : List UInt8) : RL EE.T := .ret (wire_Number_u r) []
def w76lv : Lvs := ⟨[], [(2, ⟨[(0, false), (3, false)], [], []⟩)], [], [], false, [], []⟩
def w76rs : List ResultVar := [.tmp 2]
def w76G (N : Nat) : Gam EE := ⟨[], EQT, [], []⟩
theorem w76Gok (N : Nat) : GOk Try.prog TT EE (w76G N) := GOk.nil EQT_ok
def w76kL2 (c : Code) : List It2 := atL 2 c
def w76sL2 (x0 : Int) (x3 : List UInt8) : TS EE.T := ⟨20, [(0, .a (.d (.int .u64) x0)), (3, .a (.own .byte x3))], [], []⟩
def w76kE0 (c : Code) : List It2 := [.c c]
def w76sE0 (x0 : Int) : TS EE.T := ⟨20, [(0, .a (.d (.int .u64) x0))], [], []⟩
def w76TL2 (c : Code) (N : Nat) (n : Nat) (x0 : Int) (x3 : List UInt8) : Tree (Lf EE.T × Option (List UInt8)) :=
  .cond (decide (x0 > 127))
  (
    .bnd (appC 1 x3 ([toB (bits .or .u8 (b2i (toB (IntKind.wrap .u8 x0))) (b2i 128))] : List UInt8)) fun z1 =>
    .bnd (shrC .u64 x0 7) fun z2 =>
    .leaf (.go (w76kL2 c) (w76sL2 z2 z1), wire_Number_L2 N n z2 z1))
  (
    .bnd (appC 1 x3 ([toB (IntKind.wrap .u8 x0)] : List UInt8)) fun z3 =>
    .leaf (.done (w76enc z3), some z3))
theorem w76vL2 (N : Nat) (n : Nat) (x0 : Int) (x3 : List UInt8) : evM TT EE (w76G N) w76lv w76rs 4000 true (w76kL2 (bodyOf 0 Try.f76)) (w76sL2 x0 x3) = (w76TL2 (bodyOf 0 Try.f76) N n x0 x3).map1 := by kernel_rfl
theorem w76nL2 (N : Nat) (n : Nat) (x0 : Int) (x3 : List UInt8) : wire_Number_L2 N (n + 1) x0 x3 = (w76TL2 (bodyOf 0 Try.f76) N n x0 x3).run := by kernel_rfl
theorem w76oL2 {N : Nat} {r : List UInt8} : ∀ (n : Nat) (x0 : Int) (x3 : List UInt8), wire_Number_L2 N n x0 x3 = some r → Ends (Y := TT) EE (w76G N) w76lv w76rs (fun u => u = w76enc r) (w76kL2 (bodyOf 0 Try.f76)) (w76sL2 x0 x3)
  | 0, _, _, h => by cases h
  | n + 1, x0, x3, h => tree_use (w76vL2 N n x0 x3) (w76nL2 N n x0 x3) h (show (w76TL2 (bodyOf 0 Try.f76) N n x0 x3).all _ from ⟨fun _ => fun _ => fun h => (w76oL2 n) _ _ h, fun _ => retp (enc := w76enc) rfl⟩)
def w76TE0 (c : Code) (N : Nat) (x0 : Int) : Tree (Lf EE.T × Option (List UInt8)) :=
  .leaf (.go (w76kL2 c) (w76sL2 x0 ([] : List UInt8)), wire_Number_L2 N N x0 ([] : List UInt8))
theorem w76vE0 (N : Nat) (x0 : Int) : evM TT EE (w76G N) w76lv w76rs 4000 true (w76kE0 (bodyOf 0 Try.f76)) (w76sE0 x0) = (w76TE0 (bodyOf 0 Try.f76) N x0).map1 := by kernel_rfl
theorem w76nE0 (N : Nat) (x0 : Int) : wire_Number N x0 = (w76TE0 (bodyOf 0 Try.f76) N x0).run := by kernel_rfl
theorem w76oE0 {N : Nat} {r : List UInt8} (x0 : Int) (h : wire_Number N x0 = some r) : Ends (Y := TT) EE (w76G N) w76lv w76rs (fun u => u = w76enc r) (w76kE0 (bodyOf 0 Try.f76)) (w76sE0 x0) :=
  tree_use (w76vE0 N x0) (w76nE0 N x0) h (show (w76TE0 (bodyOf 0 Try.f76) N x0).all _ from fun h => w76oL2 N _ _ h)
theorem wire_Number_ok {N : Nat} (x0 : Int) {r : List UInt8} (h : wire_Number N x0 = some r) (ρ : Nat → Nat) : ACalls Try.prog 76 (([.a (.d (.int .u64) x0)] : List (TV EE.T)).map (TV.to EE.toEnc ρ)) [] (fun out H => out = .ret ((wire_Number_u r).to EE.toEnc ρ) ∧ H = []) :=
  (fn_ok (bodyOf 0 Try.f76) 20 mixed (w76Gok N) Try.func76 (by kernel_rfl) rfl rfl rfl rfl (w76oE0 x0 h) ρ).mono fun out H h => KPost.ret rfl h
def wire_Number_h (N : Nat) : List (TV EE.T) → PV EE.T
  | [u0] => match argD (.int .u64) u0 with
    | some x0 => .opt (wire_Number N x0) wire_Number_u
    | _ => .bad
  | _ => .bad
theorem wire_Number_hok (N : Nat) (us : List (TV EE.T)) : (wire_Number_h N us).ok fun u => ∀ ρ, ACalls Try.prog 76 (us.map (TV.to EE.toEnc ρ)) [] (fun out H => out = .ret (u.to EE.toEnc ρ) ∧ H = []) := by
  unfold wire_Number_h
  split
  · split
    · rename_i h0
      intro z hz ρ; refine acalls_le ?_ (wire_Number_ok _ hz ρ); exact ⟨argD_le h0 ρ, trivial⟩
    · trivial
  · trivial
/-! ### gleaner/wire.field -/
def wire_field_u (r : List UInt8) : TV EE.T := .a (.d .str r)
def w97enc (r : List UInt8) : RL EE.T := .ret (wire_field_u r) []
def w97lv : Lvs := ⟨[], [], [], [], false, [], []⟩
def w97rs : List ResultVar := [.tmp 4]
def w97G (N : Nat) : Gam EE := ⟨[⟨76, wire_Number_h N⟩], EQT, [], []⟩
theorem w97Gok (N : Nat) : GOk Try.prog TT EE (w97G N) := GOk.cons (wire_Number_hok N) (GOk.nil EQT_ok)
def w97kE0 (c : Code) : List It2 := [.c c]
def w97sE0 (x0 : Int) (x1 : List UInt8) : TS EE.T := ⟨17, [(0, .a (.d (.int .i64) x0)), (1, .a (.d .str x1))], [], []⟩
def w97TE0 (c : Code) (N : Nat) (x0 : Int) (x1 : List UInt8) : Tree (Lf EE.T × Option (List UInt8)) :=
  .bnd (shlC .u64 (IntKind.wrap .u64 x0) 3) fun z1 =>
  .bnd (wire_Number N (bits .or .u64 z1 2)) fun z2 =>
  .bnd (wire_Number N (IntKind.wrap .u64 (x1.length : Int))) fun z3 =>
  .bnd (catC z2 z3) fun z4 =>
  .bnd (catC z4 x1) fun z5 =>
  .leaf (.done (w97enc z5), some z5)
theorem w97vE0 (N : Nat) (x0 : Int) (x1 : List UInt8) : evM TT EE (w97G N) w97lv w97rs 4000 true (w97kE0 (bodyOf 0 Try.f97)) (w97sE0 x0 x1) = (w97TE0 (bodyOf 0 Try.f97) N x0 x1).map1 := by kernel_rfl
theorem w97nE0 (N : Nat) (x0 : Int) (x1 : List UInt8) : wire_field N x0 x1 = (w97TE0 (bodyOf 0 Try.f97) N x0 x1).run := by kernel_rfl
theorem w97oE0 {N : Nat} {r : List UInt8} (x0 : Int) (x1 : List UInt8) (h : wire_field N x0 x1 = some r) : Ends (Y := TT) EE (w97G N) w97lv w97rs (fun u => u = w97enc r) (w97kE0 (bodyOf 0 Try.f97)) (w97sE0 x0 x1) :=
  tree_use (w97vE0 N x0 x1) (w97nE0 N x0 x1) h (show (w97TE0 (bodyOf 0 Try.f97) N x0 x1).all _ from fun _ => fun _ => fun _ => fun _ => fun _ => retp (enc := w97enc) rfl)
theorem wire_field_ok {N : Nat} (x0 : Int) (x1 : List UInt8) {r : List UInt8} (h : wire_field N x0 x1 = some r) (ρ : Nat → Nat) : ACalls Try.prog 97 (([.a (.d (.int .i64) x0), .a (.d .str x1)] : List (TV EE.T)).map (TV.to EE.toEnc ρ)) [] (fun out H => out = .ret ((wire_field_u r).to EE.toEnc ρ) ∧ H = []) :=
  (fn_ok (bodyOf 0 Try.f97) 17 mixed (w97Gok N) Try.func97 (by kernel_rfl) rfl rfl rfl rfl (w97oE0 x0 x1 h) ρ).mono fun out H h => KPost.ret rfl h
def wire_field_h (N : Nat) : List (TV EE.T) → PV EE.T
  | [u0, u1] => match argD (.int .i64) u0, argD .str u1 with
    | some x0, some x1 => .opt (wire_field N x0 x1) wire_field_u
    | _, _ => .bad
  | _ => .bad
theorem wire_field_hok (N : Nat) (us : List (TV EE.T)) : (wire_field_h N us).ok fun u => ∀ ρ, ACalls Try.prog 97 (us.map (TV.to EE.toEnc ρ)) [] (fun out H => out = .ret (u.to EE.toEnc ρ) ∧ H = []) := by
  unfold wire_field_h
  split
  · split
    · rename_i h0 h1
      intro z hz ρ; refine acalls_le ?_ (wire_field_ok _ _ hz ρ); exact ⟨argD_le h0 ρ, argD_le h1 ρ, trivial⟩
    · trivial
  · trivial
/-! ### gleaner/wire.sample -/
def wire_sample_u (r : List UInt8) : TV EE.T := .a (.d .str r)
def w98enc (r : List UInt8) : RL EE.T := .ret (wire_sample_u r) []
def w98lv : Lvs := ⟨[(7, ⟨[(1, false), (3, false)], [], [(1, (some 6, []))]⟩)], [(3, ⟨[(1, false), (3, false), (6, false)], [], [(1, (some 6, []))]⟩)], [], [], false, [], []⟩
def w98rs : List ResultVar := [.tmp 2]
def w98G (N : Nat) : Gam EE := ⟨[⟨76, wire_Number_h N⟩], EQT, [], []⟩
theorem w98Gok (N : Nat) : GOk Try.prog TT EE (w98G N) := GOk.cons (wire_Number_hok N) (GOk.nil EQT_ok)
def w98kL3 (c : Code) : List It2 := atL 3 c
def w98sL3 (x3 : List UInt8) (x6 : Int) (b1 : VSample) : TS EE.T := ⟨28, [(1, .a (.box 1 0)), (3, .a (.own .byte x3)), (6, .a (.d (.int .i64) x6))], [(1, .cs (unpT EE (.nam 6) b1))], []⟩
def w98kE0 (c : Code) : List It2 := [.c c]
def w98sE0 (x0 : VSample) : TS EE.T := ⟨28, [(0, .ag (unpT EE (.nam 6) x0))], [], []⟩
def w98TL3 (c : Code) (N : Nat) (n : Nat) (x3 : List UInt8) (x6 : Int) (b1 : VSample) : Tree (Lf EE.T × Option (List UInt8)) :=
  .cond (decide (x6 < 8))
  (
    .bnd (shrC .u64 b1.Bits (w64 (8 * x6))) fun z1 =>
    .bnd (appC 1 x3 ([toB (IntKind.wrap .u8 z1)] : List UInt8)) fun z2 =>
    .leaf (.go (w98kL3 c) (w98sL3 z2 (w64 (x6 + 1)) b1), wire_sample_L3 N n z2 (w64 (x6 + 1)) b1))
  (
    .bnd (wire_Number N 16) fun z3 =>
    .bnd (catC x3 z3) fun z4 =>
    .bnd (wire_Number N (IntKind.wrap .u64 b1.Time)) fun z5 =>
    .bnd (catC z4 z5) fun z6 =>
    .leaf (.done (w98enc z6), some z6))
theorem w98vL3 (N : Nat) (n : Nat) (x3 : List UInt8) (x6 : Int) (b1 : VSample) : evM TT EE (w98G N) w98lv w98rs 4000 true (w98kL3 (bodyOf 0 Try.f98)) (w98sL3 x3 x6 b1) = (w98TL3 (bodyOf 0 Try.f98) N n x3 x6 b1).map1 := by kernel_rfl
theorem w98nL3 (N : Nat) (n : Nat) (x3 : List UInt8) (x6 : Int) (b1 : VSample) : wire_sample_L3 N (n + 1) x3 x6 b1 = (w98TL3 (bodyOf 0 Try.f98) N n x3 x6 b1).run := by kernel_rfl
theorem w98oL3 {N : Nat} {r : List UInt8} : ∀ (n : Nat) (x3 : List UInt8) (x6 : Int) (b1 : VSample), wire_sample_L3 N n x3 x6 b1 = some r → Ends (Y := TT) EE (w98G N) w98lv w98rs (fun u => u = w98enc r) (w98kL3 (bodyOf 0 Try.f98)) (w98sL3 x3 x6 b1)
  | 0, _, _, _, h => by cases h
  | n + 1, x3, x6, b1, h => tree_use (w98vL3 N n x3 x6 b1) (w98nL3 N n x3 x6 b1) h (show (w98TL3 (bodyOf 0 Try.f98) N n x3 x6 b1).all _ from ⟨fun _ => fun _ => fun h => (w98oL3 n) _ _ _ h, fun _ => fun _ => fun _ => fun _ => retp (enc := w98enc) rfl⟩)
def w98TE0 (c : Code) (N : Nat) (x0 : VSample) : Tree (Lf EE.T × Option (List UInt8)) :=
  .leaf (.go (w98kL3 c) (w98sL3 ([9] : List UInt8) 0 x0), wire_sample_L3 N N ([9] : List UInt8) 0 x0)
theorem w98vE0 (N : Nat) (x0 : VSample) : evM TT EE (w98G N) w98lv w98rs 4000 true (w98kE0 (bodyOf 0 Try.f98)) (w98sE0 x0) = (w98TE0 (bodyOf 0 Try.f98) N x0).map1 := by kernel_rfl
theorem w98nE0 (N : Nat) (x0 : VSample) : wire_sample N x0 = (w98TE0 (bodyOf 0 Try.f98) N x0).run := by kernel_rfl
theorem w98oE0 {N : Nat} {r : List UInt8} (x0 : VSample) (h : wire_sample N x0 = some r) : Ends (Y := TT) EE (w98G N) w98lv w98rs (fun u => u = w98enc r) (w98kE0 (bodyOf 0 Try.f98)) (w98sE0 x0) :=
  tree_use (w98vE0 N x0) (w98nE0 N x0) h (show (w98TE0 (bodyOf 0 Try.f98) N x0).all _ from fun h => w98oL3 N _ _ _ h)
theorem wire_sample_ok {N : Nat} (x0 : VSample) {r : List UInt8} (h : wire_sample N x0 = some r) (ρ : Nat → Nat) : ACalls Try.prog 98 (([.ag (unpT EE (.nam 6) x0)] : List (TV EE.T)).map (TV.to EE.toEnc ρ)) [] (fun out H => out = .ret ((wire_sample_u r).to EE.toEnc ρ) ∧ H = []) :=
  (fn_ok (bodyOf 0 Try.f98) 28 mixed (w98Gok N) Try.func98 (by kernel_rfl) rfl rfl rfl rfl (w98oE0 x0 h) ρ).mono fun out H h => KPost.ret rfl h
def wire_sample_h (N : Nat) : List (TV EE.T) → PV EE.T
  | [u0] => match argS EE 6 u0 with
    | some x0 => .opt (wire_sample N x0) wire_sample_u
    | _ => .bad
  | _ => .bad
theorem wire_sample_hok (N : Nat) (us : List (TV EE.T)) : (wire_sample_h N us).ok fun u => ∀ ρ, ACalls Try.prog 98 (us.map (TV.to EE.toEnc ρ)) [] (fun out H => out = .ret (u.to EE.toEnc ρ) ∧ H = []) := by
  unfold wire_sample_h
  split
  · split
    · rename_i h0
      intro z hz ρ; refine acalls_le ?_ (wire_sample_ok _ hz ρ); exact ⟨argS_le h0 ρ, trivial⟩
    · trivial
  · trivial
end Go.Proofs.Ytofidfkojmbdoaa
