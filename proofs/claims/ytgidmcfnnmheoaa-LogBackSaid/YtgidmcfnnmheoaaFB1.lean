/- The walks that prove plain functions right, written by gen/tgl.py. -/
import Derived.Test.YtgidmcfnnmheoaaFB1p
import Derived.Test.YtgidmcfnnmheoaaLT
namespace Go.Proofs.Ytgidmcfnnmheoaa
open Go.RowKit P
set_option linter.unusedVariables false
set_option linter.unusedSimpArgs false
set_option maxRecDepth 100000
/-! ### gleaner/gleanerlaw.logOf -/
def law_logOf_u (r : (List UInt8) × Bool) : TV EE.T := .tu [.a (.d .str r.1), .a (.d .bool r.2)]
def w17enc (r : (List UInt8) × Bool) : RL EE.T := .ret (law_logOf_u r) []
def w17lv : Lvs := ⟨[], [(3, ⟨[(0, false), (4, false), (5, false)], [], []⟩)], [], [], false, [], []⟩
def w17rs : List ResultVar := [.tmp 2, .tmp 3]
def w17G (N : Nat) : Gam EE := ⟨[⟨11, log_Append_h N⟩], EQT, [], []⟩
theorem w17Gok (N : Nat) : GOk Try.prog TT EE (w17G N) := GOk.cons (log_Append_hok N) (GOk.nil EQT_ok)
def w17kL3 (c : Code) : List It2 := atL 3 c
def w17sL3 (x0 : List (List UInt8)) (x4 : List UInt8) (x5 : Int) : TS EE.T := ⟨31, [(0, .a (.d (.sl .str) x0)), (4, .a (.d .str x4)), (5, .a (.d (.int .i64) x5))], [], []⟩
def w17kE0 (c : Code) : List It2 := [.c c]
def w17sE0 (x0 : List (List UInt8)) : TS EE.T := ⟨31, [(0, .a (.d (.sl .str) x0))], [], []⟩
def w17TL3 (c : Code) (N : Nat) (n : Nat) (x0 : List (List UInt8)) (x4 : List UInt8) (x5 : Int) : Tree (Lf EE.T × Option ((List UInt8) × Bool)) :=
  .cond (decide (x5 < (x0.length : Int)))
  (
    .cond (decide (x5 < 30))
    (
      .bnd (idxC x0 x5) fun z1 =>
      .bnd (log_Append N x4 z1) fun z2 =>
      .cond (z2.2 != 0)
      (
        .leaf (.done (w17enc (([] : List UInt8), false)), some (([] : List UInt8), false)))
      (
        .leaf (.go (w17kL3 c) (w17sL3 x0 z2.1 (w64 (x5 + 1))), law_logOf_L3 N n x0 z2.1 (w64 (x5 + 1)))))
    (
      .leaf (.done (w17enc (x4, true)), some (x4, true))))
  (
    .leaf (.done (w17enc (x4, true)), some (x4, true)))
theorem w17vL3 (N : Nat) (n : Nat) (x0 : List (List UInt8)) (x4 : List UInt8) (x5 : Int) : evM TT EE (w17G N) w17lv w17rs 4000 true (w17kL3 (bodyOf 0 Try.f17)) (w17sL3 x0 x4 x5) = (w17TL3 (bodyOf 0 Try.f17) N n x0 x4 x5).map1 := by kernel_rfl
theorem w17nL3 (N : Nat) (n : Nat) (x0 : List (List UInt8)) (x4 : List UInt8) (x5 : Int) : law_logOf_L3 N (n + 1) x0 x4 x5 = (w17TL3 (bodyOf 0 Try.f17) N n x0 x4 x5).run := by kernel_rfl
theorem w17oL3 {N : Nat} {r : (List UInt8) × Bool} : ∀ (n : Nat) (x0 : List (List UInt8)) (x4 : List UInt8) (x5 : Int), law_logOf_L3 N n x0 x4 x5 = some r → Ends (Y := TT) EE (w17G N) w17lv w17rs (fun u => u = w17enc r) (w17kL3 (bodyOf 0 Try.f17)) (w17sL3 x0 x4 x5)
  | 0, _, _, _, h => by cases h
  | n + 1, x0, x4, x5, h => tree_use (w17vL3 N n x0 x4 x5) (w17nL3 N n x0 x4 x5) h (show (w17TL3 (bodyOf 0 Try.f17) N n x0 x4 x5).all _ from ⟨⟨fun _ => fun _ => ⟨retp (enc := w17enc) rfl, fun h => (w17oL3 n) _ _ _ h⟩, retp (enc := w17enc) rfl⟩, retp (enc := w17enc) rfl⟩)
def w17TE0 (c : Code) (N : Nat) (x0 : List (List UInt8)) : Tree (Lf EE.T × Option ((List UInt8) × Bool)) :=
  .leaf (.go (w17kL3 c) (w17sL3 x0 ([] : List UInt8) 0), law_logOf_L3 N N x0 ([] : List UInt8) 0)
theorem w17vE0 (N : Nat) (x0 : List (List UInt8)) : evM TT EE (w17G N) w17lv w17rs 4000 true (w17kE0 (bodyOf 0 Try.f17)) (w17sE0 x0) = (w17TE0 (bodyOf 0 Try.f17) N x0).map1 := by kernel_rfl
theorem w17nE0 (N : Nat) (x0 : List (List UInt8)) : law_logOf N x0 = (w17TE0 (bodyOf 0 Try.f17) N x0).run := by kernel_rfl
theorem w17oE0 {N : Nat} {r : (List UInt8) × Bool} (x0 : List (List UInt8)) (h : law_logOf N x0 = some r) : Ends (Y := TT) EE (w17G N) w17lv w17rs (fun u => u = w17enc r) (w17kE0 (bodyOf 0 Try.f17)) (w17sE0 x0) :=
  tree_use (w17vE0 N x0) (w17nE0 N x0) h (show (w17TE0 (bodyOf 0 Try.f17) N x0).all _ from fun h => w17oL3 N _ _ _ h)
theorem law_logOf_ok {N : Nat} (x0 : List (List UInt8)) {r : (List UInt8) × Bool} (h : law_logOf N x0 = some r) (ρ : Nat → Nat) : ACalls Try.prog 17 (([.a (.d (.sl .str) x0)] : List (TV EE.T)).map (TV.to EE.toEnc ρ)) [] (fun out H => out = .ret ((law_logOf_u r).to EE.toEnc ρ) ∧ H = []) :=
  (fn_ok (bodyOf 0 Try.f17) 31 mixed (w17Gok N) Try.func17 (by kernel_rfl) rfl rfl rfl rfl (w17oE0 x0 h) ρ).mono fun out H h => KPost.ret rfl h
def law_logOf_h (N : Nat) : List (TV EE.T) → PV EE.T
  | [u0] => match argD (.sl .str) u0 with
    | some x0 => .opt (law_logOf N x0) law_logOf_u
    | _ => .bad
  | _ => .bad
theorem law_logOf_hok (N : Nat) (us : List (TV EE.T)) : (law_logOf_h N us).ok fun u => ∀ ρ, ACalls Try.prog 17 (us.map (TV.to EE.toEnc ρ)) [] (fun out H => out = .ret (u.to EE.toEnc ρ) ∧ H = []) := by
  unfold law_logOf_h
  split
  · split
    · rename_i h0
      intro z hz ρ; refine acalls_le ?_ (law_logOf_ok _ hz ρ); exact ⟨argD_le h0 ρ, trivial⟩
    · trivial
  · trivial
/-! ### gleaner/gleanerref.SameTexts -/
def ref_SameTexts_u (r : Bool) : TV EE.T := .a (.d .bool r)
def w16enc (r : Bool) : RL EE.T := .ret (ref_SameTexts_u r) []
def w16lv : Lvs := ⟨[(6, ⟨[(0, false), (1, false), (5, false)], [], []⟩)], [(4, ⟨[(0, false), (1, false), (5, false)], [], []⟩)], [], [], false, [], []⟩
def w16rs : List ResultVar := [.tmp 4]
def w16G (N : Nat) : Gam EE := ⟨[], EQT, [], []⟩
theorem w16Gok (N : Nat) : GOk Try.prog TT EE (w16G N) := GOk.nil EQT_ok
def w16kL4 (c : Code) : List It2 := atL 4 c
def w16sL4 (x0 : List (List UInt8)) (x1 : List (List UInt8)) (x5 : Int) : TS EE.T := ⟨26, [(0, .a (.d (.sl .str) x0)), (1, .a (.d (.sl .str) x1)), (5, .a (.d (.int .i64) x5))], [], []⟩
def w16kE0 (c : Code) : List It2 := [.c c]
def w16sE0 (x0 : List (List UInt8)) (x1 : List (List UInt8)) : TS EE.T := ⟨26, [(0, .a (.d (.sl .str) x0)), (1, .a (.d (.sl .str) x1))], [], []⟩
def w16TL4 (c : Code) (N : Nat) (n : Nat) (x0 : List (List UInt8)) (x1 : List (List UInt8)) (x5 : Int) : Tree (Lf EE.T × Option Bool) :=
  .cond (decide (x5 < (x0.length : Int)))
  (
    .bnd (idxC x0 x5) fun z1 =>
    .bnd (idxC x1 x5) fun z2 =>
    .cond (!decide (z1 = z2))
    (
      .leaf (.done (w16enc false), some false))
    (
      .leaf (.go (w16kL4 c) (w16sL4 x0 x1 (w64 (x5 + 1))), ref_SameTexts_L4 N n x0 x1 (w64 (x5 + 1)))))
  (
    .leaf (.done (w16enc true), some true))
theorem w16vL4 (N : Nat) (n : Nat) (x0 : List (List UInt8)) (x1 : List (List UInt8)) (x5 : Int) : evM TT EE (w16G N) w16lv w16rs 4000 true (w16kL4 (bodyOf 0 Try.f16)) (w16sL4 x0 x1 x5) = (w16TL4 (bodyOf 0 Try.f16) N n x0 x1 x5).map1 := by kernel_rfl
theorem w16nL4 (N : Nat) (n : Nat) (x0 : List (List UInt8)) (x1 : List (List UInt8)) (x5 : Int) : ref_SameTexts_L4 N (n + 1) x0 x1 x5 = (w16TL4 (bodyOf 0 Try.f16) N n x0 x1 x5).run := by kernel_rfl
theorem w16oL4 {N : Nat} {r : Bool} : ∀ (n : Nat) (x0 : List (List UInt8)) (x1 : List (List UInt8)) (x5 : Int), ref_SameTexts_L4 N n x0 x1 x5 = some r → Ends (Y := TT) EE (w16G N) w16lv w16rs (fun u => u = w16enc r) (w16kL4 (bodyOf 0 Try.f16)) (w16sL4 x0 x1 x5)
  | 0, _, _, _, h => by cases h
  | n + 1, x0, x1, x5, h => tree_use (w16vL4 N n x0 x1 x5) (w16nL4 N n x0 x1 x5) h (show (w16TL4 (bodyOf 0 Try.f16) N n x0 x1 x5).all _ from ⟨fun _ => fun _ => ⟨retp (enc := w16enc) rfl, fun h => (w16oL4 n) _ _ _ h⟩, retp (enc := w16enc) rfl⟩)
def w16TE0 (c : Code) (N : Nat) (x0 : List (List UInt8)) (x1 : List (List UInt8)) : Tree (Lf EE.T × Option Bool) :=
  .cond ((x0.length : Int) != (x1.length : Int))
  (
    .leaf (.done (w16enc false), some false))
  (
    .leaf (.go (w16kL4 c) (w16sL4 x0 x1 0), ref_SameTexts_L4 N N x0 x1 0))
theorem w16vE0 (N : Nat) (x0 : List (List UInt8)) (x1 : List (List UInt8)) : evM TT EE (w16G N) w16lv w16rs 4000 true (w16kE0 (bodyOf 0 Try.f16)) (w16sE0 x0 x1) = (w16TE0 (bodyOf 0 Try.f16) N x0 x1).map1 := by kernel_rfl
theorem w16nE0 (N : Nat) (x0 : List (List UInt8)) (x1 : List (List UInt8)) : ref_SameTexts N x0 x1 = (w16TE0 (bodyOf 0 Try.f16) N x0 x1).run := by kernel_rfl
theorem w16oE0 {N : Nat} {r : Bool} (x0 : List (List UInt8)) (x1 : List (List UInt8)) (h : ref_SameTexts N x0 x1 = some r) : Ends (Y := TT) EE (w16G N) w16lv w16rs (fun u => u = w16enc r) (w16kE0 (bodyOf 0 Try.f16)) (w16sE0 x0 x1) :=
  tree_use (w16vE0 N x0 x1) (w16nE0 N x0 x1) h (show (w16TE0 (bodyOf 0 Try.f16) N x0 x1).all _ from ⟨retp (enc := w16enc) rfl, fun h => w16oL4 N _ _ _ h⟩)
theorem ref_SameTexts_ok {N : Nat} (x0 : List (List UInt8)) (x1 : List (List UInt8)) {r : Bool} (h : ref_SameTexts N x0 x1 = some r) (ρ : Nat → Nat) : ACalls Try.prog 16 (([.a (.d (.sl .str) x0), .a (.d (.sl .str) x1)] : List (TV EE.T)).map (TV.to EE.toEnc ρ)) [] (fun out H => out = .ret ((ref_SameTexts_u r).to EE.toEnc ρ) ∧ H = []) :=
  (fn_ok (bodyOf 0 Try.f16) 26 mixed (w16Gok N) Try.func16 (by kernel_rfl) rfl rfl rfl rfl (w16oE0 x0 x1 h) ρ).mono fun out H h => KPost.ret rfl h
def ref_SameTexts_h (N : Nat) : List (TV EE.T) → PV EE.T
  | [u0, u1] => match argD (.sl .str) u0, argD (.sl .str) u1 with
    | some x0, some x1 => .opt (ref_SameTexts N x0 x1) ref_SameTexts_u
    | _, _ => .bad
  | _ => .bad
theorem ref_SameTexts_hok (N : Nat) (us : List (TV EE.T)) : (ref_SameTexts_h N us).ok fun u => ∀ ρ, ACalls Try.prog 16 (us.map (TV.to EE.toEnc ρ)) [] (fun out H => out = .ret (u.to EE.toEnc ρ) ∧ H = []) := by
  unfold ref_SameTexts_h
  split
  · split
    · rename_i h0 h1
      intro z hz ρ; refine acalls_le ?_ (ref_SameTexts_ok _ _ hz ρ); exact ⟨argD_le h0 ρ, argD_le h1 ρ, trivial⟩
    · trivial
  · trivial
/-! ### gleaner/gleanerlaw.choose -/
def law_choose_u (r : Int) : TV EE.T := .a (.d (.int .i64) r)
def w18enc (r : Int) : RL EE.T := .ret (law_choose_u r) []
def w18lv : Lvs := ⟨[], [], [], [], false, [], []⟩
def w18rs : List ResultVar := [.tmp 4]
def w18G (N : Nat) : Gam EE := ⟨[], EQT, [], []⟩
theorem w18Gok (N : Nat) : GOk Try.prog TT EE (w18G N) := GOk.nil EQT_ok
def w18kE0 (c : Code) : List It2 := [.c c]
def w18sE0 (x0 : Int) (x1 : Int) : TS EE.T := ⟨13, [(0, .a (.d (.int .i64) x0)), (1, .a (.d (.int .i64) x1))], [], []⟩
def w18TE0 (c : Code) (N : Nat) (x0 : Int) (x1 : Int) : Tree (Lf EE.T × Option Int) :=
  .cond (decide (x0 < 0))
  (
    .bnd (remC (w64 (0 - (w64 (x0 + 1)))) x1) fun z1 =>
    .leaf (.done (w18enc z1), some z1))
  (
    .bnd (remC x0 x1) fun z2 =>
    .leaf (.done (w18enc z2), some z2))
theorem w18vE0 (N : Nat) (x0 : Int) (x1 : Int) : evM TT EE (w18G N) w18lv w18rs 4000 true (w18kE0 (bodyOf 0 Try.f18)) (w18sE0 x0 x1) = (w18TE0 (bodyOf 0 Try.f18) N x0 x1).map1 := by kernel_rfl
theorem w18nE0 (N : Nat) (x0 : Int) (x1 : Int) : law_choose N x0 x1 = (w18TE0 (bodyOf 0 Try.f18) N x0 x1).run := by kernel_rfl
theorem w18oE0 {N : Nat} {r : Int} (x0 : Int) (x1 : Int) (h : law_choose N x0 x1 = some r) : Ends (Y := TT) EE (w18G N) w18lv w18rs (fun u => u = w18enc r) (w18kE0 (bodyOf 0 Try.f18)) (w18sE0 x0 x1) :=
  tree_use (w18vE0 N x0 x1) (w18nE0 N x0 x1) h (show (w18TE0 (bodyOf 0 Try.f18) N x0 x1).all _ from ⟨fun _ => retp (enc := w18enc) rfl, fun _ => retp (enc := w18enc) rfl⟩)
theorem law_choose_ok {N : Nat} (x0 : Int) (x1 : Int) {r : Int} (h : law_choose N x0 x1 = some r) (ρ : Nat → Nat) : ACalls Try.prog 18 (([.a (.d (.int .i64) x0), .a (.d (.int .i64) x1)] : List (TV EE.T)).map (TV.to EE.toEnc ρ)) [] (fun out H => out = .ret ((law_choose_u r).to EE.toEnc ρ) ∧ H = []) :=
  (fn_ok (bodyOf 0 Try.f18) 13 mixed (w18Gok N) Try.func18 (by kernel_rfl) rfl rfl rfl rfl (w18oE0 x0 x1 h) ρ).mono fun out H h => KPost.ret rfl h
def law_choose_h (N : Nat) : List (TV EE.T) → PV EE.T
  | [u0, u1] => match argD (.int .i64) u0, argD (.int .i64) u1 with
    | some x0, some x1 => .opt (law_choose N x0 x1) law_choose_u
    | _, _ => .bad
  | _ => .bad
theorem law_choose_hok (N : Nat) (us : List (TV EE.T)) : (law_choose_h N us).ok fun u => ∀ ρ, ACalls Try.prog 18 (us.map (TV.to EE.toEnc ρ)) [] (fun out H => out = .ret (u.to EE.toEnc ρ) ∧ H = []) := by
  unfold law_choose_h
  split
  · split
    · rename_i h0 h1
      intro z hz ρ; refine acalls_le ?_ (law_choose_ok _ _ hz ρ); exact ⟨argD_le h0 ρ, argD_le h1 ρ, trivial⟩
    · trivial
  · trivial
/-! ### gleaner/gleanerlaw.LogBack -/
def law_LogBack_u (r : Bool) : TV EE.T := .a (.d .bool r)
def w6enc (r : Bool) : RL EE.T := .ret (law_LogBack_u r) []
def w6lv : Lvs := ⟨[(5, ⟨[(0, false), (1, false)], [], []⟩)], [], [5], [], false, [], []⟩
def w6rs : List ResultVar := [.tmp 4]
def w6G (N : Nat) : Gam EE := ⟨[⟨18, law_choose_h N⟩, ⟨8, law_logBegun_h N⟩, ⟨17, law_logOf_h N⟩, ⟨16, ref_SameTexts_h N⟩, ⟨14, log_Read_h N⟩], EQT, [], []⟩
theorem w6Gok (N : Nat) : GOk Try.prog TT EE (w6G N) := GOk.cons (law_choose_hok N) (GOk.cons (law_logBegun_hok N) (GOk.cons (law_logOf_hok N) (GOk.cons (ref_SameTexts_hok N) (GOk.cons (log_Read_hok N) (GOk.nil EQT_ok)))))
def w6kR5 (c : Code) : List It2 := atR 5 c
def w6sR5 (x0 : List (List UInt8)) (x1 : Int) : TS EE.T := ⟨110, [(0, .a (.d (.sl .str) x0)), (1, .a (.d (.int .i64) x1))], [], []⟩
def w6kE0 (c : Code) : List It2 := [.c c]
def w6sE0 (x0 : List (List UInt8)) (x1 : Int) : TS EE.T := ⟨110, [(0, .a (.d (.sl .str) x0)), (1, .a (.d (.int .i64) x1))], [], []⟩
def w6TR5 (c : Code) (N : Nat) (n : Nat) (x0 : List (List UInt8)) (x1 : Int) : Tree (Lf EE.T × Option Bool) :=
  .bnd (law_logOf N x0) fun z3 =>
  .cond (!z3.2)
  (
    .leaf (.done (w6enc true), some true))
  (
    .bnd (log_Read N z3.1) fun z4 =>
    .bnd (ref_SameTexts N x0 z4.1) fun z5 =>
    .cond (!z5)
    (
      .leaf (.done (w6enc false), some false))
    (
      .cond (z4.2 != (z3.1.length : Int))
      (
        .leaf (.done (w6enc false), some false))
      (
        .bnd (law_choose N x1 (w64 ((z3.1.length : Int) + 1))) fun z6 =>
        .bnd (subC z3.1 0 z6) fun z7 =>
        .bnd (log_Read N z7) fun z8 =>
        .cond (decide (z8.2 < 0))
        (
          .leaf (.done (w6enc false), some false))
        (
          .cond (decide (z8.2 > z6))
          (
            .leaf (.done (w6enc false), some false))
          (
            .cond (decide ((z8.1.length : Int) > (x0.length : Int)))
            (
              .leaf (.done (w6enc false), some false))
            (
              .bnd (subC x0 0 (z8.1.length : Int)) fun z9 =>
              .bnd (ref_SameTexts N z8.1 z9) fun z10 =>
              .cond (!z10)
              (
                .leaf (.done (w6enc false), some false))
              (
                .bnd (law_logOf N z8.1) fun z11 =>
                .cond (!z11.2)
                (
                  .leaf (.done (w6enc false), some false))
                (
                  .bnd (subC z3.1 0 z8.2) fun z12 =>
                  .cond (!decide (z11.1 = z12))
                  (
                    .leaf (.done (w6enc false), some false))
                  (
                    .cond ((z8.1.length : Int) == (x0.length : Int))
                    (
                      .leaf (.done (w6enc true), some true))
                    (
                      .bnd (subC x0 0 (w64 ((z8.1.length : Int) + 1))) fun z13 =>
                      .bnd (law_logOf N z13) fun z14 =>
                      .cond (z14.2)
                      (
                        .leaf (.done (w6enc (decide ((z14.1.length : Int) > z6))), some (decide ((z14.1.length : Int) > z6))))
                      (
                        .leaf (.done (w6enc false), some false))))))))))))
theorem w6vR5 (N : Nat) (n : Nat) (x0 : List (List UInt8)) (x1 : Int) : evM TT EE (w6G N) w6lv w6rs 4000 true (w6kR5 (bodyOf 0 Try.f6)) (w6sR5 x0 x1) = (w6TR5 (bodyOf 0 Try.f6) N n x0 x1).map1 := by kernel_rfl
theorem w6nR5 (N : Nat) (n : Nat) (x0 : List (List UInt8)) (x1 : Int) : law_LogBack_R5 N n x0 x1 = (w6TR5 (bodyOf 0 Try.f6) N n x0 x1).run := by kernel_rfl
theorem w6oR5 {N : Nat} {r : Bool} (n : Nat) (x0 : List (List UInt8)) (x1 : Int) (h : law_LogBack_R5 N n x0 x1 = some r) : Ends (Y := TT) EE (w6G N) w6lv w6rs (fun u => u = w6enc r) (w6kR5 (bodyOf 0 Try.f6)) (w6sR5 x0 x1) :=
  tree_use (w6vR5 N n x0 x1) (w6nR5 N n x0 x1) h (show (w6TR5 (bodyOf 0 Try.f6) N n x0 x1).all _ from fun _ => ⟨retp (enc := w6enc) rfl, fun _ => fun _ => ⟨retp (enc := w6enc) rfl, ⟨retp (enc := w6enc) rfl, fun _ => fun _ => fun _ => ⟨retp (enc := w6enc) rfl, ⟨retp (enc := w6enc) rfl, ⟨retp (enc := w6enc) rfl, fun _ => fun _ => ⟨retp (enc := w6enc) rfl, fun _ => ⟨retp (enc := w6enc) rfl, fun _ => ⟨retp (enc := w6enc) rfl, ⟨retp (enc := w6enc) rfl, fun _ => fun _ => ⟨retp (enc := w6enc) rfl, retp (enc := w6enc) rfl⟩⟩⟩⟩⟩⟩⟩⟩⟩⟩⟩)
def w6TE0 (c : Code) (N : Nat) (x0 : List (List UInt8)) (x1 : Int) : Tree (Lf EE.T × Option Bool) :=
  .bnd (law_logBegun N) fun z1 =>
  .cond (!z1)
  (
    .leaf (.done (w6enc false), some false))
  (
    .cond (decide ((x0.length : Int) > 30))
    (
      .bnd (subC x0 0 30) fun z2 =>
      .leaf (.go (w6kR5 c) (w6sR5 z2 x1), law_LogBack_R5 N N z2 x1))
    (
      .leaf (.go (w6kR5 c) (w6sR5 x0 x1), law_LogBack_R5 N N x0 x1)))
theorem w6vE0 (N : Nat) (x0 : List (List UInt8)) (x1 : Int) : evM TT EE (w6G N) w6lv w6rs 4000 true (w6kE0 (bodyOf 0 Try.f6)) (w6sE0 x0 x1) = (w6TE0 (bodyOf 0 Try.f6) N x0 x1).map1 := by kernel_rfl
theorem w6nE0 (N : Nat) (x0 : List (List UInt8)) (x1 : Int) : law_LogBack N x0 x1 = (w6TE0 (bodyOf 0 Try.f6) N x0 x1).run := by kernel_rfl
theorem w6oE0 {N : Nat} {r : Bool} (x0 : List (List UInt8)) (x1 : Int) (h : law_LogBack N x0 x1 = some r) : Ends (Y := TT) EE (w6G N) w6lv w6rs (fun u => u = w6enc r) (w6kE0 (bodyOf 0 Try.f6)) (w6sE0 x0 x1) :=
  tree_use (w6vE0 N x0 x1) (w6nE0 N x0 x1) h (show (w6TE0 (bodyOf 0 Try.f6) N x0 x1).all _ from fun _ => ⟨retp (enc := w6enc) rfl, ⟨fun _ => fun h => w6oR5 N _ _ h, fun h => w6oR5 N _ _ h⟩⟩)
theorem law_LogBack_ok {N : Nat} (x0 : List (List UInt8)) (x1 : Int) {r : Bool} (h : law_LogBack N x0 x1 = some r) (ρ : Nat → Nat) : ACalls Try.prog 6 (([.a (.d (.sl .str) x0), .a (.d (.int .i64) x1)] : List (TV EE.T)).map (TV.to EE.toEnc ρ)) [] (fun out H => out = .ret ((law_LogBack_u r).to EE.toEnc ρ) ∧ H = []) :=
  (fn_ok (bodyOf 0 Try.f6) 110 mixed (w6Gok N) Try.func6 (by kernel_rfl) rfl rfl rfl rfl (w6oE0 x0 x1 h) ρ).mono fun out H h => KPost.ret rfl h
def law_LogBack_h (N : Nat) : List (TV EE.T) → PV EE.T
  | [u0, u1] => match argD (.sl .str) u0, argD (.int .i64) u1 with
    | some x0, some x1 => .opt (law_LogBack N x0 x1) law_LogBack_u
    | _, _ => .bad
  | _ => .bad
theorem law_LogBack_hok (N : Nat) (us : List (TV EE.T)) : (law_LogBack_h N us).ok fun u => ∀ ρ, ACalls Try.prog 6 (us.map (TV.to EE.toEnc ρ)) [] (fun out H => out = .ret (u.to EE.toEnc ρ) ∧ H = []) := by
  unfold law_LogBack_h
  split
  · split
    · rename_i h0 h1
      intro z hz ρ; refine acalls_le ?_ (law_LogBack_ok _ _ hz ρ); exact ⟨argD_le h0 ρ, argD_le h1 ρ, trivial⟩
    · trivial
  · trivial
end Go.Proofs.Ytgidmcfnnmheoaa
