/- The walks that prove plain functions right, written by gen/tgl.py. -/
import Derived.Test.YtmoehipmpchofaaFKo1p
import Derived.Test.YtmoehipmpchofaaKC
namespace Go.Proofs.Ytmoehipmpchofaa
open Go.RowKit P
set_option linter.unusedVariables false
set_option linter.unusedSimpArgs false
set_option maxRecDepth 100000
def take_open_1_u (r : Bool) : TV EE.T := .a (.d .bool r)
def w60enc (r : Bool) : RL EE.T := .ret (take_open_1_u r) []
def w60lv : Lvs := ⟨[], [], [], [], false, [], []⟩
def w60rs : List ResultVar := [.tmp 2]
def w60G (N : Nat) : Gam EE := ⟨[⟨23, labels_Check_h N⟩], EQT, [], []⟩
theorem w60Gok (N : Nat) : GOk Try.prog TT EE (w60G N) := GOk.cons (labels_Check_hok N) (GOk.nil EQT_ok)
def w60kE0 (c : Code) : List It2 := [.c c]
def w60sE0 (x0 : VSeries) : TS EE.T := ⟨13, [(0, .ag (unpT EE (.nam 4) x0))], [], []⟩
def w60TE0 (c : Code) (N : Nat) (x0 : VSeries) : Tree (Lf EE.T × Option Bool) :=
  .cond ((x0.Labels.length : Int) == 0)
  (
    .leaf (.done (w60enc true), some true))
  (
    .bnd (labels_Check N x0.Labels) fun z1 =>
    .leaf (.done (w60enc (z1 != 0)), some (z1 != 0)))
theorem w60vE0 (N : Nat) (x0 : VSeries) : evM TT EE (w60G N) w60lv w60rs 4000 true (w60kE0 (bodyOf 0 Try.f60)) (w60sE0 x0) = (w60TE0 (bodyOf 0 Try.f60) N x0).map1 := by kernel_rfl
theorem w60nE0 (N : Nat) (x0 : VSeries) : take_open_1 N x0 = (w60TE0 (bodyOf 0 Try.f60) N x0).run := by kernel_rfl
theorem w60oE0 {N : Nat} {r : Bool} (x0 : VSeries) (h : take_open_1 N x0 = some r) : Ends (Y := TT) EE (w60G N) w60lv w60rs (fun u => u = w60enc r) (w60kE0 (bodyOf 0 Try.f60)) (w60sE0 x0) :=
  tree_use (w60vE0 N x0) (w60nE0 N x0) h (show (w60TE0 (bodyOf 0 Try.f60) N x0).all _ from ⟨retp (enc := w60enc) rfl, fun _ => retp (enc := w60enc) rfl⟩)
theorem take_open_1_ok {N : Nat} (x0 : VSeries) {r : Bool} (h : take_open_1 N x0 = some r) (ρ : Nat → Nat) : ACalls Try.prog 60 (([.ag (unpT EE (.nam 4) x0)] : List (TV EE.T)).map (TV.to EE.toEnc ρ)) [] (fun out H => out = .ret ((take_open_1_u r).to EE.toEnc ρ) ∧ H = []) :=
  (fn_ok (bodyOf 0 Try.f60) 13 mixed (w60Gok N) Try.func60 (by kernel_rfl) rfl rfl rfl rfl (w60oE0 x0 h) ρ).mono fun out H h => KPost.ret rfl h
def take_open_1_h (N : Nat) : List (TV EE.T) → PV EE.T
  | [u0] => match argS EE 4 u0 with
    | some x0 => .opt (take_open_1 N x0) take_open_1_u
    | _ => .bad
  | _ => .bad
theorem take_open_1_hok (N : Nat) (us : List (TV EE.T)) : (take_open_1_h N us).ok fun u => ∀ ρ, ACalls Try.prog 60 (us.map (TV.to EE.toEnc ρ)) [] (fun out H => out = .ret (u.to EE.toEnc ρ) ∧ H = []) := by
  unfold take_open_1_h
  split
  · split
    · rename_i h0
      intro z hz ρ; refine acalls_le ?_ (take_open_1_ok _ hz ρ); exact ⟨argS_le h0 ρ, trivial⟩
    · trivial
  · trivial
def slices_IndexFunc_api_Series_api_Series__i1_u (r : Int) : TV EE.T := .a (.d (.int .i64) r)
def w73i1hh (r : Int) : List (Nat × TB EE.T) := []
def w73i1enc (r : Int) : RL EE.T := .ret (slices_IndexFunc_api_Series_api_Series__i1_u r) (w73i1hh r)
def w73i1lv : Lvs := ⟨[], [(2, ⟨[(0, false), (1, false), (7, false), (8, false)], [], []⟩)], [], [], false, [], []⟩
def w73i1rs : List ResultVar := [.tmp 4]
def w73i1G (N : Nat) : Gam EE := ⟨[], EQT, [⟨60, xOf (take_open_1_h N)⟩], []⟩
theorem w73i1Gok (N : Nat) : GOk Try.prog TT EE (w73i1G N) := GOk.consx (xOf_ok (take_open_1_hok N)) (GOk.nil EQT_ok)
def w73i1kL2 (c : Code) : List It2 := atL 2 c
def w73i1sL2 (x0 : List VSeries) (x7 : Int) (x8 : Int) : TS EE.T := ⟨19, [(0, .a (.d (.sl (.nam 4)) x0)), (1, .fn 60 []), (7, .a (.d (.int .i64) x7)), (8, .a (.d (.int .i64) x8))], [], []⟩
def w73i1kE0 (c : Code) : List It2 := [.c c]
def w73i1sE0 (x0 : List VSeries) : TS EE.T := ⟨19, [(0, .a (.d (.sl (.nam 4)) x0)), (1, .fn 60 [])], [], []⟩
def w73i1TL2 (c : Code) (N : Nat) (n : Nat) (x0 : List VSeries) (x7 : Int) (x8 : Int) : Tree (Lf EE.T × Option Int) :=
  .cond (decide (x8 < x7))
  (
    .bnd (idxC x0 x8) fun z1 =>
    .bnd (take_open_1 N z1) fun z2 =>
    .cond (z2)
    (
      .leaf (.done (w73i1enc x8), some x8))
    (
      .leaf (.go (w73i1kL2 c) (w73i1sL2 x0 x7 (w64 (x8 + 1))), slices_IndexFunc_api_Series_api_Series__i1_L2 N n x0 x7 (w64 (x8 + 1)))))
  (
    .leaf (.done (w73i1enc (-1)), some (-1)))
theorem w73i1vL2 (N : Nat) (n : Nat) (x0 : List VSeries) (x7 : Int) (x8 : Int) : evM TT EE (w73i1G N) w73i1lv w73i1rs 4000 true (w73i1kL2 (bodyOf 0 Try.f73)) (w73i1sL2 x0 x7 x8) = (w73i1TL2 (bodyOf 0 Try.f73) N n x0 x7 x8).map1 := by kernel_rfl
theorem w73i1nL2 (N : Nat) (n : Nat) (x0 : List VSeries) (x7 : Int) (x8 : Int) : slices_IndexFunc_api_Series_api_Series__i1_L2 N (n + 1) x0 x7 x8 = (w73i1TL2 (bodyOf 0 Try.f73) N n x0 x7 x8).run := by kernel_rfl
theorem w73i1oL2 {N : Nat} {r : Int} : ∀ (n : Nat) (x0 : List VSeries) (x7 : Int) (x8 : Int), slices_IndexFunc_api_Series_api_Series__i1_L2 N n x0 x7 x8 = some r → Ends (Y := TT) EE (w73i1G N) w73i1lv w73i1rs (fun u => u = w73i1enc r) (w73i1kL2 (bodyOf 0 Try.f73)) (w73i1sL2 x0 x7 x8)
  | 0, _, _, _, h => by cases h
  | n + 1, x0, x7, x8, h => tree_use (w73i1vL2 N n x0 x7 x8) (w73i1nL2 N n x0 x7 x8) h (show (w73i1TL2 (bodyOf 0 Try.f73) N n x0 x7 x8).all _ from ⟨fun _ => fun _ => ⟨retp (enc := w73i1enc) rfl, fun h => (w73i1oL2 n) _ _ _ h⟩, retp (enc := w73i1enc) rfl⟩)
def w73i1TE0 (c : Code) (N : Nat) (x0 : List VSeries) : Tree (Lf EE.T × Option Int) :=
  .leaf (.go (w73i1kL2 c) (w73i1sL2 x0 (x0.length : Int) 0), slices_IndexFunc_api_Series_api_Series__i1_L2 N N x0 (x0.length : Int) 0)
theorem w73i1vE0 (N : Nat) (x0 : List VSeries) : evM TT EE (w73i1G N) w73i1lv w73i1rs 4000 true (w73i1kE0 (bodyOf 0 Try.f73)) (w73i1sE0 x0) = (w73i1TE0 (bodyOf 0 Try.f73) N x0).map1 := by kernel_rfl
theorem w73i1nE0 (N : Nat) (x0 : List VSeries) : slices_IndexFunc_api_Series_api_Series__i1 N x0 = (w73i1TE0 (bodyOf 0 Try.f73) N x0).run := by kernel_rfl
theorem w73i1oE0 {N : Nat} {r : Int} (x0 : List VSeries) (h : slices_IndexFunc_api_Series_api_Series__i1 N x0 = some r) : Ends (Y := TT) EE (w73i1G N) w73i1lv w73i1rs (fun u => u = w73i1enc r) (w73i1kE0 (bodyOf 0 Try.f73)) (w73i1sE0 x0) :=
  tree_use (w73i1vE0 N x0) (w73i1nE0 N x0) h (show (w73i1TE0 (bodyOf 0 Try.f73) N x0).all _ from fun h => w73i1oL2 N _ _ _ h)
def w73i1us (x0 : List VSeries) : List (TV EE.T) := [.a (.d (.sl (.nam 4)) x0), .fn 60 []]
def w73i1h0 (x0 : List VSeries) : List (Nat × TB EE.T) := []
theorem slices_IndexFunc_api_Series_api_Series__i1_ok {N : Nat} (x0 : List VSeries) {r : Int} (h : slices_IndexFunc_api_Series_api_Series__i1 N x0 = some r) (ρ : Nat → Nat) (hi : Inj ρ (w73i1h0 x0)) : ACalls Try.prog 73 ((w73i1us x0).map (TV.to EE.toEnc ρ)) (hTo EE.toEnc ρ (w73i1h0 x0)) (fun out H => out = .ret ((slices_IndexFunc_api_Series_api_Series__i1_u r).to EE.toEnc ρ) ∧ H = hTo EE.toEnc ρ (w73i1hh r)) :=
  (fn_okH (bodyOf 0 Try.f73) 19 mixed (w73i1Gok N) Try.func73 (by kernel_rfl) rfl rfl rfl rfl (w73i1oE0 x0 h) ρ hi).mono fun out H h => KPost.retH rfl rfl h
def slices_IndexFunc_api_Series_api_Series__i1_h (N : Nat) (us : List (TV EE.T)) (hs : List (Nat × TB EE.T)) : XR EE.T :=
  gdX (lenX us 2) <|
  bnX (aD (.sl (.nam 4)) us 0) fun x0 =>
  bnX (aF 60 us 1) fun c1 =>
  bnX (cbs c1) fun s1 =>
  gdX (lenX s1 0) <|
  gdX (goodIds hs []) <|
  .ret (slices_IndexFunc_api_Series_api_Series__i1 N x0) [] slices_IndexFunc_api_Series_api_Series__i1_u (w73i1hh)
theorem slices_IndexFunc_api_Series_api_Series__i1_hok (N : Nat) : XOk Try.prog EE 73 (slices_IndexFunc_api_Series_api_Series__i1_h N) := fun us hs =>
  gdX_ok fun h1 => bnX_ok fun x0 h2 => bnX_ok fun c1 h3 => bnX_ok fun s1 h4 => gdX_ok fun h5 => gdX_ok fun h6 => fun z hz => ⟨rfl, fun ρ hi => xcall (us' := w73i1us x0) (h0 := w73i1h0 x0) (ρ' := rhoS ρ []) ⟨aD_le h2, aF_le (js := []) h3 h4 (by rw [lis0 (lenX_ok h5)];  kernel_rfl), lenX_ok h1⟩ trivial (slices_IndexFunc_api_Series_api_Series__i1_ok x0 hz _ (rhoS_inj hi h6 _ (by kernel_rfl))) (fun out H h => ⟨h.1.trans (by kernel_rfl), h.2.trans (by kernel_rfl)⟩)⟩
def slices_ContainsFunc_api_Series_api_Series__i1_u (r : Bool) : TV EE.T := .a (.d .bool r)
def w48i1hh (r : Bool) : List (Nat × TB EE.T) := []
def w48i1enc (r : Bool) : RL EE.T := .ret (slices_ContainsFunc_api_Series_api_Series__i1_u r) (w48i1hh r)
def w48i1lv : Lvs := ⟨[], [], [], [], false, [], []⟩
def w48i1rs : List ResultVar := [.tmp 4]
def w48i1G (N : Nat) : Gam EE := ⟨[], EQT, [⟨73, slices_IndexFunc_api_Series_api_Series__i1_h N⟩], []⟩
theorem w48i1Gok (N : Nat) : GOk Try.prog TT EE (w48i1G N) := GOk.consx (slices_IndexFunc_api_Series_api_Series__i1_hok N) (GOk.nil EQT_ok)
def w48i1kE0 (c : Code) : List It2 := [.c c]
def w48i1sE0 (x0 : List VSeries) : TS EE.T := ⟨9, [(0, .a (.d (.sl (.nam 4)) x0)), (1, .fn 60 [])], [], []⟩
def w48i1TE0 (c : Code) (N : Nat) (x0 : List VSeries) : Tree (Lf EE.T × Option Bool) :=
  .bnd (slices_IndexFunc_api_Series_api_Series__i1 N x0) fun z1 =>
  .leaf (.done (w48i1enc (decide (z1 ≥ 0))), some (decide (z1 ≥ 0)))
theorem w48i1vE0 (N : Nat) (x0 : List VSeries) : evM TT EE (w48i1G N) w48i1lv w48i1rs 4000 true (w48i1kE0 (bodyOf 0 Try.f48)) (w48i1sE0 x0) = (w48i1TE0 (bodyOf 0 Try.f48) N x0).map1 := by kernel_rfl
theorem w48i1nE0 (N : Nat) (x0 : List VSeries) : slices_ContainsFunc_api_Series_api_Series__i1 N x0 = (w48i1TE0 (bodyOf 0 Try.f48) N x0).run := by kernel_rfl
theorem w48i1oE0 {N : Nat} {r : Bool} (x0 : List VSeries) (h : slices_ContainsFunc_api_Series_api_Series__i1 N x0 = some r) : Ends (Y := TT) EE (w48i1G N) w48i1lv w48i1rs (fun u => u = w48i1enc r) (w48i1kE0 (bodyOf 0 Try.f48)) (w48i1sE0 x0) :=
  tree_use (w48i1vE0 N x0) (w48i1nE0 N x0) h (show (w48i1TE0 (bodyOf 0 Try.f48) N x0).all _ from fun _ => retp (enc := w48i1enc) rfl)
def w48i1us (x0 : List VSeries) : List (TV EE.T) := [.a (.d (.sl (.nam 4)) x0), .fn 60 []]
def w48i1h0 (x0 : List VSeries) : List (Nat × TB EE.T) := []
theorem slices_ContainsFunc_api_Series_api_Series__i1_ok {N : Nat} (x0 : List VSeries) {r : Bool} (h : slices_ContainsFunc_api_Series_api_Series__i1 N x0 = some r) (ρ : Nat → Nat) (hi : Inj ρ (w48i1h0 x0)) : ACalls Try.prog 48 ((w48i1us x0).map (TV.to EE.toEnc ρ)) (hTo EE.toEnc ρ (w48i1h0 x0)) (fun out H => out = .ret ((slices_ContainsFunc_api_Series_api_Series__i1_u r).to EE.toEnc ρ) ∧ H = hTo EE.toEnc ρ (w48i1hh r)) :=
  (fn_okH (bodyOf 0 Try.f48) 9 mixed (w48i1Gok N) Try.func48 (by kernel_rfl) rfl rfl rfl rfl (w48i1oE0 x0 h) ρ hi).mono fun out H h => KPost.retH rfl rfl h
def slices_ContainsFunc_api_Series_api_Series__i1_h (N : Nat) (us : List (TV EE.T)) (hs : List (Nat × TB EE.T)) : XR EE.T :=
  gdX (lenX us 2) <|
  bnX (aD (.sl (.nam 4)) us 0) fun x0 =>
  bnX (aF 60 us 1) fun c1 =>
  bnX (cbs c1) fun s1 =>
  gdX (lenX s1 0) <|
  gdX (goodIds hs []) <|
  .ret (slices_ContainsFunc_api_Series_api_Series__i1 N x0) [] slices_ContainsFunc_api_Series_api_Series__i1_u (w48i1hh)
theorem slices_ContainsFunc_api_Series_api_Series__i1_hok (N : Nat) : XOk Try.prog EE 48 (slices_ContainsFunc_api_Series_api_Series__i1_h N) := fun us hs =>
  gdX_ok fun h1 => bnX_ok fun x0 h2 => bnX_ok fun c1 h3 => bnX_ok fun s1 h4 => gdX_ok fun h5 => gdX_ok fun h6 => fun z hz => ⟨rfl, fun ρ hi => xcall (us' := w48i1us x0) (h0 := w48i1h0 x0) (ρ' := rhoS ρ []) ⟨aD_le h2, aF_le (js := []) h3 h4 (by rw [lis0 (lenX_ok h5)];  kernel_rfl), lenX_ok h1⟩ trivial (slices_ContainsFunc_api_Series_api_Series__i1_ok x0 hz _ (rhoS_inj hi h6 _ (by kernel_rfl))) (fun out H h => ⟨h.1.trans (by kernel_rfl), h.2.trans (by kernel_rfl)⟩)⟩
def take_open_u (r : (List VSeries) × Bool) : TV EE.T := .tu [.a (.d (.sl (.nam 4)) r.1), .a (.d .bool r.2)]
def w32enc (r : (List VSeries) × Bool) : RL EE.T := .ret (take_open_u r) []
def w32lv : Lvs := ⟨[], [], [], [], false, [], []⟩
def w32rs : List ResultVar := [.tmp 2, .tmp 3]
def w32G (N : Nat) : Gam EE := ⟨[⟨42, press_Unpack_h N⟩, ⟨59, wire_Read_h N⟩], EQT, [⟨48, slices_ContainsFunc_api_Series_api_Series__i1_h N⟩], []⟩
theorem w32Gok (N : Nat) : GOk Try.prog TT EE (w32G N) := GOk.cons (press_Unpack_hok N) (GOk.cons (wire_Read_hok N) (GOk.consx (slices_ContainsFunc_api_Series_api_Series__i1_hok N) (GOk.nil EQT_ok)))
def w32kE0 (c : Code) : List It2 := [.c c]
def w32sE0 (x0 : List UInt8) : TS EE.T := ⟨27, [(0, .a (.d .str x0))], [], []⟩
def w32TE0 (c : Code) (N : Nat) (x0 : List UInt8) : Tree (Lf EE.T × Option ((List VSeries) × Bool)) :=
  .bnd (press_Unpack N x0 20000) fun z1 =>
  .cond (z1.2 != 0)
  (
    .leaf (.done (w32enc (([] : List VSeries), false)), some (([] : List VSeries), false)))
  (
    .bnd (wire_Read N z1.1) fun z2 =>
    .cond (z2.2 != 0)
    (
      .leaf (.done (w32enc (([] : List VSeries), false)), some (([] : List VSeries), false)))
    (
      .bnd (slices_ContainsFunc_api_Series_api_Series__i1 N z2.1) fun z3 =>
      .leaf (.done (w32enc (z2.1, !z3)), some (z2.1, !z3))))
theorem w32vE0 (N : Nat) (x0 : List UInt8) : evM TT EE (w32G N) w32lv w32rs 4000 true (w32kE0 (bodyOf 0 Try.f32)) (w32sE0 x0) = (w32TE0 (bodyOf 0 Try.f32) N x0).map1 := by kernel_rfl
theorem w32nE0 (N : Nat) (x0 : List UInt8) : take_open N x0 = (w32TE0 (bodyOf 0 Try.f32) N x0).run := by kernel_rfl
theorem w32oE0 {N : Nat} {r : (List VSeries) × Bool} (x0 : List UInt8) (h : take_open N x0 = some r) : Ends (Y := TT) EE (w32G N) w32lv w32rs (fun u => u = w32enc r) (w32kE0 (bodyOf 0 Try.f32)) (w32sE0 x0) :=
  tree_use (w32vE0 N x0) (w32nE0 N x0) h (show (w32TE0 (bodyOf 0 Try.f32) N x0).all _ from fun _ => ⟨retp (enc := w32enc) rfl, fun _ => ⟨retp (enc := w32enc) rfl, fun _ => retp (enc := w32enc) rfl⟩⟩)
theorem take_open_ok {N : Nat} (x0 : List UInt8) {r : (List VSeries) × Bool} (h : take_open N x0 = some r) (ρ : Nat → Nat) : ACalls Try.prog 32 (([.a (.d .str x0)] : List (TV EE.T)).map (TV.to EE.toEnc ρ)) [] (fun out H => out = .ret ((take_open_u r).to EE.toEnc ρ) ∧ H = []) :=
  (fn_ok (bodyOf 0 Try.f32) 27 mixed (w32Gok N) Try.func32 (by kernel_rfl) rfl rfl rfl rfl (w32oE0 x0 h) ρ).mono fun out H h => KPost.ret rfl h
def take_open_h (N : Nat) : List (TV EE.T) → PV EE.T
  | [u0] => match argD .str u0 with
    | some x0 => .opt (take_open N x0) take_open_u
    | _ => .bad
  | _ => .bad
theorem take_open_hok (N : Nat) (us : List (TV EE.T)) : (take_open_h N us).ok fun u => ∀ ρ, ACalls Try.prog 32 (us.map (TV.to EE.toEnc ρ)) [] (fun out H => out = .ret (u.to EE.toEnc ρ) ∧ H = []) := by
  unfold take_open_h
  split
  · split
    · rename_i h0
      intro z hz ρ; refine acalls_le ?_ (take_open_ok _ hz ρ); exact ⟨argD_le h0 ρ, trivial⟩
    · trivial
  · trivial
end Go.Proofs.Ytmoehipmpchofaa
