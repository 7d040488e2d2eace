/- The walks that prove plain functions right, written by gen/tgl.py. -/
import Derived.Test.YtbpgpfigndlohaaGreatFE1p
import Derived.Test.YtbpgpfigndlohaaGreatTX
namespace Go.Proofs.YtbpgpfigndlohaaGreat
open Go.RowKit P
set_option linter.unusedVariables false
set_option linter.unusedSimpArgs false
set_option maxRecDepth 100000
/-! ### cmp.Or[int] -/
def cmp_Or_int__u (r : Int) : TV EE.T := .a (.d (.int .i64) r)
def w16enc (r : Int) : RL EE.T := .ret (cmp_Or_int__u r) []
def w16lv : Lvs := ⟨[], [(3, ⟨[(3, false), (6, false), (7, false), (8, false)], [], []⟩)], [], [], false, [], []⟩
def w16rs : List ResultVar := [.tmp 2]
def w16G (N : Nat) : Gam EE := ⟨[], EQT, [], []⟩
theorem w16Gok (N : Nat) : GOk Tryz.prog TT EE (w16G N) := GOk.nil EQT_ok
def w16kL3 (c : Code) : List It2 := atL 3 c
def w16sL3 (x3 : Int) (x6 : List Int) (x7 : Int) (x8 : Int) : TS EE.T := ⟨18, [(3, .a (.d (.int .i64) x3)), (6, .a (.d (.sl (.int .i64)) x6)), (7, .a (.d (.int .i64) x7)), (8, .a (.d (.int .i64) x8))], [], []⟩
def w16kE0 (c : Code) : List It2 := [.c c]
def w16sE0 (x0 : List Int) : TS EE.T := ⟨18, [(0, .a (.d (.sl (.int .i64)) x0))], [], []⟩
def w16TL3 (c : Code) (N : Nat) (n : Nat) (x3 : Int) (x6 : List Int) (x7 : Int) (x8 : Int) : Tree (Lf EE.T × Option Int) :=
  .cond (decide (x8 < x7))
  (
    .bnd (idxC x6 x8) fun z1 =>
    .cond (z1 != x3)
    (
      .leaf (.done (w16enc z1), some z1))
    (
      .leaf (.go (w16kL3 c) (w16sL3 x3 x6 x7 (w64 (x8 + 1))), cmp_Or_int__L3 N n x3 x6 x7 (w64 (x8 + 1)))))
  (
    .leaf (.done (w16enc x3), some x3))
theorem w16vL3 (N : Nat) (n : Nat) (x3 : Int) (x6 : List Int) (x7 : Int) (x8 : Int) : evM TT EE (w16G N) w16lv w16rs 4000 true (w16kL3 (bodyOf 0 Tryz.f16)) (w16sL3 x3 x6 x7 x8) = (w16TL3 (bodyOf 0 Tryz.f16) N n x3 x6 x7 x8).map1 := by kernel_rfl
theorem w16nL3 (N : Nat) (n : Nat) (x3 : Int) (x6 : List Int) (x7 : Int) (x8 : Int) : cmp_Or_int__L3 N (n + 1) x3 x6 x7 x8 = (w16TL3 (bodyOf 0 Tryz.f16) N n x3 x6 x7 x8).run := by kernel_rfl
theorem w16oL3 {N : Nat} {r : Int} : ∀ (n : Nat) (x3 : Int) (x6 : List Int) (x7 : Int) (x8 : Int), cmp_Or_int__L3 N n x3 x6 x7 x8 = some r → Ends (Y := TT) EE (w16G N) w16lv w16rs (fun u => u = w16enc r) (w16kL3 (bodyOf 0 Tryz.f16)) (w16sL3 x3 x6 x7 x8)
  | 0, _, _, _, _, h => by cases h
  | n + 1, x3, x6, x7, x8, h => tree_use (w16vL3 N n x3 x6 x7 x8) (w16nL3 N n x3 x6 x7 x8) h (show (w16TL3 (bodyOf 0 Tryz.f16) N n x3 x6 x7 x8).all _ from ⟨fun _ => ⟨retp (enc := w16enc) rfl, fun h => (w16oL3 n) _ _ _ _ h⟩, retp (enc := w16enc) rfl⟩)
def w16TE0 (c : Code) (N : Nat) (x0 : List Int) : Tree (Lf EE.T × Option Int) :=
  .leaf (.go (w16kL3 c) (w16sL3 0 x0 (x0.length : Int) 0), cmp_Or_int__L3 N N 0 x0 (x0.length : Int) 0)
theorem w16vE0 (N : Nat) (x0 : List Int) : evM TT EE (w16G N) w16lv w16rs 4000 true (w16kE0 (bodyOf 0 Tryz.f16)) (w16sE0 x0) = (w16TE0 (bodyOf 0 Tryz.f16) N x0).map1 := by kernel_rfl
theorem w16nE0 (N : Nat) (x0 : List Int) : cmp_Or_int_ N x0 = (w16TE0 (bodyOf 0 Tryz.f16) N x0).run := by kernel_rfl
theorem w16oE0 {N : Nat} {r : Int} (x0 : List Int) (h : cmp_Or_int_ N x0 = some r) : Ends (Y := TT) EE (w16G N) w16lv w16rs (fun u => u = w16enc r) (w16kE0 (bodyOf 0 Tryz.f16)) (w16sE0 x0) :=
  tree_use (w16vE0 N x0) (w16nE0 N x0) h (show (w16TE0 (bodyOf 0 Tryz.f16) N x0).all _ from fun h => w16oL3 N _ _ _ _ h)
theorem cmp_Or_int__ok {N : Nat} (x0 : List Int) {r : Int} (h : cmp_Or_int_ N x0 = some r) (ρ : Nat → Nat) : ACalls Tryz.prog 16 (([.a (.d (.sl (.int .i64)) x0)] : List (TV EE.T)).map (TV.to EE.toEnc ρ)) [] (fun out H => out = .ret ((cmp_Or_int__u r).to EE.toEnc ρ) ∧ H = []) :=
  (fn_ok (bodyOf 0 Tryz.f16) 18 mixed (w16Gok N) Tryz.func16 (by kernel_rfl) rfl rfl rfl rfl (w16oE0 x0 h) ρ).mono fun out H h => KPost.ret rfl h
def cmp_Or_int__h (N : Nat) : List (TV EE.T) → PV EE.T
  | [u0] => match argD (.sl (.int .i64)) u0 with
    | some x0 => .opt (cmp_Or_int_ N x0) cmp_Or_int__u
    | _ => .bad
  | _ => .bad
theorem cmp_Or_int__hok (N : Nat) (us : List (TV EE.T)) : (cmp_Or_int__h N us).ok fun u => ∀ ρ, ACalls Tryz.prog 16 (us.map (TV.to EE.toEnc ρ)) [] (fun out H => out = .ret (u.to EE.toEnc ρ) ∧ H = []) := by
  unfold cmp_Or_int__h
  split
  · split
    · rename_i h0
      intro z hz ρ; refine acalls_le ?_ (cmp_Or_int__ok _ hz ρ); exact ⟨argD_le h0 ρ, trivial⟩
    · trivial
  · trivial
/-! ### gleaner/labels.Order$1 -/
def labels_Order_1_u (r : Int) : TV EE.T := .a (.d (.int .i64) r)
def w15enc (r : Int) : RL EE.T := .ret (labels_Order_1_u r) []
def w15lv : Lvs := ⟨[(1, ⟨[(2, false), (3, false)], [], [(2, (some 2, [])), (3, (some 2, []))]⟩)], [], [], [], false, [], []⟩
def w15rs : List ResultVar := [.tmp 4]
def w15G (N : Nat) : Gam EE := ⟨[⟨17, cmp_Compare_string__h N⟩, ⟨16, cmp_Or_int__h N⟩], EQT, [], []⟩
theorem w15Gok (N : Nat) : GOk Tryz.prog TT EE (w15G N) := GOk.cons (cmp_Compare_string__hok N) (GOk.cons (cmp_Or_int__hok N) (GOk.nil EQT_ok))
def w15kE0 (c : Code) : List It2 := [.c c]
def w15sE0 (x0 : VLabel) (x1 : VLabel) : TS EE.T := ⟨17, [(0, .ag (unpT EE (.nam 2) x0)), (1, .ag (unpT EE (.nam 2) x1))], [], []⟩
def w15TE0 (c : Code) (N : Nat) (x0 : VLabel) (x1 : VLabel) : Tree (Lf EE.T × Option Int) :=
  .bnd (cmp_Compare_string_ N x0.Name x1.Name) fun z1 =>
  .bnd (cmp_Compare_string_ N x0.Value x1.Value) fun z2 =>
  .bnd (cmp_Or_int_ N ([z1, z2] : List Int)) fun z3 =>
  .leaf (.done (w15enc z3), some z3)
theorem w15vE0 (N : Nat) (x0 : VLabel) (x1 : VLabel) : evM TT EE (w15G N) w15lv w15rs 4000 true (w15kE0 (bodyOf 0 Tryz.f15)) (w15sE0 x0 x1) = (w15TE0 (bodyOf 0 Tryz.f15) N x0 x1).map1 := by kernel_rfl
theorem w15nE0 (N : Nat) (x0 : VLabel) (x1 : VLabel) : labels_Order_1 N x0 x1 = (w15TE0 (bodyOf 0 Tryz.f15) N x0 x1).run := by kernel_rfl
theorem w15oE0 {N : Nat} {r : Int} (x0 : VLabel) (x1 : VLabel) (h : labels_Order_1 N x0 x1 = some r) : Ends (Y := TT) EE (w15G N) w15lv w15rs (fun u => u = w15enc r) (w15kE0 (bodyOf 0 Tryz.f15)) (w15sE0 x0 x1) :=
  tree_use (w15vE0 N x0 x1) (w15nE0 N x0 x1) h (show (w15TE0 (bodyOf 0 Tryz.f15) N x0 x1).all _ from fun _ => fun _ => fun _ => retp (enc := w15enc) rfl)
theorem labels_Order_1_ok {N : Nat} (x0 : VLabel) (x1 : VLabel) {r : Int} (h : labels_Order_1 N x0 x1 = some r) (ρ : Nat → Nat) : ACalls Tryz.prog 15 (([.ag (unpT EE (.nam 2) x0), .ag (unpT EE (.nam 2) x1)] : List (TV EE.T)).map (TV.to EE.toEnc ρ)) [] (fun out H => out = .ret ((labels_Order_1_u r).to EE.toEnc ρ) ∧ H = []) :=
  (fn_ok (bodyOf 0 Tryz.f15) 17 mixed (w15Gok N) Tryz.func15 (by kernel_rfl) rfl rfl rfl rfl (w15oE0 x0 x1 h) ρ).mono fun out H h => KPost.ret rfl h
def labels_Order_1_h (N : Nat) : List (TV EE.T) → PV EE.T
  | [u0, u1] => match argS EE 2 u0, argS EE 2 u1 with
    | some x0, some x1 => .opt (labels_Order_1 N x0 x1) labels_Order_1_u
    | _, _ => .bad
  | _ => .bad
theorem labels_Order_1_hok (N : Nat) (us : List (TV EE.T)) : (labels_Order_1_h N us).ok fun u => ∀ ρ, ACalls Tryz.prog 15 (us.map (TV.to EE.toEnc ρ)) [] (fun out H => out = .ret (u.to EE.toEnc ρ) ∧ H = []) := by
  unfold labels_Order_1_h
  split
  · split
    · rename_i h0 h1
      intro z hz ρ; refine acalls_le ?_ (labels_Order_1_ok _ _ hz ρ); exact ⟨argS_le h0 ρ, argS_le h1 ρ, trivial⟩
    · trivial
  · trivial
/-! ### slices.CompareFunc[[]gleaner/api.Label,[]gleaner/api.Label,gleaner/api.Label,gleaner/api.Label] -/
def slices_CompareFunc_api_Label_api_Label_api_Label_api_Label__i0_u (r : Int) : TV EE.T := .a (.d (.int .i64) r)
def w14i0hh (r : Int) : List (Nat × TB EE.T) := []
def w14i0enc (r : Int) : RL EE.T := .ret (slices_CompareFunc_api_Label_api_Label_api_Label_api_Label__i0_u r) (w14i0hh r)
def w14i0lv : Lvs := ⟨[], [(2, ⟨[(0, false), (1, false), (2, false), (11, false), (12, false), (13, false)], [], []⟩)], [], [], false, [], []⟩
def w14i0rs : List ResultVar := [.tmp 6]
def w14i0G (N : Nat) : Gam EE := ⟨[], EQT, [⟨15, xOf (labels_Order_1_h N)⟩], []⟩
theorem w14i0Gok (N : Nat) : GOk Tryz.prog TT EE (w14i0G N) := GOk.consx (xOf_ok (labels_Order_1_hok N)) (GOk.nil EQT_ok)
def w14i0kL2 (c : Code) : List It2 := atL 2 c
def w14i0sL2 (x0 : List VLabel) (x1 : List VLabel) (x11 : List VLabel) (x12 : Int) (x13 : Int) : TS EE.T := ⟨39, [(0, .a (.d (.sl (.nam 2)) x0)), (1, .a (.d (.sl (.nam 2)) x1)), (2, .fn 15 []), (11, .a (.d (.sl (.nam 2)) x11)), (12, .a (.d (.int .i64) x12)), (13, .a (.d (.int .i64) x13))], [], []⟩
def w14i0kE0 (c : Code) : List It2 := [.c c]
def w14i0sE0 (x0 : List VLabel) (x1 : List VLabel) : TS EE.T := ⟨39, [(0, .a (.d (.sl (.nam 2)) x0)), (1, .a (.d (.sl (.nam 2)) x1)), (2, .fn 15 [])], [], []⟩
def w14i0TL2 (c : Code) (N : Nat) (n : Nat) (x0 : List VLabel) (x1 : List VLabel) (x11 : List VLabel) (x12 : Int) (x13 : Int) : Tree (Lf EE.T × Option Int) :=
  .cond (decide (x13 < x12))
  (
    .bnd (idxC x11 x13) fun z1 =>
    .cond (decide (x13 ≥ (x1.length : Int)))
    (
      .leaf (.done (w14i0enc 1), some 1))
    (
      .bnd (idxC x1 x13) fun z2 =>
      .bnd (labels_Order_1 N z1 z2) fun z3 =>
      .cond (z3 != 0)
      (
        .leaf (.done (w14i0enc z3), some z3))
      (
        .leaf (.go (w14i0kL2 c) (w14i0sL2 x0 x1 x11 x12 (w64 (x13 + 1))), slices_CompareFunc_api_Label_api_Label_api_Label_api_Label__i0_L2 N n x0 x1 x11 x12 (w64 (x13 + 1))))))
  (
    .cond (decide ((x0.length : Int) < (x1.length : Int)))
    (
      .leaf (.done (w14i0enc (-1)), some (-1)))
    (
      .leaf (.done (w14i0enc 0), some 0)))
theorem w14i0vL2 (N : Nat) (n : Nat) (x0 : List VLabel) (x1 : List VLabel) (x11 : List VLabel) (x12 : Int) (x13 : Int) : evM TT EE (w14i0G N) w14i0lv w14i0rs 4000 true (w14i0kL2 (bodyOf 0 Tryz.f14)) (w14i0sL2 x0 x1 x11 x12 x13) = (w14i0TL2 (bodyOf 0 Tryz.f14) N n x0 x1 x11 x12 x13).map1 := by kernel_rfl
theorem w14i0nL2 (N : Nat) (n : Nat) (x0 : List VLabel) (x1 : List VLabel) (x11 : List VLabel) (x12 : Int) (x13 : Int) : slices_CompareFunc_api_Label_api_Label_api_Label_api_Label__i0_L2 N (n + 1) x0 x1 x11 x12 x13 = (w14i0TL2 (bodyOf 0 Tryz.f14) N n x0 x1 x11 x12 x13).run := by kernel_rfl
theorem w14i0oL2 {N : Nat} {r : Int} : ∀ (n : Nat) (x0 : List VLabel) (x1 : List VLabel) (x11 : List VLabel) (x12 : Int) (x13 : Int), slices_CompareFunc_api_Label_api_Label_api_Label_api_Label__i0_L2 N n x0 x1 x11 x12 x13 = some r → Ends (Y := TT) EE (w14i0G N) w14i0lv w14i0rs (fun u => u = w14i0enc r) (w14i0kL2 (bodyOf 0 Tryz.f14)) (w14i0sL2 x0 x1 x11 x12 x13)
  | 0, _, _, _, _, _, h => by cases h
  | n + 1, x0, x1, x11, x12, x13, h => tree_use (w14i0vL2 N n x0 x1 x11 x12 x13) (w14i0nL2 N n x0 x1 x11 x12 x13) h (show (w14i0TL2 (bodyOf 0 Tryz.f14) N n x0 x1 x11 x12 x13).all _ from ⟨fun _ => ⟨retp (enc := w14i0enc) rfl, fun _ => fun _ => ⟨retp (enc := w14i0enc) rfl, fun h => (w14i0oL2 n) _ _ _ _ _ h⟩⟩, ⟨retp (enc := w14i0enc) rfl, retp (enc := w14i0enc) rfl⟩⟩)
def w14i0TE0 (c : Code) (N : Nat) (x0 : List VLabel) (x1 : List VLabel) : Tree (Lf EE.T × Option Int) :=
  .leaf (.go (w14i0kL2 c) (w14i0sL2 x0 x1 x0 (x0.length : Int) 0), slices_CompareFunc_api_Label_api_Label_api_Label_api_Label__i0_L2 N N x0 x1 x0 (x0.length : Int) 0)
theorem w14i0vE0 (N : Nat) (x0 : List VLabel) (x1 : List VLabel) : evM TT EE (w14i0G N) w14i0lv w14i0rs 4000 true (w14i0kE0 (bodyOf 0 Tryz.f14)) (w14i0sE0 x0 x1) = (w14i0TE0 (bodyOf 0 Tryz.f14) N x0 x1).map1 := by kernel_rfl
theorem w14i0nE0 (N : Nat) (x0 : List VLabel) (x1 : List VLabel) : slices_CompareFunc_api_Label_api_Label_api_Label_api_Label__i0 N x0 x1 = (w14i0TE0 (bodyOf 0 Tryz.f14) N x0 x1).run := by kernel_rfl
theorem w14i0oE0 {N : Nat} {r : Int} (x0 : List VLabel) (x1 : List VLabel) (h : slices_CompareFunc_api_Label_api_Label_api_Label_api_Label__i0 N x0 x1 = some r) : Ends (Y := TT) EE (w14i0G N) w14i0lv w14i0rs (fun u => u = w14i0enc r) (w14i0kE0 (bodyOf 0 Tryz.f14)) (w14i0sE0 x0 x1) :=
  tree_use (w14i0vE0 N x0 x1) (w14i0nE0 N x0 x1) h (show (w14i0TE0 (bodyOf 0 Tryz.f14) N x0 x1).all _ from fun h => w14i0oL2 N _ _ _ _ _ h)
def w14i0us (x0 : List VLabel) (x1 : List VLabel) : List (TV EE.T) := [.a (.d (.sl (.nam 2)) x0), .a (.d (.sl (.nam 2)) x1), .fn 15 []]
def w14i0h0 (x0 : List VLabel) (x1 : List VLabel) : List (Nat × TB EE.T) := []
theorem slices_CompareFunc_api_Label_api_Label_api_Label_api_Label__i0_ok {N : Nat} (x0 : List VLabel) (x1 : List VLabel) {r : Int} (h : slices_CompareFunc_api_Label_api_Label_api_Label_api_Label__i0 N x0 x1 = some r) (ρ : Nat → Nat) (hi : Inj ρ (w14i0h0 x0 x1)) : ACalls Tryz.prog 14 ((w14i0us x0 x1).map (TV.to EE.toEnc ρ)) (hTo EE.toEnc ρ (w14i0h0 x0 x1)) (fun out H => out = .ret ((slices_CompareFunc_api_Label_api_Label_api_Label_api_Label__i0_u r).to EE.toEnc ρ) ∧ H = hTo EE.toEnc ρ (w14i0hh r)) :=
  (fn_okH (bodyOf 0 Tryz.f14) 39 mixed (w14i0Gok N) Tryz.func14 (by kernel_rfl) rfl rfl rfl rfl (w14i0oE0 x0 x1 h) ρ hi).mono fun out H h => KPost.retH rfl rfl h
def slices_CompareFunc_api_Label_api_Label_api_Label_api_Label__i0_h (N : Nat) (us : List (TV EE.T)) (hs : List (Nat × TB EE.T)) : XR EE.T :=
  gdX (lenX us 3) <|
  bnX (aD (.sl (.nam 2)) us 0) fun x0 =>
  bnX (aD (.sl (.nam 2)) us 1) fun x1 =>
  bnX (aF 15 us 2) fun c2 =>
  bnX (cbs c2) fun s2 =>
  gdX (lenX s2 0) <|
  gdX (goodIds hs []) <|
  .ret (slices_CompareFunc_api_Label_api_Label_api_Label_api_Label__i0 N x0 x1) [] slices_CompareFunc_api_Label_api_Label_api_Label_api_Label__i0_u (w14i0hh)
theorem slices_CompareFunc_api_Label_api_Label_api_Label_api_Label__i0_hok (N : Nat) : XOk Tryz.prog EE 14 (slices_CompareFunc_api_Label_api_Label_api_Label_api_Label__i0_h N) := fun us hs =>
  gdX_ok fun h1 => bnX_ok fun x0 h2 => bnX_ok fun x1 h3 => bnX_ok fun c2 h4 => bnX_ok fun s2 h5 => gdX_ok fun h6 => gdX_ok fun h7 => fun z hz => ⟨rfl, fun ρ hi => xcall (us' := w14i0us x0 x1) (h0 := w14i0h0 x0 x1) (ρ' := rhoS ρ []) ⟨aD_le h2, aD_le h3, aF_le (js := []) h4 h5 (by rw [lis0 (lenX_ok h6)];  kernel_rfl), lenX_ok h1⟩ trivial (slices_CompareFunc_api_Label_api_Label_api_Label_api_Label__i0_ok x0 x1 hz _ (rhoS_inj hi h7 _ (by kernel_rfl))) (fun out H h => ⟨h.1.trans (by kernel_rfl), h.2.trans (by kernel_rfl)⟩)⟩
/-! ### gleaner/labels.Order -/
def labels_Order_u (r : Int) : TV EE.T := .a (.d (.int .i64) r)
def w9enc (r : Int) : RL EE.T := .ret (labels_Order_u r) []
def w9lv : Lvs := ⟨[], [], [], [], false, [], []⟩
def w9rs : List ResultVar := [.tmp 4]
def w9G (N : Nat) : Gam EE := ⟨[], EQT, [⟨14, slices_CompareFunc_api_Label_api_Label_api_Label_api_Label__i0_h N⟩], []⟩
theorem w9Gok (N : Nat) : GOk Tryz.prog TT EE (w9G N) := GOk.consx (slices_CompareFunc_api_Label_api_Label_api_Label_api_Label__i0_hok N) (GOk.nil EQT_ok)
def w9kE0 (c : Code) : List It2 := [.c c]
def w9sE0 (x0 : List VLabel) (x1 : List VLabel) : TS EE.T := ⟨8, [(0, .a (.d (.sl (.nam 2)) x0)), (1, .a (.d (.sl (.nam 2)) x1))], [], []⟩
def w9TE0 (c : Code) (N : Nat) (x0 : List VLabel) (x1 : List VLabel) : Tree (Lf EE.T × Option Int) :=
  .bnd (slices_CompareFunc_api_Label_api_Label_api_Label_api_Label__i0 N x0 x1) fun z1 =>
  .leaf (.done (w9enc z1), some z1)
theorem w9vE0 (N : Nat) (x0 : List VLabel) (x1 : List VLabel) : evM TT EE (w9G N) w9lv w9rs 4000 true (w9kE0 (bodyOf 0 Tryz.f9)) (w9sE0 x0 x1) = (w9TE0 (bodyOf 0 Tryz.f9) N x0 x1).map1 := by kernel_rfl
theorem w9nE0 (N : Nat) (x0 : List VLabel) (x1 : List VLabel) : labels_Order N x0 x1 = (w9TE0 (bodyOf 0 Tryz.f9) N x0 x1).run := by kernel_rfl
theorem w9oE0 {N : Nat} {r : Int} (x0 : List VLabel) (x1 : List VLabel) (h : labels_Order N x0 x1 = some r) : Ends (Y := TT) EE (w9G N) w9lv w9rs (fun u => u = w9enc r) (w9kE0 (bodyOf 0 Tryz.f9)) (w9sE0 x0 x1) :=
  tree_use (w9vE0 N x0 x1) (w9nE0 N x0 x1) h (show (w9TE0 (bodyOf 0 Tryz.f9) N x0 x1).all _ from fun _ => retp (enc := w9enc) rfl)
theorem labels_Order_ok {N : Nat} (x0 : List VLabel) (x1 : List VLabel) {r : Int} (h : labels_Order N x0 x1 = some r) (ρ : Nat → Nat) : ACalls Tryz.prog 9 (([.a (.d (.sl (.nam 2)) x0), .a (.d (.sl (.nam 2)) x1)] : List (TV EE.T)).map (TV.to EE.toEnc ρ)) [] (fun out H => out = .ret ((labels_Order_u r).to EE.toEnc ρ) ∧ H = []) :=
  (fn_ok (bodyOf 0 Tryz.f9) 8 mixed (w9Gok N) Tryz.func9 (by kernel_rfl) rfl rfl rfl rfl (w9oE0 x0 x1 h) ρ).mono fun out H h => KPost.ret rfl h
def labels_Order_h (N : Nat) : List (TV EE.T) → PV EE.T
  | [u0, u1] => match argD (.sl (.nam 2)) u0, argD (.sl (.nam 2)) u1 with
    | some x0, some x1 => .opt (labels_Order N x0 x1) labels_Order_u
    | _, _ => .bad
  | _ => .bad
theorem labels_Order_hok (N : Nat) (us : List (TV EE.T)) : (labels_Order_h N us).ok fun u => ∀ ρ, ACalls Tryz.prog 9 (us.map (TV.to EE.toEnc ρ)) [] (fun out H => out = .ret (u.to EE.toEnc ρ) ∧ H = []) := by
  unfold labels_Order_h
  split
  · split
    · rename_i h0 h1
      intro z hz ρ; refine acalls_le ?_ (labels_Order_ok _ _ hz ρ); exact ⟨argD_le h0 ρ, argD_le h1 ρ, trivial⟩
    · trivial
  · trivial
/-! ### gleaner/labels.Compare -/
def labels_Compare_u (r : Int × Int) : TV EE.T := .tu [.a (.d (.int .i64) r.1), .a (.d (.int .i64) r.2)]
def w4enc (r : Int × Int) : RL EE.T := .ret (labels_Compare_u r) []
def w4lv : Lvs := ⟨[], [], [], [], false, [], []⟩
def w4rs : List ResultVar := [.tmp 4, .tmp 5]
def w4G (N : Nat) : Gam EE := ⟨[⟨9, labels_Order_h N⟩, ⟨8, labels_check_h N⟩], EQT, [], []⟩
theorem w4Gok (N : Nat) : GOk Tryz.prog TT EE (w4G N) := GOk.cons (labels_Order_hok N) (GOk.cons (labels_check_hok N) (GOk.nil EQT_ok))
def w4kE0 (c : Code) : List It2 := [.c c]
def w4sE0 (x0 : List VLabel) (x1 : List VLabel) : TS EE.T := ⟨17, [(0, .a (.d (.sl (.nam 2)) x0)), (1, .a (.d (.sl (.nam 2)) x1))], [], []⟩
def w4TE0 (c : Code) (N : Nat) (x0 : List VLabel) (x1 : List VLabel) : Tree (Lf EE.T × Option (Int × Int)) :=
  .bnd (labels_check N ([x0, x1] : List (List VLabel))) fun z1 =>
  .cond (z1 != 0)
  (
    .leaf (.done (w4enc (0, z1)), some (0, z1)))
  (
    .bnd (labels_Order N x0 x1) fun z2 =>
    .leaf (.done (w4enc (z2, 0)), some (z2, 0)))
theorem w4vE0 (N : Nat) (x0 : List VLabel) (x1 : List VLabel) : evM TT EE (w4G N) w4lv w4rs 4000 true (w4kE0 (bodyOf 0 Tryz.f4)) (w4sE0 x0 x1) = (w4TE0 (bodyOf 0 Tryz.f4) N x0 x1).map1 := by kernel_rfl
theorem w4nE0 (N : Nat) (x0 : List VLabel) (x1 : List VLabel) : labels_Compare N x0 x1 = (w4TE0 (bodyOf 0 Tryz.f4) N x0 x1).run := by kernel_rfl
theorem w4oE0 {N : Nat} {r : Int × Int} (x0 : List VLabel) (x1 : List VLabel) (h : labels_Compare N x0 x1 = some r) : Ends (Y := TT) EE (w4G N) w4lv w4rs (fun u => u = w4enc r) (w4kE0 (bodyOf 0 Tryz.f4)) (w4sE0 x0 x1) :=
  tree_use (w4vE0 N x0 x1) (w4nE0 N x0 x1) h (show (w4TE0 (bodyOf 0 Tryz.f4) N x0 x1).all _ from fun _ => ⟨retp (enc := w4enc) rfl, fun _ => retp (enc := w4enc) rfl⟩)
theorem labels_Compare_ok {N : Nat} (x0 : List VLabel) (x1 : List VLabel) {r : Int × Int} (h : labels_Compare N x0 x1 = some r) (ρ : Nat → Nat) : ACalls Tryz.prog 4 (([.a (.d (.sl (.nam 2)) x0), .a (.d (.sl (.nam 2)) x1)] : List (TV EE.T)).map (TV.to EE.toEnc ρ)) [] (fun out H => out = .ret ((labels_Compare_u r).to EE.toEnc ρ) ∧ H = []) :=
  (fn_ok (bodyOf 0 Tryz.f4) 17 mixed (w4Gok N) Tryz.func4 (by kernel_rfl) rfl rfl rfl rfl (w4oE0 x0 x1 h) ρ).mono fun out H h => KPost.ret rfl h
def labels_Compare_h (N : Nat) : List (TV EE.T) → PV EE.T
  | [u0, u1] => match argD (.sl (.nam 2)) u0, argD (.sl (.nam 2)) u1 with
    | some x0, some x1 => .opt (labels_Compare N x0 x1) labels_Compare_u
    | _, _ => .bad
  | _ => .bad
theorem labels_Compare_hok (N : Nat) (us : List (TV EE.T)) : (labels_Compare_h N us).ok fun u => ∀ ρ, ACalls Tryz.prog 4 (us.map (TV.to EE.toEnc ρ)) [] (fun out H => out = .ret (u.to EE.toEnc ρ) ∧ H = []) := by
  unfold labels_Compare_h
  split
  · split
    · rename_i h0 h1
      intro z hz ρ; refine acalls_le ?_ (labels_Compare_ok _ _ hz ρ); exact ⟨argD_le h0 ρ, argD_le h1 ρ, trivial⟩
    · trivial
  · trivial
/-! ### gleaner/gleanerref.IsLetter -/
def ref_IsLetter_u (r : Bool) : TV EE.T := .a (.d .bool r)
def w28enc (r : Bool) : RL EE.T := .ret (ref_IsLetter_u r) []
def w28lv : Lvs := ⟨[], [], [], [], false, [], []⟩
def w28rs : List ResultVar := [.tmp 2]
def w28G (N : Nat) : Gam EE := ⟨[], EQT, [], []⟩
theorem w28Gok (N : Nat) : GOk Tryz.prog TT EE (w28G N) := GOk.nil EQT_ok
def w28kE0 (c : Code) : List It2 := [.c c]
def w28sE0 (x0 : UInt8) : TS EE.T := ⟨21, [(0, .a (.d .byte x0))], [], []⟩
def w28TE0 (c : Code) (N : Nat) (x0 : UInt8) : Tree (Lf EE.T × Option Bool) :=
  .cond (decide ((b2i x0) ≥ (b2i 97)))
  (
    .cond (decide ((b2i x0) ≤ (b2i 122)))
    (
      .leaf (.done (w28enc true), some true))
    (
      .cond (decide ((b2i x0) ≥ (b2i 65)))
      (
        .cond (decide ((b2i x0) ≤ (b2i 90)))
        (
          .leaf (.done (w28enc true), some true))
        (
          .leaf (.done (w28enc ((b2i x0) == (b2i 95))), some ((b2i x0) == (b2i 95)))))
      (
        .leaf (.done (w28enc ((b2i x0) == (b2i 95))), some ((b2i x0) == (b2i 95))))))
  (
    .cond (decide ((b2i x0) ≥ (b2i 65)))
    (
      .cond (decide ((b2i x0) ≤ (b2i 90)))
      (
        .leaf (.done (w28enc true), some true))
      (
        .leaf (.done (w28enc ((b2i x0) == (b2i 95))), some ((b2i x0) == (b2i 95)))))
    (
      .leaf (.done (w28enc ((b2i x0) == (b2i 95))), some ((b2i x0) == (b2i 95)))))
theorem w28vE0 (N : Nat) (x0 : UInt8) : evM TT EE (w28G N) w28lv w28rs 4000 true (w28kE0 (bodyOf 0 Tryz.f28)) (w28sE0 x0) = (w28TE0 (bodyOf 0 Tryz.f28) N x0).map1 := by kernel_rfl
theorem w28nE0 (N : Nat) (x0 : UInt8) : ref_IsLetter N x0 = (w28TE0 (bodyOf 0 Tryz.f28) N x0).run := by kernel_rfl
theorem w28oE0 {N : Nat} {r : Bool} (x0 : UInt8) (h : ref_IsLetter N x0 = some r) : Ends (Y := TT) EE (w28G N) w28lv w28rs (fun u => u = w28enc r) (w28kE0 (bodyOf 0 Tryz.f28)) (w28sE0 x0) :=
  tree_use (w28vE0 N x0) (w28nE0 N x0) h (show (w28TE0 (bodyOf 0 Tryz.f28) N x0).all _ from ⟨⟨retp (enc := w28enc) rfl, ⟨⟨retp (enc := w28enc) rfl, retp (enc := w28enc) rfl⟩, retp (enc := w28enc) rfl⟩⟩, ⟨⟨retp (enc := w28enc) rfl, retp (enc := w28enc) rfl⟩, retp (enc := w28enc) rfl⟩⟩)
theorem ref_IsLetter_ok {N : Nat} (x0 : UInt8) {r : Bool} (h : ref_IsLetter N x0 = some r) (ρ : Nat → Nat) : ACalls Tryz.prog 28 (([.a (.d .byte x0)] : List (TV EE.T)).map (TV.to EE.toEnc ρ)) [] (fun out H => out = .ret ((ref_IsLetter_u r).to EE.toEnc ρ) ∧ H = []) :=
  (fn_ok (bodyOf 0 Tryz.f28) 21 mixed (w28Gok N) Tryz.func28 (by kernel_rfl) rfl rfl rfl rfl (w28oE0 x0 h) ρ).mono fun out H h => KPost.ret rfl h
def ref_IsLetter_h (N : Nat) : List (TV EE.T) → PV EE.T
  | [u0] => match argD .byte u0 with
    | some x0 => .opt (ref_IsLetter N x0) ref_IsLetter_u
    | _ => .bad
  | _ => .bad
theorem ref_IsLetter_hok (N : Nat) (us : List (TV EE.T)) : (ref_IsLetter_h N us).ok fun u => ∀ ρ, ACalls Tryz.prog 28 (us.map (TV.to EE.toEnc ρ)) [] (fun out H => out = .ret (u.to EE.toEnc ρ) ∧ H = []) := by
  unfold ref_IsLetter_h
  split
  · split
    · rename_i h0
      intro z hz ρ; refine acalls_le ?_ (ref_IsLetter_ok _ hz ρ); exact ⟨argD_le h0 ρ, trivial⟩
    · trivial
  · trivial
/-! ### gleaner/gleanerref.IsNumeral -/
def ref_IsNumeral_u (r : Bool) : TV EE.T := .a (.d .bool r)
def w29enc (r : Bool) : RL EE.T := .ret (ref_IsNumeral_u r) []
def w29lv : Lvs := ⟨[], [], [], [], false, [], []⟩
def w29rs : List ResultVar := [.tmp 2]
def w29G (N : Nat) : Gam EE := ⟨[], EQT, [], []⟩
theorem w29Gok (N : Nat) : GOk Tryz.prog TT EE (w29G N) := GOk.nil EQT_ok
def w29kE0 (c : Code) : List It2 := [.c c]
def w29sE0 (x0 : UInt8) : TS EE.T := ⟨9, [(0, .a (.d .byte x0))], [], []⟩
def w29TE0 (c : Code) (N : Nat) (x0 : UInt8) : Tree (Lf EE.T × Option Bool) :=
  .cond (decide ((b2i x0) ≥ (b2i 48)))
  (
    .leaf (.done (w29enc (decide ((b2i x0) ≤ (b2i 57)))), some (decide ((b2i x0) ≤ (b2i 57)))))
  (
    .leaf (.done (w29enc false), some false))
theorem w29vE0 (N : Nat) (x0 : UInt8) : evM TT EE (w29G N) w29lv w29rs 4000 true (w29kE0 (bodyOf 0 Tryz.f29)) (w29sE0 x0) = (w29TE0 (bodyOf 0 Tryz.f29) N x0).map1 := by kernel_rfl
theorem w29nE0 (N : Nat) (x0 : UInt8) : ref_IsNumeral N x0 = (w29TE0 (bodyOf 0 Tryz.f29) N x0).run := by kernel_rfl
theorem w29oE0 {N : Nat} {r : Bool} (x0 : UInt8) (h : ref_IsNumeral N x0 = some r) : Ends (Y := TT) EE (w29G N) w29lv w29rs (fun u => u = w29enc r) (w29kE0 (bodyOf 0 Tryz.f29)) (w29sE0 x0) :=
  tree_use (w29vE0 N x0) (w29nE0 N x0) h (show (w29TE0 (bodyOf 0 Tryz.f29) N x0).all _ from ⟨retp (enc := w29enc) rfl, retp (enc := w29enc) rfl⟩)
theorem ref_IsNumeral_ok {N : Nat} (x0 : UInt8) {r : Bool} (h : ref_IsNumeral N x0 = some r) (ρ : Nat → Nat) : ACalls Tryz.prog 29 (([.a (.d .byte x0)] : List (TV EE.T)).map (TV.to EE.toEnc ρ)) [] (fun out H => out = .ret ((ref_IsNumeral_u r).to EE.toEnc ρ) ∧ H = []) :=
  (fn_ok (bodyOf 0 Tryz.f29) 9 mixed (w29Gok N) Tryz.func29 (by kernel_rfl) rfl rfl rfl rfl (w29oE0 x0 h) ρ).mono fun out H h => KPost.ret rfl h
def ref_IsNumeral_h (N : Nat) : List (TV EE.T) → PV EE.T
  | [u0] => match argD .byte u0 with
    | some x0 => .opt (ref_IsNumeral N x0) ref_IsNumeral_u
    | _ => .bad
  | _ => .bad
theorem ref_IsNumeral_hok (N : Nat) (us : List (TV EE.T)) : (ref_IsNumeral_h N us).ok fun u => ∀ ρ, ACalls Tryz.prog 29 (us.map (TV.to EE.toEnc ρ)) [] (fun out H => out = .ret (u.to EE.toEnc ρ) ∧ H = []) := by
  unfold ref_IsNumeral_h
  split
  · split
    · rename_i h0
      intro z hz ρ; refine acalls_le ?_ (ref_IsNumeral_ok _ hz ρ); exact ⟨argD_le h0 ρ, trivial⟩
    · trivial
  · trivial
/-! ### gleaner/gleanerref.IsName -/
def ref_IsName_u (r : Bool) : TV EE.T := .a (.d .bool r)
def w18enc (r : Bool) : RL EE.T := .ret (ref_IsName_u r) []
def w18lv : Lvs := ⟨[(3, ⟨[(0, false), (3, false)], [], []⟩)], [(2, ⟨[(0, false), (3, false)], [], []⟩)], [3], [], false, [], []⟩
def w18rs : List ResultVar := [.tmp 2]
def w18G (N : Nat) : Gam EE := ⟨[⟨28, ref_IsLetter_h N⟩, ⟨29, ref_IsNumeral_h N⟩], EQT, [], []⟩
theorem w18Gok (N : Nat) : GOk Tryz.prog TT EE (w18G N) := GOk.cons (ref_IsLetter_hok N) (GOk.cons (ref_IsNumeral_hok N) (GOk.nil EQT_ok))
def w18kR3 (c : Code) : List It2 := atR 3 c
def w18sR3 (x0 : List UInt8) (x3 : Int) : TS EE.T := ⟨34, [(0, .a (.d .str x0)), (3, .a (.d (.int .i64) x3))], [], []⟩
def w18kL2 (c : Code) : List It2 := atL 2 c
def w18sL2 (x0 : List UInt8) (x3 : Int) : TS EE.T := ⟨34, [(0, .a (.d .str x0)), (3, .a (.d (.int .i64) x3))], [], []⟩
def w18kE0 (c : Code) : List It2 := [.c c]
def w18sE0 (x0 : List UInt8) : TS EE.T := ⟨34, [(0, .a (.d .str x0))], [], []⟩
def w18TR3 (c : Code) (N : Nat) (k2 : (List UInt8) → Int → Option Bool) (n : Nat) (x0 : List UInt8) (x3 : Int) : Tree (Lf EE.T × Option Bool) :=
  .leaf (.go (w18kL2 c) (w18sL2 x0 (w64 (x3 + 1))), k2 x0 (w64 (x3 + 1)))
theorem w18vR3 (N : Nat) (k2 : (List UInt8) → Int → Option Bool) (n : Nat) (x0 : List UInt8) (x3 : Int) : evM TT EE (w18G N) w18lv w18rs 4000 true (w18kR3 (bodyOf 0 Tryz.f18)) (w18sR3 x0 x3) = (w18TR3 (bodyOf 0 Tryz.f18) N k2 n x0 x3).map1 := by kernel_rfl
theorem w18nR3 (N : Nat) (k2 : (List UInt8) → Int → Option Bool) (n : Nat) (x0 : List UInt8) (x3 : Int) : ref_IsName_R3 N k2 n x0 x3 = (w18TR3 (bodyOf 0 Tryz.f18) N k2 n x0 x3).run := by kernel_rfl
theorem w18oR3 {N : Nat} {r : Bool} {k2 : (List UInt8) → Int → Option Bool} (hk2 : ∀ x0 x3, k2 x0 x3 = some r → Ends (Y := TT) EE (w18G N) w18lv w18rs (fun u => u = w18enc r) (w18kL2 (bodyOf 0 Tryz.f18)) (w18sL2 x0 x3)) (n : Nat) (x0 : List UInt8) (x3 : Int) (h : ref_IsName_R3 N k2 n x0 x3 = some r) : Ends (Y := TT) EE (w18G N) w18lv w18rs (fun u => u = w18enc r) (w18kR3 (bodyOf 0 Tryz.f18)) (w18sR3 x0 x3) :=
  tree_use (w18vR3 N k2 n x0 x3) (w18nR3 N k2 n x0 x3) h (show (w18TR3 (bodyOf 0 Tryz.f18) N k2 n x0 x3).all _ from fun h => hk2 _ _ h)
def w18TL2 (c : Code) (N : Nat) (n : Nat) (x0 : List UInt8) (x3 : Int) : Tree (Lf EE.T × Option Bool) :=
  .cond (decide (x3 < (x0.length : Int)))
  (
    .bnd (idxC x0 x3) fun z1 =>
    .bnd (ref_IsLetter N z1) fun z2 =>
    .cond (!z2)
    (
      .cond (x3 == 0)
      (
        .leaf (.done (w18enc false), some false))
      (
        .bnd (idxC x0 x3) fun z3 =>
        .bnd (ref_IsNumeral N z3) fun z4 =>
        .cond (!z4)
        (
          .leaf (.done (w18enc false), some false))
        (
          .leaf (.go (w18kR3 c) (w18sR3 x0 x3), ref_IsName_R3 N (ref_IsName_L2 N n) n x0 x3))))
    (
      .leaf (.go (w18kR3 c) (w18sR3 x0 x3), ref_IsName_R3 N (ref_IsName_L2 N n) n x0 x3)))
  (
    .cond (decide ((x0.length : Int) ≥ 1))
    (
      .leaf (.done (w18enc (decide ((x0.length : Int) ≤ 40))), some (decide ((x0.length : Int) ≤ 40))))
    (
      .leaf (.done (w18enc false), some false)))
theorem w18vL2 (N : Nat) (n : Nat) (x0 : List UInt8) (x3 : Int) : evM TT EE (w18G N) w18lv w18rs 4000 true (w18kL2 (bodyOf 0 Tryz.f18)) (w18sL2 x0 x3) = (w18TL2 (bodyOf 0 Tryz.f18) N n x0 x3).map1 := by kernel_rfl
theorem w18nL2 (N : Nat) (n : Nat) (x0 : List UInt8) (x3 : Int) : ref_IsName_L2 N (n + 1) x0 x3 = (w18TL2 (bodyOf 0 Tryz.f18) N n x0 x3).run := by kernel_rfl
theorem w18oL2 {N : Nat} {r : Bool} : ∀ (n : Nat) (x0 : List UInt8) (x3 : Int), ref_IsName_L2 N n x0 x3 = some r → Ends (Y := TT) EE (w18G N) w18lv w18rs (fun u => u = w18enc r) (w18kL2 (bodyOf 0 Tryz.f18)) (w18sL2 x0 x3)
  | 0, _, _, h => by cases h
  | n + 1, x0, x3, h => tree_use (w18vL2 N n x0 x3) (w18nL2 N n x0 x3) h (show (w18TL2 (bodyOf 0 Tryz.f18) N n x0 x3).all _ from ⟨fun _ => fun _ => ⟨⟨retp (enc := w18enc) rfl, fun _ => fun _ => ⟨retp (enc := w18enc) rfl, fun h => w18oR3 (w18oL2 n) n _ _ h⟩⟩, fun h => w18oR3 (w18oL2 n) n _ _ h⟩, ⟨retp (enc := w18enc) rfl, retp (enc := w18enc) rfl⟩⟩)
def w18TE0 (c : Code) (N : Nat) (x0 : List UInt8) : Tree (Lf EE.T × Option Bool) :=
  .leaf (.go (w18kL2 c) (w18sL2 x0 0), ref_IsName_L2 N N x0 0)
theorem w18vE0 (N : Nat) (x0 : List UInt8) : evM TT EE (w18G N) w18lv w18rs 4000 true (w18kE0 (bodyOf 0 Tryz.f18)) (w18sE0 x0) = (w18TE0 (bodyOf 0 Tryz.f18) N x0).map1 := by kernel_rfl
theorem w18nE0 (N : Nat) (x0 : List UInt8) : ref_IsName N x0 = (w18TE0 (bodyOf 0 Tryz.f18) N x0).run := by kernel_rfl
theorem w18oE0 {N : Nat} {r : Bool} (x0 : List UInt8) (h : ref_IsName N x0 = some r) : Ends (Y := TT) EE (w18G N) w18lv w18rs (fun u => u = w18enc r) (w18kE0 (bodyOf 0 Tryz.f18)) (w18sE0 x0) :=
  tree_use (w18vE0 N x0) (w18nE0 N x0) h (show (w18TE0 (bodyOf 0 Tryz.f18) N x0).all _ from fun h => w18oL2 N _ _ h)
theorem ref_IsName_ok {N : Nat} (x0 : List UInt8) {r : Bool} (h : ref_IsName N x0 = some r) (ρ : Nat → Nat) : ACalls Tryz.prog 18 (([.a (.d .str x0)] : List (TV EE.T)).map (TV.to EE.toEnc ρ)) [] (fun out H => out = .ret ((ref_IsName_u r).to EE.toEnc ρ) ∧ H = []) :=
  (fn_ok (bodyOf 0 Tryz.f18) 34 mixed (w18Gok N) Tryz.func18 (by kernel_rfl) rfl rfl rfl rfl (w18oE0 x0 h) ρ).mono fun out H h => KPost.ret rfl h
def ref_IsName_h (N : Nat) : List (TV EE.T) → PV EE.T
  | [u0] => match argD .str u0 with
    | some x0 => .opt (ref_IsName N x0) ref_IsName_u
    | _ => .bad
  | _ => .bad
theorem ref_IsName_hok (N : Nat) (us : List (TV EE.T)) : (ref_IsName_h N us).ok fun u => ∀ ρ, ACalls Tryz.prog 18 (us.map (TV.to EE.toEnc ρ)) [] (fun out H => out = .ret (u.to EE.toEnc ρ) ∧ H = []) := by
  unfold ref_IsName_h
  split
  · split
    · rename_i h0
      intro z hz ρ; refine acalls_le ?_ (ref_IsName_ok _ hz ρ); exact ⟨argD_le h0 ρ, trivial⟩
    · trivial
  · trivial
/-! ### gleaner/gleanerref.EachLabel -/
def ref_EachLabel_u (r : Int) : TV EE.T := .a (.d (.int .i64) r)
def w10enc (r : Int) : RL EE.T := .ret (ref_EachLabel_u r) []
def w10lv : Lvs := ⟨[(8, ⟨[(0, false), (1, false), (5, false)], [], []⟩), (16, ⟨[(0, false), (6, false), (7, false)], [], []⟩)], [(4, ⟨[(0, false), (1, false), (5, false)], [], []⟩), (11, ⟨[(0, false), (6, false)], [], []⟩), (14, ⟨[(0, false), (6, false), (7, false)], [], []⟩)], [8], [], false, [], []⟩
def w10rs : List ResultVar := [.tmp 4]
def w10G (N : Nat) : Gam EE := ⟨[⟨18, ref_IsName_h N⟩], EQT, [], []⟩
theorem w10Gok (N : Nat) : GOk Tryz.prog TT EE (w10G N) := GOk.cons (ref_IsName_hok N) (GOk.nil EQT_ok)
def w10kR8 (c : Code) : List It2 := atR 8 c
def w10sR8 (x0 : List VLabel) (x1 : Bool) (x5 : Int) : TS EE.T := ⟨65, [(0, .a (.d (.sl (.nam 2)) x0)), (1, .a (.d .bool x1)), (5, .a (.d (.int .i64) x5))], [], []⟩
def w10kL14 (c : Code) : List It2 := atL 14 c
def w10sL14 (x0 : List VLabel) (x6 : Int) (x7 : Int) : TS EE.T := ⟨65, [(0, .a (.d (.sl (.nam 2)) x0)), (6, .a (.d (.int .i64) x6)), (7, .a (.d (.int .i64) x7))], [], []⟩
def w10kL11 (c : Code) : List It2 := atL 11 c
def w10sL11 (x0 : List VLabel) (x6 : Int) : TS EE.T := ⟨65, [(0, .a (.d (.sl (.nam 2)) x0)), (6, .a (.d (.int .i64) x6))], [], []⟩
def w10kL4 (c : Code) : List It2 := atL 4 c
def w10sL4 (x0 : List VLabel) (x1 : Bool) (x5 : Int) : TS EE.T := ⟨65, [(0, .a (.d (.sl (.nam 2)) x0)), (1, .a (.d .bool x1)), (5, .a (.d (.int .i64) x5))], [], []⟩
def w10kE0 (c : Code) : List It2 := [.c c]
def w10sE0 (x0 : List VLabel) (x1 : Bool) : TS EE.T := ⟨65, [(0, .a (.d (.sl (.nam 2)) x0)), (1, .a (.d .bool x1))], [], []⟩
def w10TR8 (c : Code) (N : Nat) (k4 : (List VLabel) → Bool → Int → Option Int) (n : Nat) (x0 : List VLabel) (x1 : Bool) (x5 : Int) : Tree (Lf EE.T × Option Int) :=
  .bnd (idxC x0 x5) fun z4 =>
  .cond (decide ((z4.Value.length : Int) > 100))
  (
    .leaf (.done (w10enc 2), some 2))
  (
    .leaf (.go (w10kL4 c) (w10sL4 x0 x1 (w64 (x5 + 1))), k4 x0 x1 (w64 (x5 + 1))))
theorem w10vR8 (N : Nat) (k4 : (List VLabel) → Bool → Int → Option Int) (n : Nat) (x0 : List VLabel) (x1 : Bool) (x5 : Int) : evM TT EE (w10G N) w10lv w10rs 4000 true (w10kR8 (bodyOf 0 Tryz.f10)) (w10sR8 x0 x1 x5) = (w10TR8 (bodyOf 0 Tryz.f10) N k4 n x0 x1 x5).map1 := by kernel_rfl
theorem w10nR8 (N : Nat) (k4 : (List VLabel) → Bool → Int → Option Int) (n : Nat) (x0 : List VLabel) (x1 : Bool) (x5 : Int) : ref_EachLabel_R8 N k4 n x0 x1 x5 = (w10TR8 (bodyOf 0 Tryz.f10) N k4 n x0 x1 x5).run := by kernel_rfl
theorem w10oR8 {N : Nat} {r : Int} {k4 : (List VLabel) → Bool → Int → Option Int} (hk4 : ∀ x0 x1 x5, k4 x0 x1 x5 = some r → Ends (Y := TT) EE (w10G N) w10lv w10rs (fun u => u = w10enc r) (w10kL4 (bodyOf 0 Tryz.f10)) (w10sL4 x0 x1 x5)) (n : Nat) (x0 : List VLabel) (x1 : Bool) (x5 : Int) (h : ref_EachLabel_R8 N k4 n x0 x1 x5 = some r) : Ends (Y := TT) EE (w10G N) w10lv w10rs (fun u => u = w10enc r) (w10kR8 (bodyOf 0 Tryz.f10)) (w10sR8 x0 x1 x5) :=
  tree_use (w10vR8 N k4 n x0 x1 x5) (w10nR8 N k4 n x0 x1 x5) h (show (w10TR8 (bodyOf 0 Tryz.f10) N k4 n x0 x1 x5).all _ from fun _ => ⟨retp (enc := w10enc) rfl, fun h => hk4 _ _ _ h⟩)
def w10TL14 (c : Code) (N : Nat) (k11 : (List VLabel) → Int → Option Int) (n : Nat) (x0 : List VLabel) (x6 : Int) (x7 : Int) : Tree (Lf EE.T × Option Int) :=
  .cond (decide (x7 < x6))
  (
    .bnd (idxC x0 x7) fun z5 =>
    .bnd (idxC x0 x6) fun z6 =>
    .cond (decide (z5.Name = z6.Name))
    (
      .leaf (.done (w10enc 6), some 6))
    (
      .leaf (.go (w10kL14 c) (w10sL14 x0 x6 (w64 (x7 + 1))), ref_EachLabel_L14 N k11 n x0 x6 (w64 (x7 + 1)))))
  (
    .leaf (.go (w10kL11 c) (w10sL11 x0 (w64 (x6 + 1))), k11 x0 (w64 (x6 + 1))))
theorem w10vL14 (N : Nat) (k11 : (List VLabel) → Int → Option Int) (n : Nat) (x0 : List VLabel) (x6 : Int) (x7 : Int) : evM TT EE (w10G N) w10lv w10rs 4000 true (w10kL14 (bodyOf 0 Tryz.f10)) (w10sL14 x0 x6 x7) = (w10TL14 (bodyOf 0 Tryz.f10) N k11 n x0 x6 x7).map1 := by kernel_rfl
theorem w10nL14 (N : Nat) (k11 : (List VLabel) → Int → Option Int) (n : Nat) (x0 : List VLabel) (x6 : Int) (x7 : Int) : ref_EachLabel_L14 N k11 (n + 1) x0 x6 x7 = (w10TL14 (bodyOf 0 Tryz.f10) N k11 n x0 x6 x7).run := by kernel_rfl
theorem w10oL14 {N : Nat} {r : Int} {k11 : (List VLabel) → Int → Option Int} (hk11 : ∀ x0 x6, k11 x0 x6 = some r → Ends (Y := TT) EE (w10G N) w10lv w10rs (fun u => u = w10enc r) (w10kL11 (bodyOf 0 Tryz.f10)) (w10sL11 x0 x6)) : ∀ (n : Nat) (x0 : List VLabel) (x6 : Int) (x7 : Int), ref_EachLabel_L14 N k11 n x0 x6 x7 = some r → Ends (Y := TT) EE (w10G N) w10lv w10rs (fun u => u = w10enc r) (w10kL14 (bodyOf 0 Tryz.f10)) (w10sL14 x0 x6 x7)
  | 0, _, _, _, h => by cases h
  | n + 1, x0, x6, x7, h => tree_use (w10vL14 N k11 n x0 x6 x7) (w10nL14 N k11 n x0 x6 x7) h (show (w10TL14 (bodyOf 0 Tryz.f10) N k11 n x0 x6 x7).all _ from ⟨fun _ => fun _ => ⟨retp (enc := w10enc) rfl, fun h => (w10oL14 hk11 n) _ _ _ h⟩, fun h => hk11 _ _ h⟩)
def w10TL11 (c : Code) (N : Nat) (n : Nat) (x0 : List VLabel) (x6 : Int) : Tree (Lf EE.T × Option Int) :=
  .cond (decide (x6 < (x0.length : Int)))
  (
    .leaf (.go (w10kL14 c) (w10sL14 x0 x6 0), ref_EachLabel_L14 N (ref_EachLabel_L11 N n) n x0 x6 0))
  (
    .leaf (.done (w10enc 0), some 0))
theorem w10vL11 (N : Nat) (n : Nat) (x0 : List VLabel) (x6 : Int) : evM TT EE (w10G N) w10lv w10rs 4000 true (w10kL11 (bodyOf 0 Tryz.f10)) (w10sL11 x0 x6) = (w10TL11 (bodyOf 0 Tryz.f10) N n x0 x6).map1 := by kernel_rfl
theorem w10nL11 (N : Nat) (n : Nat) (x0 : List VLabel) (x6 : Int) : ref_EachLabel_L11 N (n + 1) x0 x6 = (w10TL11 (bodyOf 0 Tryz.f10) N n x0 x6).run := by kernel_rfl
theorem w10oL11 {N : Nat} {r : Int} : ∀ (n : Nat) (x0 : List VLabel) (x6 : Int), ref_EachLabel_L11 N n x0 x6 = some r → Ends (Y := TT) EE (w10G N) w10lv w10rs (fun u => u = w10enc r) (w10kL11 (bodyOf 0 Tryz.f10)) (w10sL11 x0 x6)
  | 0, _, _, h => by cases h
  | n + 1, x0, x6, h => tree_use (w10vL11 N n x0 x6) (w10nL11 N n x0 x6) h (show (w10TL11 (bodyOf 0 Tryz.f10) N n x0 x6).all _ from ⟨fun h => w10oL14 (w10oL11 n) n _ _ _ h, retp (enc := w10enc) rfl⟩)
def w10TL4 (c : Code) (N : Nat) (n : Nat) (x0 : List VLabel) (x1 : Bool) (x5 : Int) : Tree (Lf EE.T × Option Int) :=
  .cond (decide (x5 < (x0.length : Int)))
  (
    .bnd (idxC x0 x5) fun z1 =>
    .bnd (ref_IsName N z1.Name) fun z2 =>
    .cond (!z2)
    (
      .leaf (.done (w10enc 1), some 1))
    (
      .bnd (idxC x0 x5) fun z3 =>
      .cond (decide (z3.Value = ([] : List UInt8)))
      (
        .cond (!x1)
        (
          .leaf (.done (w10enc 1), some 1))
        (
          .leaf (.go (w10kR8 c) (w10sR8 x0 x1 x5), ref_EachLabel_R8 N (ref_EachLabel_L4 N n) n x0 x1 x5)))
      (
        .leaf (.go (w10kR8 c) (w10sR8 x0 x1 x5), ref_EachLabel_R8 N (ref_EachLabel_L4 N n) n x0 x1 x5))))
  (
    .leaf (.go (w10kL11 c) (w10sL11 x0 0), ref_EachLabel_L11 N n x0 0))
theorem w10vL4 (N : Nat) (n : Nat) (x0 : List VLabel) (x1 : Bool) (x5 : Int) : evM TT EE (w10G N) w10lv w10rs 4000 true (w10kL4 (bodyOf 0 Tryz.f10)) (w10sL4 x0 x1 x5) = (w10TL4 (bodyOf 0 Tryz.f10) N n x0 x1 x5).map1 := by kernel_rfl
theorem w10nL4 (N : Nat) (n : Nat) (x0 : List VLabel) (x1 : Bool) (x5 : Int) : ref_EachLabel_L4 N (n + 1) x0 x1 x5 = (w10TL4 (bodyOf 0 Tryz.f10) N n x0 x1 x5).run := by kernel_rfl
theorem w10oL4 {N : Nat} {r : Int} : ∀ (n : Nat) (x0 : List VLabel) (x1 : Bool) (x5 : Int), ref_EachLabel_L4 N n x0 x1 x5 = some r → Ends (Y := TT) EE (w10G N) w10lv w10rs (fun u => u = w10enc r) (w10kL4 (bodyOf 0 Tryz.f10)) (w10sL4 x0 x1 x5)
  | 0, _, _, _, h => by cases h
  | n + 1, x0, x1, x5, h => tree_use (w10vL4 N n x0 x1 x5) (w10nL4 N n x0 x1 x5) h (show (w10TL4 (bodyOf 0 Tryz.f10) N n x0 x1 x5).all _ from ⟨fun _ => fun _ => ⟨retp (enc := w10enc) rfl, fun _ => ⟨⟨retp (enc := w10enc) rfl, fun h => w10oR8 (w10oL4 n) n _ _ _ h⟩, fun h => w10oR8 (w10oL4 n) n _ _ _ h⟩⟩, fun h => w10oL11 n _ _ h⟩)
def w10TE0 (c : Code) (N : Nat) (x0 : List VLabel) (x1 : Bool) : Tree (Lf EE.T × Option Int) :=
  .cond (decide ((x0.length : Int) > 20))
  (
    .leaf (.done (w10enc 2), some 2))
  (
    .leaf (.go (w10kL4 c) (w10sL4 x0 x1 0), ref_EachLabel_L4 N N x0 x1 0))
theorem w10vE0 (N : Nat) (x0 : List VLabel) (x1 : Bool) : evM TT EE (w10G N) w10lv w10rs 4000 true (w10kE0 (bodyOf 0 Tryz.f10)) (w10sE0 x0 x1) = (w10TE0 (bodyOf 0 Tryz.f10) N x0 x1).map1 := by kernel_rfl
theorem w10nE0 (N : Nat) (x0 : List VLabel) (x1 : Bool) : ref_EachLabel N x0 x1 = (w10TE0 (bodyOf 0 Tryz.f10) N x0 x1).run := by kernel_rfl
theorem w10oE0 {N : Nat} {r : Int} (x0 : List VLabel) (x1 : Bool) (h : ref_EachLabel N x0 x1 = some r) : Ends (Y := TT) EE (w10G N) w10lv w10rs (fun u => u = w10enc r) (w10kE0 (bodyOf 0 Tryz.f10)) (w10sE0 x0 x1) :=
  tree_use (w10vE0 N x0 x1) (w10nE0 N x0 x1) h (show (w10TE0 (bodyOf 0 Tryz.f10) N x0 x1).all _ from ⟨retp (enc := w10enc) rfl, fun h => w10oL4 N _ _ _ h⟩)
theorem ref_EachLabel_ok {N : Nat} (x0 : List VLabel) (x1 : Bool) {r : Int} (h : ref_EachLabel N x0 x1 = some r) (ρ : Nat → Nat) : ACalls Tryz.prog 10 (([.a (.d (.sl (.nam 2)) x0), .a (.d .bool x1)] : List (TV EE.T)).map (TV.to EE.toEnc ρ)) [] (fun out H => out = .ret ((ref_EachLabel_u r).to EE.toEnc ρ) ∧ H = []) :=
  (fn_ok (bodyOf 0 Tryz.f10) 65 mixed (w10Gok N) Tryz.func10 (by kernel_rfl) rfl rfl rfl rfl (w10oE0 x0 x1 h) ρ).mono fun out H h => KPost.ret rfl h
def ref_EachLabel_h (N : Nat) : List (TV EE.T) → PV EE.T
  | [u0, u1] => match argD (.sl (.nam 2)) u0, argD .bool u1 with
    | some x0, some x1 => .opt (ref_EachLabel N x0 x1) ref_EachLabel_u
    | _, _ => .bad
  | _ => .bad
theorem ref_EachLabel_hok (N : Nat) (us : List (TV EE.T)) : (ref_EachLabel_h N us).ok fun u => ∀ ρ, ACalls Tryz.prog 10 (us.map (TV.to EE.toEnc ρ)) [] (fun out H => out = .ret (u.to EE.toEnc ρ) ∧ H = []) := by
  unfold ref_EachLabel_h
  split
  · split
    · rename_i h0 h1
      intro z hz ρ; refine acalls_le ?_ (ref_EachLabel_ok _ _ hz ρ); exact ⟨argD_le h0 ρ, argD_le h1 ρ, trivial⟩
    · trivial
  · trivial
/-! ### gleaner/gleanerref.CheckLabels -/
def ref_CheckLabels_u (r : Int) : TV EE.T := .a (.d (.int .i64) r)
def w5enc (r : Int) : RL EE.T := .ret (ref_CheckLabels_u r) []
def w5lv : Lvs := ⟨[(4, ⟨[(0, false), (3, false), (4, false)], [], []⟩), (5, ⟨[(0, false), (3, false), (4, false)], [], []⟩)], [(3, ⟨[(0, false), (3, false), (4, false)], [], []⟩)], [4], [], false, [], []⟩
def w5rs : List ResultVar := [.tmp 2]
def w5G (N : Nat) : Gam EE := ⟨[⟨10, ref_EachLabel_h N⟩], EQT, [], []⟩
theorem w5Gok (N : Nat) : GOk Tryz.prog TT EE (w5G N) := GOk.cons (ref_EachLabel_hok N) (GOk.nil EQT_ok)
def w5kR4 (c : Code) : List It2 := atR 4 c
def w5sR4 (x0 : List VLabel) (x3 : Int) (x4 : Int) : TS EE.T := ⟨30, [(0, .a (.d (.sl (.nam 2)) x0)), (3, .a (.d (.int .i64) x3)), (4, .a (.d (.int .i64) x4))], [], []⟩
def w5kL3 (c : Code) : List It2 := atL 3 c
def w5sL3 (x0 : List VLabel) (x3 : Int) (x4 : Int) : TS EE.T := ⟨30, [(0, .a (.d (.sl (.nam 2)) x0)), (3, .a (.d (.int .i64) x3)), (4, .a (.d (.int .i64) x4))], [], []⟩
def w5kE0 (c : Code) : List It2 := [.c c]
def w5sE0 (x0 : List VLabel) : TS EE.T := ⟨30, [(0, .a (.d (.sl (.nam 2)) x0))], [], []⟩
def w5TR4 (c : Code) (N : Nat) (k3 : (List VLabel) → Int → Int → Option Int) (n : Nat) (x0 : List VLabel) (x3 : Int) (x4 : Int) : Tree (Lf EE.T × Option Int) :=
  .leaf (.go (w5kL3 c) (w5sL3 x0 x3 (w64 (x4 + 1))), k3 x0 x3 (w64 (x4 + 1)))
theorem w5vR4 (N : Nat) (k3 : (List VLabel) → Int → Int → Option Int) (n : Nat) (x0 : List VLabel) (x3 : Int) (x4 : Int) : evM TT EE (w5G N) w5lv w5rs 4000 true (w5kR4 (bodyOf 0 Tryz.f5)) (w5sR4 x0 x3 x4) = (w5TR4 (bodyOf 0 Tryz.f5) N k3 n x0 x3 x4).map1 := by kernel_rfl
theorem w5nR4 (N : Nat) (k3 : (List VLabel) → Int → Int → Option Int) (n : Nat) (x0 : List VLabel) (x3 : Int) (x4 : Int) : ref_CheckLabels_R4 N k3 n x0 x3 x4 = (w5TR4 (bodyOf 0 Tryz.f5) N k3 n x0 x3 x4).run := by kernel_rfl
theorem w5oR4 {N : Nat} {r : Int} {k3 : (List VLabel) → Int → Int → Option Int} (hk3 : ∀ x0 x3 x4, k3 x0 x3 x4 = some r → Ends (Y := TT) EE (w5G N) w5lv w5rs (fun u => u = w5enc r) (w5kL3 (bodyOf 0 Tryz.f5)) (w5sL3 x0 x3 x4)) (n : Nat) (x0 : List VLabel) (x3 : Int) (x4 : Int) (h : ref_CheckLabels_R4 N k3 n x0 x3 x4 = some r) : Ends (Y := TT) EE (w5G N) w5lv w5rs (fun u => u = w5enc r) (w5kR4 (bodyOf 0 Tryz.f5)) (w5sR4 x0 x3 x4) :=
  tree_use (w5vR4 N k3 n x0 x3 x4) (w5nR4 N k3 n x0 x3 x4) h (show (w5TR4 (bodyOf 0 Tryz.f5) N k3 n x0 x3 x4).all _ from fun h => hk3 _ _ _ h)
def w5TL3 (c : Code) (N : Nat) (n : Nat) (x0 : List VLabel) (x3 : Int) (x4 : Int) : Tree (Lf EE.T × Option Int) :=
  .cond (decide (x4 < (x0.length : Int)))
  (
    .cond (x3 == 0)
    (
      .bnd (idxC x0 x4) fun z2 =>
      .bnd (idxC x0 (w64 (x4 - 1))) fun z3 =>
      .cond (Op.bytesLess z2.Name z3.Name)
      (
        .leaf (.go (w5kR4 c) (w5sR4 x0 4 x4), ref_CheckLabels_R4 N (ref_CheckLabels_L3 N n) n x0 4 x4))
      (
        .leaf (.go (w5kR4 c) (w5sR4 x0 x3 x4), ref_CheckLabels_R4 N (ref_CheckLabels_L3 N n) n x0 x3 x4)))
    (
      .leaf (.done (w5enc x3), some x3)))
  (
    .leaf (.done (w5enc x3), some x3))
theorem w5vL3 (N : Nat) (n : Nat) (x0 : List VLabel) (x3 : Int) (x4 : Int) : evM TT EE (w5G N) w5lv w5rs 4000 true (w5kL3 (bodyOf 0 Tryz.f5)) (w5sL3 x0 x3 x4) = (w5TL3 (bodyOf 0 Tryz.f5) N n x0 x3 x4).map1 := by kernel_rfl
theorem w5nL3 (N : Nat) (n : Nat) (x0 : List VLabel) (x3 : Int) (x4 : Int) : ref_CheckLabels_L3 N (n + 1) x0 x3 x4 = (w5TL3 (bodyOf 0 Tryz.f5) N n x0 x3 x4).run := by kernel_rfl
theorem w5oL3 {N : Nat} {r : Int} : ∀ (n : Nat) (x0 : List VLabel) (x3 : Int) (x4 : Int), ref_CheckLabels_L3 N n x0 x3 x4 = some r → Ends (Y := TT) EE (w5G N) w5lv w5rs (fun u => u = w5enc r) (w5kL3 (bodyOf 0 Tryz.f5)) (w5sL3 x0 x3 x4)
  | 0, _, _, _, h => by cases h
  | n + 1, x0, x3, x4, h => tree_use (w5vL3 N n x0 x3 x4) (w5nL3 N n x0 x3 x4) h (show (w5TL3 (bodyOf 0 Tryz.f5) N n x0 x3 x4).all _ from ⟨⟨fun _ => fun _ => ⟨fun h => w5oR4 (w5oL3 n) n _ _ _ h, fun h => w5oR4 (w5oL3 n) n _ _ _ h⟩, retp (enc := w5enc) rfl⟩, retp (enc := w5enc) rfl⟩)
def w5TE0 (c : Code) (N : Nat) (x0 : List VLabel) : Tree (Lf EE.T × Option Int) :=
  .bnd (ref_EachLabel N x0 false) fun z1 =>
  .leaf (.go (w5kL3 c) (w5sL3 x0 z1 1), ref_CheckLabels_L3 N N x0 z1 1)
theorem w5vE0 (N : Nat) (x0 : List VLabel) : evM TT EE (w5G N) w5lv w5rs 4000 true (w5kE0 (bodyOf 0 Tryz.f5)) (w5sE0 x0) = (w5TE0 (bodyOf 0 Tryz.f5) N x0).map1 := by kernel_rfl
theorem w5nE0 (N : Nat) (x0 : List VLabel) : ref_CheckLabels N x0 = (w5TE0 (bodyOf 0 Tryz.f5) N x0).run := by kernel_rfl
theorem w5oE0 {N : Nat} {r : Int} (x0 : List VLabel) (h : ref_CheckLabels N x0 = some r) : Ends (Y := TT) EE (w5G N) w5lv w5rs (fun u => u = w5enc r) (w5kE0 (bodyOf 0 Tryz.f5)) (w5sE0 x0) :=
  tree_use (w5vE0 N x0) (w5nE0 N x0) h (show (w5TE0 (bodyOf 0 Tryz.f5) N x0).all _ from fun _ => fun h => w5oL3 N _ _ _ h)
theorem ref_CheckLabels_ok {N : Nat} (x0 : List VLabel) {r : Int} (h : ref_CheckLabels N x0 = some r) (ρ : Nat → Nat) : ACalls Tryz.prog 5 (([.a (.d (.sl (.nam 2)) x0)] : List (TV EE.T)).map (TV.to EE.toEnc ρ)) [] (fun out H => out = .ret ((ref_CheckLabels_u r).to EE.toEnc ρ) ∧ H = []) :=
  (fn_ok (bodyOf 0 Tryz.f5) 30 mixed (w5Gok N) Tryz.func5 (by kernel_rfl) rfl rfl rfl rfl (w5oE0 x0 h) ρ).mono fun out H h => KPost.ret rfl h
def ref_CheckLabels_h (N : Nat) : List (TV EE.T) → PV EE.T
  | [u0] => match argD (.sl (.nam 2)) u0 with
    | some x0 => .opt (ref_CheckLabels N x0) ref_CheckLabels_u
    | _ => .bad
  | _ => .bad
theorem ref_CheckLabels_hok (N : Nat) (us : List (TV EE.T)) : (ref_CheckLabels_h N us).ok fun u => ∀ ρ, ACalls Tryz.prog 5 (us.map (TV.to EE.toEnc ρ)) [] (fun out H => out = .ret (u.to EE.toEnc ρ) ∧ H = []) := by
  unfold ref_CheckLabels_h
  split
  · split
    · rename_i h0
      intro z hz ρ; refine acalls_le ?_ (ref_CheckLabels_ok _ hz ρ); exact ⟨argD_le h0 ρ, trivial⟩
    · trivial
  · trivial
/-! ### gleaner/gleanerref.Order -/
def ref_Order_u (r : Int) : TV EE.T := .a (.d (.int .i64) r)
def w6enc (r : Int) : RL EE.T := .ret (ref_Order_u r) []
def w6lv : Lvs := ⟨[(4, ⟨[(0, false), (1, false), (5, false)], [], []⟩), (6, ⟨[(0, false), (1, false), (5, false)], [], []⟩), (7, ⟨[(0, false), (1, false), (5, false), (6, false), (7, false)], [], []⟩), (11, ⟨[(0, false), (1, false)], [], []⟩)], [(2, ⟨[(0, false), (1, false), (5, false)], [], []⟩)], [7, 11], [], false, [], []⟩
def w6rs : List ResultVar := [.tmp 4]
def w6G (N : Nat) : Gam EE := ⟨[], EQT, [], []⟩
theorem w6Gok (N : Nat) : GOk Tryz.prog TT EE (w6G N) := GOk.nil EQT_ok
def w6kR7 (c : Code) : List It2 := atR 7 c
def w6sR7 (x0 : List VLabel) (x1 : List VLabel) (x5 : Int) (x6 : List UInt8) (x7 : List UInt8) : TS EE.T := ⟨61, [(0, .a (.d (.sl (.nam 2)) x0)), (1, .a (.d (.sl (.nam 2)) x1)), (5, .a (.d (.int .i64) x5)), (6, .a (.d .str x6)), (7, .a (.d .str x7))], [], []⟩
def w6kR11 (c : Code) : List It2 := atR 11 c
def w6sR11 (x0 : List VLabel) (x1 : List VLabel) : TS EE.T := ⟨61, [(0, .a (.d (.sl (.nam 2)) x0)), (1, .a (.d (.sl (.nam 2)) x1))], [], []⟩
def w6kL2 (c : Code) : List It2 := atL 2 c
def w6sL2 (x0 : List VLabel) (x1 : List VLabel) (x5 : Int) : TS EE.T := ⟨61, [(0, .a (.d (.sl (.nam 2)) x0)), (1, .a (.d (.sl (.nam 2)) x1)), (5, .a (.d (.int .i64) x5))], [], []⟩
def w6kE0 (c : Code) : List It2 := [.c c]
def w6sE0 (x0 : List VLabel) (x1 : List VLabel) : TS EE.T := ⟨61, [(0, .a (.d (.sl (.nam 2)) x0)), (1, .a (.d (.sl (.nam 2)) x1))], [], []⟩
def w6TR7 (c : Code) (N : Nat) (k2 : (List VLabel) → (List VLabel) → Int → Option Int) (n : Nat) (x0 : List VLabel) (x1 : List VLabel) (x5 : Int) (x6 : List UInt8) (x7 : List UInt8) : Tree (Lf EE.T × Option Int) :=
  .cond (Op.bytesLess x6 x7)
  (
    .leaf (.done (w6enc (-1)), some (-1)))
  (
    .cond (!(Op.bytesLess x6 x7 || decide (x6 = x7)))
    (
      .leaf (.done (w6enc 1), some 1))
    (
      .leaf (.go (w6kL2 c) (w6sL2 x0 x1 (w64 (x5 + 1))), k2 x0 x1 (w64 (x5 + 1)))))
theorem w6vR7 (N : Nat) (k2 : (List VLabel) → (List VLabel) → Int → Option Int) (n : Nat) (x0 : List VLabel) (x1 : List VLabel) (x5 : Int) (x6 : List UInt8) (x7 : List UInt8) : evM TT EE (w6G N) w6lv w6rs 4000 true (w6kR7 (bodyOf 0 Tryz.f6)) (w6sR7 x0 x1 x5 x6 x7) = (w6TR7 (bodyOf 0 Tryz.f6) N k2 n x0 x1 x5 x6 x7).map1 := by kernel_rfl
theorem w6nR7 (N : Nat) (k2 : (List VLabel) → (List VLabel) → Int → Option Int) (n : Nat) (x0 : List VLabel) (x1 : List VLabel) (x5 : Int) (x6 : List UInt8) (x7 : List UInt8) : ref_Order_R7 N k2 n x0 x1 x5 x6 x7 = (w6TR7 (bodyOf 0 Tryz.f6) N k2 n x0 x1 x5 x6 x7).run := by kernel_rfl
theorem w6oR7 {N : Nat} {r : Int} {k2 : (List VLabel) → (List VLabel) → Int → Option Int} (hk2 : ∀ x0 x1 x5, k2 x0 x1 x5 = some r → Ends (Y := TT) EE (w6G N) w6lv w6rs (fun u => u = w6enc r) (w6kL2 (bodyOf 0 Tryz.f6)) (w6sL2 x0 x1 x5)) (n : Nat) (x0 : List VLabel) (x1 : List VLabel) (x5 : Int) (x6 : List UInt8) (x7 : List UInt8) (h : ref_Order_R7 N k2 n x0 x1 x5 x6 x7 = some r) : Ends (Y := TT) EE (w6G N) w6lv w6rs (fun u => u = w6enc r) (w6kR7 (bodyOf 0 Tryz.f6)) (w6sR7 x0 x1 x5 x6 x7) :=
  tree_use (w6vR7 N k2 n x0 x1 x5 x6 x7) (w6nR7 N k2 n x0 x1 x5 x6 x7) h (show (w6TR7 (bodyOf 0 Tryz.f6) N k2 n x0 x1 x5 x6 x7).all _ from ⟨retp (enc := w6enc) rfl, ⟨retp (enc := w6enc) rfl, fun h => hk2 _ _ _ h⟩⟩)
def w6TR11 (c : Code) (N : Nat) (n : Nat) (x0 : List VLabel) (x1 : List VLabel) : Tree (Lf EE.T × Option Int) :=
  .cond (decide ((x0.length : Int) < (x1.length : Int)))
  (
    .leaf (.done (w6enc (-1)), some (-1)))
  (
    .cond (decide ((x0.length : Int) > (x1.length : Int)))
    (
      .leaf (.done (w6enc 1), some 1))
    (
      .leaf (.done (w6enc 0), some 0)))
theorem w6vR11 (N : Nat) (n : Nat) (x0 : List VLabel) (x1 : List VLabel) : evM TT EE (w6G N) w6lv w6rs 4000 true (w6kR11 (bodyOf 0 Tryz.f6)) (w6sR11 x0 x1) = (w6TR11 (bodyOf 0 Tryz.f6) N n x0 x1).map1 := by kernel_rfl
theorem w6nR11 (N : Nat) (n : Nat) (x0 : List VLabel) (x1 : List VLabel) : ref_Order_R11 N n x0 x1 = (w6TR11 (bodyOf 0 Tryz.f6) N n x0 x1).run := by kernel_rfl
theorem w6oR11 {N : Nat} {r : Int} (n : Nat) (x0 : List VLabel) (x1 : List VLabel) (h : ref_Order_R11 N n x0 x1 = some r) : Ends (Y := TT) EE (w6G N) w6lv w6rs (fun u => u = w6enc r) (w6kR11 (bodyOf 0 Tryz.f6)) (w6sR11 x0 x1) :=
  tree_use (w6vR11 N n x0 x1) (w6nR11 N n x0 x1) h (show (w6TR11 (bodyOf 0 Tryz.f6) N n x0 x1).all _ from ⟨retp (enc := w6enc) rfl, ⟨retp (enc := w6enc) rfl, retp (enc := w6enc) rfl⟩⟩)
def w6TL2 (c : Code) (N : Nat) (n : Nat) (x0 : List VLabel) (x1 : List VLabel) (x5 : Int) : Tree (Lf EE.T × Option Int) :=
  .cond (decide (x5 < (x0.length : Int)))
  (
    .cond (decide (x5 < (x1.length : Int)))
    (
      .bnd (idxC x0 x5) fun z1 =>
      .bnd (idxC x1 x5) fun z2 =>
      .cond (decide (z1.Name = z2.Name))
      (
        .bnd (idxC x0 x5) fun z3 =>
        .bnd (idxC x1 x5) fun z4 =>
        .leaf (.go (w6kR7 c) (w6sR7 x0 x1 x5 z3.Value z4.Value), ref_Order_R7 N (ref_Order_L2 N n) n x0 x1 x5 z3.Value z4.Value))
      (
        .leaf (.go (w6kR7 c) (w6sR7 x0 x1 x5 z1.Name z2.Name), ref_Order_R7 N (ref_Order_L2 N n) n x0 x1 x5 z1.Name z2.Name)))
    (
      .leaf (.go (w6kR11 c) (w6sR11 x0 x1), ref_Order_R11 N n x0 x1)))
  (
    .leaf (.go (w6kR11 c) (w6sR11 x0 x1), ref_Order_R11 N n x0 x1))
theorem w6vL2 (N : Nat) (n : Nat) (x0 : List VLabel) (x1 : List VLabel) (x5 : Int) : evM TT EE (w6G N) w6lv w6rs 4000 true (w6kL2 (bodyOf 0 Tryz.f6)) (w6sL2 x0 x1 x5) = (w6TL2 (bodyOf 0 Tryz.f6) N n x0 x1 x5).map1 := by kernel_rfl
theorem w6nL2 (N : Nat) (n : Nat) (x0 : List VLabel) (x1 : List VLabel) (x5 : Int) : ref_Order_L2 N (n + 1) x0 x1 x5 = (w6TL2 (bodyOf 0 Tryz.f6) N n x0 x1 x5).run := by kernel_rfl
theorem w6oL2 {N : Nat} {r : Int} : ∀ (n : Nat) (x0 : List VLabel) (x1 : List VLabel) (x5 : Int), ref_Order_L2 N n x0 x1 x5 = some r → Ends (Y := TT) EE (w6G N) w6lv w6rs (fun u => u = w6enc r) (w6kL2 (bodyOf 0 Tryz.f6)) (w6sL2 x0 x1 x5)
  | 0, _, _, _, h => by cases h
  | n + 1, x0, x1, x5, h => tree_use (w6vL2 N n x0 x1 x5) (w6nL2 N n x0 x1 x5) h (show (w6TL2 (bodyOf 0 Tryz.f6) N n x0 x1 x5).all _ from ⟨⟨fun _ => fun _ => ⟨fun _ => fun _ => fun h => w6oR7 (w6oL2 n) n _ _ _ _ _ h, fun h => w6oR7 (w6oL2 n) n _ _ _ _ _ h⟩, fun h => w6oR11 n _ _ h⟩, fun h => w6oR11 n _ _ h⟩)
def w6TE0 (c : Code) (N : Nat) (x0 : List VLabel) (x1 : List VLabel) : Tree (Lf EE.T × Option Int) :=
  .leaf (.go (w6kL2 c) (w6sL2 x0 x1 0), ref_Order_L2 N N x0 x1 0)
theorem w6vE0 (N : Nat) (x0 : List VLabel) (x1 : List VLabel) : evM TT EE (w6G N) w6lv w6rs 4000 true (w6kE0 (bodyOf 0 Tryz.f6)) (w6sE0 x0 x1) = (w6TE0 (bodyOf 0 Tryz.f6) N x0 x1).map1 := by kernel_rfl
theorem w6nE0 (N : Nat) (x0 : List VLabel) (x1 : List VLabel) : ref_Order N x0 x1 = (w6TE0 (bodyOf 0 Tryz.f6) N x0 x1).run := by kernel_rfl
theorem w6oE0 {N : Nat} {r : Int} (x0 : List VLabel) (x1 : List VLabel) (h : ref_Order N x0 x1 = some r) : Ends (Y := TT) EE (w6G N) w6lv w6rs (fun u => u = w6enc r) (w6kE0 (bodyOf 0 Tryz.f6)) (w6sE0 x0 x1) :=
  tree_use (w6vE0 N x0 x1) (w6nE0 N x0 x1) h (show (w6TE0 (bodyOf 0 Tryz.f6) N x0 x1).all _ from fun h => w6oL2 N _ _ _ h)
theorem ref_Order_ok {N : Nat} (x0 : List VLabel) (x1 : List VLabel) {r : Int} (h : ref_Order N x0 x1 = some r) (ρ : Nat → Nat) : ACalls Tryz.prog 6 (([.a (.d (.sl (.nam 2)) x0), .a (.d (.sl (.nam 2)) x1)] : List (TV EE.T)).map (TV.to EE.toEnc ρ)) [] (fun out H => out = .ret ((ref_Order_u r).to EE.toEnc ρ) ∧ H = []) :=
  (fn_ok (bodyOf 0 Tryz.f6) 61 mixed (w6Gok N) Tryz.func6 (by kernel_rfl) rfl rfl rfl rfl (w6oE0 x0 x1 h) ρ).mono fun out H h => KPost.ret rfl h
def ref_Order_h (N : Nat) : List (TV EE.T) → PV EE.T
  | [u0, u1] => match argD (.sl (.nam 2)) u0, argD (.sl (.nam 2)) u1 with
    | some x0, some x1 => .opt (ref_Order N x0 x1) ref_Order_u
    | _, _ => .bad
  | _ => .bad
theorem ref_Order_hok (N : Nat) (us : List (TV EE.T)) : (ref_Order_h N us).ok fun u => ∀ ρ, ACalls Tryz.prog 6 (us.map (TV.to EE.toEnc ρ)) [] (fun out H => out = .ret (u.to EE.toEnc ρ) ∧ H = []) := by
  unfold ref_Order_h
  split
  · split
    · rename_i h0 h1
      intro z hz ρ; refine acalls_le ?_ (ref_Order_ok _ _ hz ρ); exact ⟨argD_le h0 ρ, argD_le h1 ρ, trivial⟩
    · trivial
  · trivial
/-! ### gleaner/labels.sum -/
def labels_sum_u (r : Int) : TV EE.T := .a (.d (.int .u64) r)
def w36enc (r : Int) : RL EE.T := .ret (labels_sum_u r) []
def w36lv : Lvs := ⟨[], [(2, ⟨[(0, false), (10, false), (11, false), (12, false)], [], []⟩)], [], [], false, [], []⟩
def w36rs : List ResultVar := [.tmp 4]
def w36G (N : Nat) : Gam EE := ⟨[], EQT, [], []⟩
theorem w36Gok (N : Nat) : GOk Tryz.prog TT EE (w36G N) := GOk.nil EQT_ok
def w36kL2 (c : Code) : List It2 := atL 2 c
def w36sL2 (x0 : Int) (x10 : List UInt8) (x11 : Int) (x12 : Int) : TS EE.T := ⟨23, [(0, .a (.d (.int .u64) x0)), (10, .a (.own .byte x10)), (11, .a (.d (.int .i64) x11)), (12, .a (.d (.int .i64) x12))], [], []⟩
def w36kE0 (c : Code) : List It2 := [.c c]
def w36sE0 (x0 : Int) (x1 : List UInt8) : TS EE.T := ⟨23, [(0, .a (.d (.int .u64) x0)), (1, .a (.d .str x1))], [], []⟩
def w36TL2 (c : Code) (N : Nat) (n : Nat) (x0 : Int) (x10 : List UInt8) (x11 : Int) (x12 : Int) : Tree (Lf EE.T × Option Int) :=
  .cond (decide (x12 < x11))
  (
    .bnd (idxC x10 x12) fun z2 =>
    .leaf (.go (w36kL2 c) (w36sL2 (IntKind.wrap .u64 ((bits .xor .u64 x0 (IntKind.wrap .u64 (b2i z2))) * 1099511628211)) x10 x11 (w64 (x12 + 1))), labels_sum_L2 N n (IntKind.wrap .u64 ((bits .xor .u64 x0 (IntKind.wrap .u64 (b2i z2))) * 1099511628211)) x10 x11 (w64 (x12 + 1))))
  (
    .leaf (.done (w36enc x0), some x0))
theorem w36vL2 (N : Nat) (n : Nat) (x0 : Int) (x10 : List UInt8) (x11 : Int) (x12 : Int) : evM TT EE (w36G N) w36lv w36rs 4000 true (w36kL2 (bodyOf 0 Tryz.f36)) (w36sL2 x0 x10 x11 x12) = (w36TL2 (bodyOf 0 Tryz.f36) N n x0 x10 x11 x12).map1 := by kernel_rfl
theorem w36nL2 (N : Nat) (n : Nat) (x0 : Int) (x10 : List UInt8) (x11 : Int) (x12 : Int) : labels_sum_L2 N (n + 1) x0 x10 x11 x12 = (w36TL2 (bodyOf 0 Tryz.f36) N n x0 x10 x11 x12).run := by kernel_rfl
theorem w36oL2 {N : Nat} {r : Int} : ∀ (n : Nat) (x0 : Int) (x10 : List UInt8) (x11 : Int) (x12 : Int), labels_sum_L2 N n x0 x10 x11 x12 = some r → Ends (Y := TT) EE (w36G N) w36lv w36rs (fun u => u = w36enc r) (w36kL2 (bodyOf 0 Tryz.f36)) (w36sL2 x0 x10 x11 x12)
  | 0, _, _, _, _, h => by cases h
  | n + 1, x0, x10, x11, x12, h => tree_use (w36vL2 N n x0 x10 x11 x12) (w36nL2 N n x0 x10 x11 x12) h (show (w36TL2 (bodyOf 0 Tryz.f36) N n x0 x10 x11 x12).all _ from ⟨fun _ => fun h => (w36oL2 n) _ _ _ _ h, retp (enc := w36enc) rfl⟩)
def w36TE0 (c : Code) (N : Nat) (x0 : Int) (x1 : List UInt8) : Tree (Lf EE.T × Option Int) :=
  .bnd (appC 1 x1 ([255] : List UInt8)) fun z1 =>
  .leaf (.go (w36kL2 c) (w36sL2 x0 z1 (z1.length : Int) 0), labels_sum_L2 N N x0 z1 (z1.length : Int) 0)
theorem w36vE0 (N : Nat) (x0 : Int) (x1 : List UInt8) : evM TT EE (w36G N) w36lv w36rs 4000 true (w36kE0 (bodyOf 0 Tryz.f36)) (w36sE0 x0 x1) = (w36TE0 (bodyOf 0 Tryz.f36) N x0 x1).map1 := by kernel_rfl
theorem w36nE0 (N : Nat) (x0 : Int) (x1 : List UInt8) : labels_sum N x0 x1 = (w36TE0 (bodyOf 0 Tryz.f36) N x0 x1).run := by kernel_rfl
theorem w36oE0 {N : Nat} {r : Int} (x0 : Int) (x1 : List UInt8) (h : labels_sum N x0 x1 = some r) : Ends (Y := TT) EE (w36G N) w36lv w36rs (fun u => u = w36enc r) (w36kE0 (bodyOf 0 Tryz.f36)) (w36sE0 x0 x1) :=
  tree_use (w36vE0 N x0 x1) (w36nE0 N x0 x1) h (show (w36TE0 (bodyOf 0 Tryz.f36) N x0 x1).all _ from fun _ => fun h => w36oL2 N _ _ _ _ h)
theorem labels_sum_ok {N : Nat} (x0 : Int) (x1 : List UInt8) {r : Int} (h : labels_sum N x0 x1 = some r) (ρ : Nat → Nat) : ACalls Tryz.prog 36 (([.a (.d (.int .u64) x0), .a (.d .str x1)] : List (TV EE.T)).map (TV.to EE.toEnc ρ)) [] (fun out H => out = .ret ((labels_sum_u r).to EE.toEnc ρ) ∧ H = []) :=
  (fn_ok (bodyOf 0 Tryz.f36) 23 mixed (w36Gok N) Tryz.func36 (by kernel_rfl) rfl rfl rfl rfl (w36oE0 x0 x1 h) ρ).mono fun out H h => KPost.ret rfl h
def labels_sum_h (N : Nat) : List (TV EE.T) → PV EE.T
  | [u0, u1] => match argD (.int .u64) u0, argD .str u1 with
    | some x0, some x1 => .opt (labels_sum N x0 x1) labels_sum_u
    | _, _ => .bad
  | _ => .bad
theorem labels_sum_hok (N : Nat) (us : List (TV EE.T)) : (labels_sum_h N us).ok fun u => ∀ ρ, ACalls Tryz.prog 36 (us.map (TV.to EE.toEnc ρ)) [] (fun out H => out = .ret (u.to EE.toEnc ρ) ∧ H = []) := by
  unfold labels_sum_h
  split
  · split
    · rename_i h0 h1
      intro z hz ρ; refine acalls_le ?_ (labels_sum_ok _ _ hz ρ); exact ⟨argD_le h0 ρ, argD_le h1 ρ, trivial⟩
    · trivial
  · trivial
/-! ### gleaner/labels.RawSum -/
def labels_RawSum_u (r : Int) : TV EE.T := .a (.d (.int .u64) r)
def w23enc (r : Int) : RL EE.T := .ret (labels_RawSum_u r) []
def w23lv : Lvs := ⟨[(5, ⟨[(3, false), (5, false), (6, false), (7, false), (8, false)], [], [(5, (some 2, []))]⟩)], [(3, ⟨[(3, false), (6, false), (7, false), (8, false)], [], []⟩)], [], [], false, [], []⟩
def w23rs : List ResultVar := [.tmp 2]
def w23G (N : Nat) : Gam EE := ⟨[⟨36, labels_sum_h N⟩], EQT, [], []⟩
theorem w23Gok (N : Nat) : GOk Tryz.prog TT EE (w23G N) := GOk.cons (labels_sum_hok N) (GOk.nil EQT_ok)
def w23kL3 (c : Code) : List It2 := atL 3 c
def w23sL3 (x3 : Int) (x6 : List VLabel) (x7 : Int) (x8 : Int) : TS EE.T := ⟨21, [(3, .a (.d (.int .u64) x3)), (6, .a (.d (.sl (.nam 2)) x6)), (7, .a (.d (.int .i64) x7)), (8, .a (.d (.int .i64) x8))], [], []⟩
def w23kE0 (c : Code) : List It2 := [.c c]
def w23sE0 (x0 : List VLabel) : TS EE.T := ⟨21, [(0, .a (.d (.sl (.nam 2)) x0))], [], []⟩
def w23TL3 (c : Code) (N : Nat) (n : Nat) (x3 : Int) (x6 : List VLabel) (x7 : Int) (x8 : Int) : Tree (Lf EE.T × Option Int) :=
  .cond (decide (x8 < x7))
  (
    .bnd (idxC x6 x8) fun z1 =>
    .bnd (labels_sum N x3 z1.Name) fun z2 =>
    .bnd (labels_sum N z2 z1.Value) fun z3 =>
    .leaf (.go (w23kL3 c) (w23sL3 z3 x6 x7 (w64 (x8 + 1))), labels_RawSum_L3 N n z3 x6 x7 (w64 (x8 + 1))))
  (
    .leaf (.done (w23enc x3), some x3))
theorem w23vL3 (N : Nat) (n : Nat) (x3 : Int) (x6 : List VLabel) (x7 : Int) (x8 : Int) : evM TT EE (w23G N) w23lv w23rs 4000 true (w23kL3 (bodyOf 0 Tryz.f23)) (w23sL3 x3 x6 x7 x8) = (w23TL3 (bodyOf 0 Tryz.f23) N n x3 x6 x7 x8).map1 := by kernel_rfl
theorem w23nL3 (N : Nat) (n : Nat) (x3 : Int) (x6 : List VLabel) (x7 : Int) (x8 : Int) : labels_RawSum_L3 N (n + 1) x3 x6 x7 x8 = (w23TL3 (bodyOf 0 Tryz.f23) N n x3 x6 x7 x8).run := by kernel_rfl
theorem w23oL3 {N : Nat} {r : Int} : ∀ (n : Nat) (x3 : Int) (x6 : List VLabel) (x7 : Int) (x8 : Int), labels_RawSum_L3 N n x3 x6 x7 x8 = some r → Ends (Y := TT) EE (w23G N) w23lv w23rs (fun u => u = w23enc r) (w23kL3 (bodyOf 0 Tryz.f23)) (w23sL3 x3 x6 x7 x8)
  | 0, _, _, _, _, h => by cases h
  | n + 1, x3, x6, x7, x8, h => tree_use (w23vL3 N n x3 x6 x7 x8) (w23nL3 N n x3 x6 x7 x8) h (show (w23TL3 (bodyOf 0 Tryz.f23) N n x3 x6 x7 x8).all _ from ⟨fun _ => fun _ => fun _ => fun h => (w23oL3 n) _ _ _ _ h, retp (enc := w23enc) rfl⟩)
def w23TE0 (c : Code) (N : Nat) (x0 : List VLabel) : Tree (Lf EE.T × Option Int) :=
  .leaf (.go (w23kL3 c) (w23sL3 14695981039346656037 x0 (x0.length : Int) 0), labels_RawSum_L3 N N 14695981039346656037 x0 (x0.length : Int) 0)
theorem w23vE0 (N : Nat) (x0 : List VLabel) : evM TT EE (w23G N) w23lv w23rs 4000 true (w23kE0 (bodyOf 0 Tryz.f23)) (w23sE0 x0) = (w23TE0 (bodyOf 0 Tryz.f23) N x0).map1 := by kernel_rfl
theorem w23nE0 (N : Nat) (x0 : List VLabel) : labels_RawSum N x0 = (w23TE0 (bodyOf 0 Tryz.f23) N x0).run := by kernel_rfl
theorem w23oE0 {N : Nat} {r : Int} (x0 : List VLabel) (h : labels_RawSum N x0 = some r) : Ends (Y := TT) EE (w23G N) w23lv w23rs (fun u => u = w23enc r) (w23kE0 (bodyOf 0 Tryz.f23)) (w23sE0 x0) :=
  tree_use (w23vE0 N x0) (w23nE0 N x0) h (show (w23TE0 (bodyOf 0 Tryz.f23) N x0).all _ from fun h => w23oL3 N _ _ _ _ h)
theorem labels_RawSum_ok {N : Nat} (x0 : List VLabel) {r : Int} (h : labels_RawSum N x0 = some r) (ρ : Nat → Nat) : ACalls Tryz.prog 23 (([.a (.d (.sl (.nam 2)) x0)] : List (TV EE.T)).map (TV.to EE.toEnc ρ)) [] (fun out H => out = .ret ((labels_RawSum_u r).to EE.toEnc ρ) ∧ H = []) :=
  (fn_ok (bodyOf 0 Tryz.f23) 21 mixed (w23Gok N) Tryz.func23 (by kernel_rfl) rfl rfl rfl rfl (w23oE0 x0 h) ρ).mono fun out H h => KPost.ret rfl h
def labels_RawSum_h (N : Nat) : List (TV EE.T) → PV EE.T
  | [u0] => match argD (.sl (.nam 2)) u0 with
    | some x0 => .opt (labels_RawSum N x0) labels_RawSum_u
    | _ => .bad
  | _ => .bad
theorem labels_RawSum_hok (N : Nat) (us : List (TV EE.T)) : (labels_RawSum_h N us).ok fun u => ∀ ρ, ACalls Tryz.prog 23 (us.map (TV.to EE.toEnc ρ)) [] (fun out H => out = .ret (u.to EE.toEnc ρ) ∧ H = []) := by
  unfold labels_RawSum_h
  split
  · split
    · rename_i h0
      intro z hz ρ; refine acalls_le ?_ (labels_RawSum_ok _ hz ρ); exact ⟨argD_le h0 ρ, trivial⟩
    · trivial
  · trivial
/-! ### gleaner/labels.Sum -/
def labels_Sum_u (r : Int × Int) : TV EE.T := .tu [.a (.d (.int .u64) r.1), .a (.d (.int .i64) r.2)]
def w12enc (r : Int × Int) : RL EE.T := .ret (labels_Sum_u r) []
def w12lv : Lvs := ⟨[], [], [], [], false, [], []⟩
def w12rs : List ResultVar := [.tmp 2, .tmp 3]
def w12G (N : Nat) : Gam EE := ⟨[⟨23, labels_RawSum_h N⟩, ⟨8, labels_check_h N⟩], EQT, [], []⟩
theorem w12Gok (N : Nat) : GOk Tryz.prog TT EE (w12G N) := GOk.cons (labels_RawSum_hok N) (GOk.cons (labels_check_hok N) (GOk.nil EQT_ok))
def w12kE0 (c : Code) : List It2 := [.c c]
def w12sE0 (x0 : List VLabel) : TS EE.T := ⟨13, [(0, .a (.d (.sl (.nam 2)) x0))], [], []⟩
def w12TE0 (c : Code) (N : Nat) (x0 : List VLabel) : Tree (Lf EE.T × Option (Int × Int)) :=
  .bnd (labels_check N ([x0] : List (List VLabel))) fun z1 =>
  .cond (z1 != 0)
  (
    .leaf (.done (w12enc (0, z1)), some (0, z1)))
  (
    .bnd (labels_RawSum N x0) fun z2 =>
    .leaf (.done (w12enc (z2, 0)), some (z2, 0)))
theorem w12vE0 (N : Nat) (x0 : List VLabel) : evM TT EE (w12G N) w12lv w12rs 4000 true (w12kE0 (bodyOf 0 Tryz.f12)) (w12sE0 x0) = (w12TE0 (bodyOf 0 Tryz.f12) N x0).map1 := by kernel_rfl
theorem w12nE0 (N : Nat) (x0 : List VLabel) : labels_Sum N x0 = (w12TE0 (bodyOf 0 Tryz.f12) N x0).run := by kernel_rfl
theorem w12oE0 {N : Nat} {r : Int × Int} (x0 : List VLabel) (h : labels_Sum N x0 = some r) : Ends (Y := TT) EE (w12G N) w12lv w12rs (fun u => u = w12enc r) (w12kE0 (bodyOf 0 Tryz.f12)) (w12sE0 x0) :=
  tree_use (w12vE0 N x0) (w12nE0 N x0) h (show (w12TE0 (bodyOf 0 Tryz.f12) N x0).all _ from fun _ => ⟨retp (enc := w12enc) rfl, fun _ => retp (enc := w12enc) rfl⟩)
theorem labels_Sum_ok {N : Nat} (x0 : List VLabel) {r : Int × Int} (h : labels_Sum N x0 = some r) (ρ : Nat → Nat) : ACalls Tryz.prog 12 (([.a (.d (.sl (.nam 2)) x0)] : List (TV EE.T)).map (TV.to EE.toEnc ρ)) [] (fun out H => out = .ret ((labels_Sum_u r).to EE.toEnc ρ) ∧ H = []) :=
  (fn_ok (bodyOf 0 Tryz.f12) 13 mixed (w12Gok N) Tryz.func12 (by kernel_rfl) rfl rfl rfl rfl (w12oE0 x0 h) ρ).mono fun out H h => KPost.ret rfl h
def labels_Sum_h (N : Nat) : List (TV EE.T) → PV EE.T
  | [u0] => match argD (.sl (.nam 2)) u0 with
    | some x0 => .opt (labels_Sum N x0) labels_Sum_u
    | _ => .bad
  | _ => .bad
theorem labels_Sum_hok (N : Nat) (us : List (TV EE.T)) : (labels_Sum_h N us).ok fun u => ∀ ρ, ACalls Tryz.prog 12 (us.map (TV.to EE.toEnc ρ)) [] (fun out H => out = .ret (u.to EE.toEnc ρ) ∧ H = []) := by
  unfold labels_Sum_h
  split
  · split
    · rename_i h0
      intro z hz ρ; refine acalls_le ?_ (labels_Sum_ok _ hz ρ); exact ⟨argD_le h0 ρ, trivial⟩
    · trivial
  · trivial
/-! ### gleaner/gleanerlaw.labelsBegun -/
def law_labelsBegun_u (r : Bool) : TV EE.T := .a (.d .bool r)
def w7enc (r : Bool) : RL EE.T := .ret (law_labelsBegun_u r) []
def w7lv : Lvs := ⟨[], [], [], [], false, [], []⟩
def w7rs : List ResultVar := [.tmp 0]
def w7G (N : Nat) : Gam EE := ⟨[⟨12, labels_Sum_h N⟩, ⟨11, labels_Text_h N⟩], EQT, [], []⟩
theorem w7Gok (N : Nat) : GOk Tryz.prog TT EE (w7G N) := GOk.cons (labels_Sum_hok N) (GOk.cons (labels_Text_hok N) (GOk.nil EQT_ok))
def w7kE0 (c : Code) : List It2 := [.c c]
def w7sE0 : TS EE.T := ⟨30, [], [], []⟩
def w7TE0 (c : Code) (N : Nat) : Tree (Lf EE.T × Option Bool) :=
  .bnd (labels_Text N ([({ Name := ([95, 95, 110, 97, 109, 101, 95, 95] : List UInt8), Value := ([117, 112] : List UInt8) } : VLabel), ({ Name := ([106, 111, 98] : List UInt8), Value := ([120] : List UInt8) } : VLabel)] : List VLabel)) fun z1 =>
  .bnd (labels_Sum N ([] : List VLabel)) fun z2 =>
  .cond (z1.2 == 0)
  (
    .cond (decide (z1.1 = ([117, 112, 123, 106, 111, 98, 61, 34, 120, 34, 125] : List UInt8)))
    (
      .cond (z2.2 == 0)
      (
        .leaf (.done (w7enc (z2.1 == 14695981039346656037)), some (z2.1 == 14695981039346656037)))
      (
        .leaf (.done (w7enc false), some false)))
    (
      .leaf (.done (w7enc false), some false)))
  (
    .leaf (.done (w7enc false), some false))
theorem w7vE0 (N : Nat) : evM TT EE (w7G N) w7lv w7rs 4000 true (w7kE0 (bodyOf 0 Tryz.f7)) (w7sE0) = (w7TE0 (bodyOf 0 Tryz.f7) N).map1 := by kernel_rfl
theorem w7nE0 (N : Nat) : law_labelsBegun N = (w7TE0 (bodyOf 0 Tryz.f7) N).run := by kernel_rfl
theorem w7oE0 {N : Nat} {r : Bool} (h : law_labelsBegun N = some r) : Ends (Y := TT) EE (w7G N) w7lv w7rs (fun u => u = w7enc r) (w7kE0 (bodyOf 0 Tryz.f7)) (w7sE0) :=
  tree_use (w7vE0 N) (w7nE0 N) h (show (w7TE0 (bodyOf 0 Tryz.f7) N).all _ from fun _ => fun _ => ⟨⟨⟨retp (enc := w7enc) rfl, retp (enc := w7enc) rfl⟩, retp (enc := w7enc) rfl⟩, retp (enc := w7enc) rfl⟩)
theorem law_labelsBegun_ok {N : Nat} {r : Bool} (h : law_labelsBegun N = some r) (ρ : Nat → Nat) : ACalls Tryz.prog 7 (([] : List (TV EE.T)).map (TV.to EE.toEnc ρ)) [] (fun out H => out = .ret ((law_labelsBegun_u r).to EE.toEnc ρ) ∧ H = []) :=
  (fn_ok (bodyOf 0 Tryz.f7) 30 mixed (w7Gok N) Tryz.func7 (by kernel_rfl) rfl rfl rfl rfl (w7oE0 h) ρ).mono fun out H h => KPost.ret rfl h
def law_labelsBegun_h (N : Nat) : List (TV EE.T) → PV EE.T
  | [] => .opt (law_labelsBegun N) law_labelsBegun_u
  | _ => .bad
theorem law_labelsBegun_hok (N : Nat) (us : List (TV EE.T)) : (law_labelsBegun_h N us).ok fun u => ∀ ρ, ACalls Tryz.prog 7 (us.map (TV.to EE.toEnc ρ)) [] (fun out H => out = .ret (u.to EE.toEnc ρ) ∧ H = []) := by
  unfold law_labelsBegun_h
  split
  · intro z hz ρ; exact law_labelsBegun_ok hz ρ
  · trivial
/-! ### gleaner/gleanerlaw.LabelsCompares -/
def law_LabelsCompares_u (r : Bool) : TV EE.T := .a (.d .bool r)
def w3enc (r : Bool) : RL EE.T := .ret (law_LabelsCompares_u r) []
def w3lv : Lvs := ⟨[(5, ⟨[(0, false), (1, false), (5, false), (6, false), (7, false), (8, false)], [], []⟩), (7, ⟨[(5, false), (6, false), (7, false), (8, false)], [], []⟩)], [], [5, 7], [], false, [], []⟩
def w3rs : List ResultVar := [.tmp 4]
def w3G (N : Nat) : Gam EE := ⟨[⟨7, law_labelsBegun_h N⟩, ⟨5, ref_CheckLabels_h N⟩, ⟨6, ref_Order_h N⟩, ⟨4, labels_Compare_h N⟩], EQT, [], []⟩
theorem w3Gok (N : Nat) : GOk Tryz.prog TT EE (w3G N) := GOk.cons (law_labelsBegun_hok N) (GOk.cons (ref_CheckLabels_hok N) (GOk.cons (ref_Order_hok N) (GOk.cons (labels_Compare_hok N) (GOk.nil EQT_ok))))
def w3kR7 (c : Code) : List It2 := atR 7 c
def w3sR7 (x5 : Int) (x6 : Int) (x7 : Int) (x8 : Int) : TS EE.T := ⟨37, [(5, .a (.d (.int .i64) x5)), (6, .a (.d (.int .i64) x6)), (7, .a (.d (.int .i64) x7)), (8, .a (.d (.int .i64) x8))], [], []⟩
def w3kR5 (c : Code) : List It2 := atR 5 c
def w3sR5 (x0 : List VLabel) (x1 : List VLabel) (x5 : Int) (x6 : Int) (x7 : Int) (x8 : Int) : TS EE.T := ⟨37, [(0, .a (.d (.sl (.nam 2)) x0)), (1, .a (.d (.sl (.nam 2)) x1)), (5, .a (.d (.int .i64) x5)), (6, .a (.d (.int .i64) x6)), (7, .a (.d (.int .i64) x7)), (8, .a (.d (.int .i64) x8))], [], []⟩
def w3kE0 (c : Code) : List It2 := [.c c]
def w3sE0 (x0 : List VLabel) (x1 : List VLabel) : TS EE.T := ⟨37, [(0, .a (.d (.sl (.nam 2)) x0)), (1, .a (.d (.sl (.nam 2)) x1))], [], []⟩
def w3TR7 (c : Code) (N : Nat) (n : Nat) (x5 : Int) (x6 : Int) (x7 : Int) (x8 : Int) : Tree (Lf EE.T × Option Bool) :=
  .bnd (law_labelsBegun N) fun z5 =>
  .cond (z5)
  (
    .cond (x6 == x7)
    (
      .leaf (.done (w3enc (x5 == x8)), some (x5 == x8)))
    (
      .leaf (.done (w3enc false), some false)))
  (
    .leaf (.done (w3enc false), some false))
theorem w3vR7 (N : Nat) (n : Nat) (x5 : Int) (x6 : Int) (x7 : Int) (x8 : Int) : evM TT EE (w3G N) w3lv w3rs 4000 true (w3kR7 (bodyOf 0 Tryz.f3)) (w3sR7 x5 x6 x7 x8) = (w3TR7 (bodyOf 0 Tryz.f3) N n x5 x6 x7 x8).map1 := by kernel_rfl
theorem w3nR7 (N : Nat) (n : Nat) (x5 : Int) (x6 : Int) (x7 : Int) (x8 : Int) : law_LabelsCompares_R7 N n x5 x6 x7 x8 = (w3TR7 (bodyOf 0 Tryz.f3) N n x5 x6 x7 x8).run := by kernel_rfl
theorem w3oR7 {N : Nat} {r : Bool} (n : Nat) (x5 : Int) (x6 : Int) (x7 : Int) (x8 : Int) (h : law_LabelsCompares_R7 N n x5 x6 x7 x8 = some r) : Ends (Y := TT) EE (w3G N) w3lv w3rs (fun u => u = w3enc r) (w3kR7 (bodyOf 0 Tryz.f3)) (w3sR7 x5 x6 x7 x8) :=
  tree_use (w3vR7 N n x5 x6 x7 x8) (w3nR7 N n x5 x6 x7 x8) h (show (w3TR7 (bodyOf 0 Tryz.f3) N n x5 x6 x7 x8).all _ from fun _ => ⟨⟨retp (enc := w3enc) rfl, retp (enc := w3enc) rfl⟩, retp (enc := w3enc) rfl⟩)
def w3TR5 (c : Code) (N : Nat) (n : Nat) (x0 : List VLabel) (x1 : List VLabel) (x5 : Int) (x6 : Int) (x7 : Int) (x8 : Int) : Tree (Lf EE.T × Option Bool) :=
  .cond (x7 == 0)
  (
    .bnd (ref_Order N x0 x1) fun z4 =>
    .leaf (.go (w3kR7 c) (w3sR7 x5 x6 x7 z4), law_LabelsCompares_R7 N n x5 x6 x7 z4))
  (
    .leaf (.go (w3kR7 c) (w3sR7 x5 x6 x7 x8), law_LabelsCompares_R7 N n x5 x6 x7 x8))
theorem w3vR5 (N : Nat) (n : Nat) (x0 : List VLabel) (x1 : List VLabel) (x5 : Int) (x6 : Int) (x7 : Int) (x8 : Int) : evM TT EE (w3G N) w3lv w3rs 4000 true (w3kR5 (bodyOf 0 Tryz.f3)) (w3sR5 x0 x1 x5 x6 x7 x8) = (w3TR5 (bodyOf 0 Tryz.f3) N n x0 x1 x5 x6 x7 x8).map1 := by kernel_rfl
theorem w3nR5 (N : Nat) (n : Nat) (x0 : List VLabel) (x1 : List VLabel) (x5 : Int) (x6 : Int) (x7 : Int) (x8 : Int) : law_LabelsCompares_R5 N n x0 x1 x5 x6 x7 x8 = (w3TR5 (bodyOf 0 Tryz.f3) N n x0 x1 x5 x6 x7 x8).run := by kernel_rfl
theorem w3oR5 {N : Nat} {r : Bool} (n : Nat) (x0 : List VLabel) (x1 : List VLabel) (x5 : Int) (x6 : Int) (x7 : Int) (x8 : Int) (h : law_LabelsCompares_R5 N n x0 x1 x5 x6 x7 x8 = some r) : Ends (Y := TT) EE (w3G N) w3lv w3rs (fun u => u = w3enc r) (w3kR5 (bodyOf 0 Tryz.f3)) (w3sR5 x0 x1 x5 x6 x7 x8) :=
  tree_use (w3vR5 N n x0 x1 x5 x6 x7 x8) (w3nR5 N n x0 x1 x5 x6 x7 x8) h (show (w3TR5 (bodyOf 0 Tryz.f3) N n x0 x1 x5 x6 x7 x8).all _ from ⟨fun _ => fun h => w3oR7 n _ _ _ _ h, fun h => w3oR7 n _ _ _ _ h⟩)
def w3TE0 (c : Code) (N : Nat) (x0 : List VLabel) (x1 : List VLabel) : Tree (Lf EE.T × Option Bool) :=
  .bnd (labels_Compare N x0 x1) fun z1 =>
  .bnd (ref_CheckLabels N x0) fun z2 =>
  .cond (z2 == 0)
  (
    .bnd (ref_CheckLabels N x1) fun z3 =>
    .leaf (.go (w3kR5 c) (w3sR5 x0 x1 z1.1 z1.2 z3 0), law_LabelsCompares_R5 N N x0 x1 z1.1 z1.2 z3 0))
  (
    .leaf (.go (w3kR5 c) (w3sR5 x0 x1 z1.1 z1.2 z2 0), law_LabelsCompares_R5 N N x0 x1 z1.1 z1.2 z2 0))
theorem w3vE0 (N : Nat) (x0 : List VLabel) (x1 : List VLabel) : evM TT EE (w3G N) w3lv w3rs 4000 true (w3kE0 (bodyOf 0 Tryz.f3)) (w3sE0 x0 x1) = (w3TE0 (bodyOf 0 Tryz.f3) N x0 x1).map1 := by kernel_rfl
theorem w3nE0 (N : Nat) (x0 : List VLabel) (x1 : List VLabel) : law_LabelsCompares N x0 x1 = (w3TE0 (bodyOf 0 Tryz.f3) N x0 x1).run := by kernel_rfl
theorem w3oE0 {N : Nat} {r : Bool} (x0 : List VLabel) (x1 : List VLabel) (h : law_LabelsCompares N x0 x1 = some r) : Ends (Y := TT) EE (w3G N) w3lv w3rs (fun u => u = w3enc r) (w3kE0 (bodyOf 0 Tryz.f3)) (w3sE0 x0 x1) :=
  tree_use (w3vE0 N x0 x1) (w3nE0 N x0 x1) h (show (w3TE0 (bodyOf 0 Tryz.f3) N x0 x1).all _ from fun _ => fun _ => ⟨fun _ => fun h => w3oR5 N _ _ _ _ _ _ h, fun h => w3oR5 N _ _ _ _ _ _ h⟩)
theorem law_LabelsCompares_ok {N : Nat} (x0 : List VLabel) (x1 : List VLabel) {r : Bool} (h : law_LabelsCompares N x0 x1 = some r) (ρ : Nat → Nat) : ACalls Tryz.prog 3 (([.a (.d (.sl (.nam 2)) x0), .a (.d (.sl (.nam 2)) x1)] : List (TV EE.T)).map (TV.to EE.toEnc ρ)) [] (fun out H => out = .ret ((law_LabelsCompares_u r).to EE.toEnc ρ) ∧ H = []) :=
  (fn_ok (bodyOf 0 Tryz.f3) 37 mixed (w3Gok N) Tryz.func3 (by kernel_rfl) rfl rfl rfl rfl (w3oE0 x0 x1 h) ρ).mono fun out H h => KPost.ret rfl h
def law_LabelsCompares_h (N : Nat) : List (TV EE.T) → PV EE.T
  | [u0, u1] => match argD (.sl (.nam 2)) u0, argD (.sl (.nam 2)) u1 with
    | some x0, some x1 => .opt (law_LabelsCompares N x0 x1) law_LabelsCompares_u
    | _, _ => .bad
  | _ => .bad
theorem law_LabelsCompares_hok (N : Nat) (us : List (TV EE.T)) : (law_LabelsCompares_h N us).ok fun u => ∀ ρ, ACalls Tryz.prog 3 (us.map (TV.to EE.toEnc ρ)) [] (fun out H => out = .ret (u.to EE.toEnc ρ) ∧ H = []) := by
  unfold law_LabelsCompares_h
  split
  · split
    · rename_i h0 h1
      intro z hz ρ; refine acalls_le ?_ (law_LabelsCompares_ok _ _ hz ρ); exact ⟨argD_le h0 ρ, argD_le h1 ρ, trivial⟩
    · trivial
  · trivial
end Go.Proofs.YtbpgpfigndlohaaGreat
