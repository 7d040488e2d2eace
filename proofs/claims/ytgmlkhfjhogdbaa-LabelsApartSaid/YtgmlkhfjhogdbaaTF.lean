/- strings.Replacer's Replace on a replacer just made, over the contract of what replaces. -/
import Derived.Test.YtgmlkhfjhogdbaaTE
import Derived.Test.YtgmlkhfjhogdbaaRQ
import Derived.Test.YtgmlkhfjhogdbaaGM
namespace Go.Proofs.Ytgmlkhfjhogdbaa
open Go.RowKit P
set_option linter.unusedSimpArgs false
set_option linter.unusedVariables false
theorem sim_frame {F : Nat → Prop} {X : GW} {σ : AS} {tm : Array Value} (h : SimE F X σ tm) (us : List Value) (H : List (Nat × List AV)) (hH : ∀ q cs, look H q = some cs → look σ.h q = some cs) : SimE F X ⟨us.length, slotsOf 0 (us.map .v), H, []⟩ us.toArray := by
  refine h.other (by simp) h.fb (fun t u hu => ?_) (fun k cs hk => ⟨hH k cs hk, (h.box k cs (hH k cs hk)).nF⟩) rfl id (fun r sz l ho => ?_) (fun _ _ _ _ _ _ _ _ hne _ _ _ _ => hne)
  · obtain ⟨_, h2⟩ := look_slotsOf _ _ _ _ hu
    simp only [Nat.sub_zero, List.getElem?_map, Option.map_eq_some_iff] at h2
    obtain ⟨v, hv, rfl⟩ := h2
    have : us.toArray.getD t undef = v := by simp [Array.getD_eq_getD_getElem?, hv]
    rw [this]
    exact .v v
  · cases r with
    | s t =>
      exfalso
      simp only [AS.own] at ho
      cases hl : look (slotsOf 0 (us.map AV.v)) t with
      | none => rw [hl] at ho; cases ho
      | some u =>
        obtain ⟨_, h2⟩ := look_slotsOf _ _ _ _ hl
        simp only [Nat.sub_zero, List.getElem?_map, Option.map_eq_some_iff] at h2
        obtain ⟨v, hv, rfl⟩ := h2
        rw [hl] at ho; cases ho
    | c k o =>
      right
      have ho' : σ.own (.c k o) = some (sz, l) := by
        simp only [AS.own] at ho ⊢
        cases hl : look H k with
        | none => rw [hl] at ho; cases ho
        | some cs => rw [hl] at ho; rw [hH k cs hl]; exact ho
      exact ⟨ho', rfl, fun a n c hr => (h.own_nF ho' hr).1⟩
/-- A replacer that has not been used. -/
def repA : List AV := [.v (.int .u32 0), .v (.int .i32 0), .v (.int .u32 0), .v .nilIface, .sl false 1 (sixT.map (cells EE.toEnc .str))]
theorem box_cell {F : Nat → Prop} {X : GW} {σ : AS} {tm : Array Value} (h : SimE F X σ tm) {B o : Nat} {cs : List AV} (hb : look σ.h B = some cs) (hm : isMpB cs = false) {u : AV} (hu : cs[o]? = some u) : ∃ v, X.w.cell? ⟨B, o, none⟩ = some v ∧ Rel X u v ∧ X.w.frozen? ⟨B, o, none⟩ = false := by
  obtain ⟨b1, b2, arr, el, fr, b3, b4, b5, b6⟩ := (h.box B cs hb).cells hm
  have hlt : o < arr.size := by rw [b4]; exact (List.getElem?_eq_some_iff.1 hu).1
  refine ⟨arr[o], ?_, b6 o u _ hu (Array.getElem?_eq_getElem hlt), b5 o⟩
  simp [World.cell?, b3, hlt]
theorem box_val {F : Nat → Prop} {X : GW} {σ : AS} {tm : Array Value} (h : SimE F X σ tm) {B o : Nat} {cs : List AV} (hb : look σ.h B = some cs) (hm : isMpB cs = false) {v : Value} (hu : cs[o]? = some (.v v)) : X.w.cell? ⟨B, o, none⟩ = some v ∧ X.w.frozen? ⟨B, o, none⟩ = false := by
  obtain ⟨v', h1, h2, h3⟩ := box_cell h hb hm hu
  rw [rel_v h2] at h1
  exact ⟨h1, h3⟩
/-- A plain cell of a box is written. -/
theorem set_plain {F : Nat → Prop} {X : GW} {σ : AS} {tm : Array Value} (h : SimE F X σ tm) {B o : Nat} {cs : List AV} (hb : look σ.h B = some cs) (hm : isMpB cs = false) (ho : o + 1 ≤ cs.length) (v : Value) : SimE F ⟨X.w.setCell ⟨B, o, none⟩ v, X.g⟩ (σ.setc B (splice cs o [.v v])) tm ∧ Ext F X ⟨X.w.setCell ⟨B, o, none⟩ v, X.g⟩ :=
  SimE.setc (us := [.v v]) (vs := [v]) h hb ho rfl (fun i u x hu hx => by
    cases i with
    | zero => simp at hu hx; subst hu hx; exact .v _
    | succ i => simp at hu) (fun i sz l x hu hx => by
    cases i with
    | zero => simp [own1] at hu
    | succ i => simp [own1] at hu) (fun i j p q hu => by
    cases i with
    | zero => simp [own1] at hu
    | succ i => simp [own1] at hu) hm
theorem do_ready (B : Nat) (F : Nat → Prop) (X : GW) (σ : AS) (tm : Array Value) (hs : SimE F X σ tm) (hb : look σ.h B = some repA) : Calls Try.prog 26 #[.pointer (some ⟨B, 0, none⟩), .func (.func 27) #[.pointer (some ⟨B, 0, none⟩)] #[]] X.w fun e w' => e = .returned (.tuple #[]) ∧
      ∃ (X2 : GW) (k r : Nat) (v : Value), X2.w = w' ∧ k ≠ r ∧ w'.cell? ⟨B, 3, none⟩ = some (.iface 109 (.pointer (some ⟨k, 0, none⟩))) ∧ SimE F X2 ⟨1, [], [(k, tabA r), (r, rowA)], []⟩ #[v] ∧ Ext F X X2 := by
  have hm : isMpB repA = false := rfl
  obtain ⟨c0, f0⟩ := box_val (o := 0) hs hb hm (v := .int .u32 0) rfl
  obtain ⟨c1, f1⟩ := box_val (o := 1) hs hb hm (v := .int .i32 0) rfl
  obtain ⟨s1, x1⟩ := set_plain (o := 1) hs hb hm (by decide) (.int .i32 1)
  have s1' := sim_frame s1 [.pointer (some ⟨B, 0, none⟩)] [(B, rep1A)] (fun q cs hq => by
    simp only [look_cons, look_nil, AS.setc] at hq ⊢
    split at hq
    · rename_i e; rw [if_pos e]; exact hq
    · cases hq)
  have hbo := (buildOnce_a B).2 F _ _ s1'
  have hdo := do_first B 0 ⟨B, 0, none⟩ X.w (fun w' => ∃ (X1 : GW) (k r : Nat) (v : Value), X1.w = w' ∧ k ≠ r ∧ k ≠ B ∧ r ≠ B ∧ SimE F X1 ⟨1, [], [(B, doneA k), (k, tabA r), (r, rowA)], []⟩ #[v] ∧ Ext F X X1) c0 c1 f1 (hbo.mono fun e w' ⟨X1, out, H', h1, ⟨k, r, hkr, hkB, hrB, h2, h3⟩, h4, h5⟩ => by
    subst h1 h2
    obtain ⟨v, k1, k2⟩ := h4
    have k3 : SimE F X1 ⟨1, [], [(B, doneA k), (k, tabA r), (r, rowA)], []⟩ #[v] := k2.sub rfl (fun t u hu => by simp [look_nil] at hu) h3 (fun p hp => by cases hp)
    have hv : v = .tuple #[] := by
      have := k2.slot 0 (.tu []) rfl
      cases this with
      | tu us xs hl hr =>
        have : xs = #[] := by apply Array.eq_empty_of_size_eq_zero; simpa using hl.symm
        subst this
        simp_all
    have hmd : isMpB (doneA k) = false := rfl
    obtain ⟨d0, e0⟩ := box_val (o := 0) k3 (B := B) (cs := doneA k) (by simp [look_cons]) hmd (v := .int .u32 0) rfl
    obtain ⟨d1, e1⟩ := box_val (o := 1) k3 (B := B) (cs := doneA k) (by simp [look_cons]) hmd (v := .int .i32 1) rfl
    exact ⟨by rw [k1, hv], ⟨d0, e0, d1, e1⟩, X1, k, r, v, rfl, hkr, hkB, hrB, k3, x1.trans h5⟩)
  refine hdo.mono fun e w' ⟨h1, w1, ⟨X1, k, r, v, hw1, hkr, hkB, hrB, k3, k4⟩, _, h2⟩ => ⟨h1, ?_⟩
  subst hw1 h2
  have hmd : isMpB (doneA k) = false := rfl
  have hXd : New X1 ⟨X1.w.drew, X1.g⟩ := ⟨rfl, rfl, rfl, Nat.le_refl _, fun _ _ => ⟨rfl, rfl⟩⟩
  have k5 := k3.new hXd k3.gb
  obtain ⟨k6, x6⟩ := set_plain (B := B) (o := 0) (cs := doneA k) k5 (by simp [look_cons]) hmd (Nat.le_of_ble_eq_true rfl) (.int .u32 1)
  obtain ⟨k7, x7⟩ := set_plain (B := B) (o := 1) (cs := splice (doneA k) 0 [.v (.int .u32 1)]) k6 (by simp [AS.setc, look_cons]) rfl (Nat.le_of_ble_eq_true rfl) (.int .i32 0)
  obtain ⟨v3, q1, q2, _⟩ := box_cell (B := B) (o := 3) (cs := splice (splice (doneA k) 0 [.v (.int .u32 1)]) 1 [.v (.int .i32 0)]) k7 (by simp [AS.setc, look_cons]) rfl (u := .ifc 109 (.v (.pointer (some ⟨k, 0, none⟩)))) rfl
  refine ⟨_, k, r, v, rfl, hkr, ?_, k7.sub rfl (fun t u hu => by simp [look_nil] at hu) (fun q cs hq => ?_) (fun p hp => by cases hp), ((k4.trans (hXd.ext k3.gb k3.fb)).trans x6).trans x7⟩
  · cases q2 with
    | ifc t u x hr =>
      rw [rel_v hr] at q1
      exact q1
  · simp only [look_cons, look_nil, AS.setc] at hq ⊢
    have hqB : q ≠ B := by
      rintro rfl
      rw [if_neg (fun e => hkB e.symm), if_neg (fun e => hrB e.symm)] at hq
      cases hq
    rw [if_neg hqB, if_neg hqB, if_neg hqB]
    exact hq
theorem two_vals {F : Nat → Prop} {X : GW} {vs : Array Value} {a b : Value} {H : List (Nat × List AV)} (hs : SimE F X ⟨2, slotsOf 0 [.v a, .v b], H, []⟩ vs) : vs = #[a, b] := by
  have h2 : vs.size = 2 := hs.size
  have h0 := rel_v (hs.slot 0 (.v a) rfl)
  have h1 := rel_v (hs.slot 1 (.v b) rfl)
  apply Array.ext
  · simp [h2]
  · intro i hi _
    have : i = 0 ∨ i = 1 := by omega
    rcases this with rfl | rfl
    · simpa [Array.getD_eq_getD_getElem?, hi] using h0
    · simpa [Array.getD_eq_getD_getElem?, hi] using h1
set_option maxRecDepth 100000 in
set_option maxHeartbeats 1600000 in
theorem repl_a (B : Nat) (s out : List UInt8) (hrep : ∀ k r, k ≠ r → ACalls Try.prog 106 [.v (.pointer (some ⟨k, 0, none⟩)), .v (.string (mkB s))] [(k, tabA r), (r, rowA)] (fun o H => o = .ret (.v (.string (mkB out))) ∧ H = [])) :
    ACalls Try.prog 17 [.v (.pointer (some ⟨B, 0, none⟩)), .v (.string (mkB s))] [(B, repA)] (fun o H => o = .ret (.v (.string (mkB out))) ∧ H = []) := by
  refine ⟨⟨_, Try.func17, by kernel_rfl, by kernel_rfl⟩, fun F X vs hs => ?_⟩
  obtain rfl := two_vals hs
  have hdo := do_ready B F X _ _ hs (by simp [look_cons])
  have hmeth : ∀ (k : Nat) (w : World), (method 273 109 (.pointer (some ⟨k, 0, none⟩)) "Replace").run Try.prog w = .ok (106, .pointer (some ⟨k, 0, none⟩)) w := fun k w => by kernel_rfl
  go_enter Try.func17, Try.ntmps17
  go_wp2_with (first | (go_at_call 26; refine hdo.mono ?_; rintro e w' ⟨rfl, X2, k, r, v, hw, hkr, hc3, hs2, hx2⟩; subst hw) | (go_at_call 106; refine ((hrep k r hkr).2 F X2 _ (sim_frame hs2 [.pointer (some ⟨k, 0, none⟩), .string (mkB s)] [(k, tabA r), (r, rowA)] (fun _ _ h => h))).mono ?_; rintro e w' ⟨X3, o3, H3, hw3, ⟨ho3, hH3⟩, he3, hx3⟩; subst hw3 ho3 hH3; obtain ⟨v3, rfl, hs3⟩ := he3))
  go_ret
  exact ⟨X3, .ret (.v (.string (mkB out))), [], rfl, ⟨rfl, rfl⟩, ⟨v3, rfl, hs3⟩, hx2.trans hx3⟩
end Go.Proofs.Ytgmlkhfjhogdbaa
