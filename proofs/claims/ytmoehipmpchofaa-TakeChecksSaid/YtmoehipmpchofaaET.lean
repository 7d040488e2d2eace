/- What take.Check and the reference's CheckStore come to. -/
import Derived.Test.YtmoehipmpchofaaEG
namespace Go.Proofs.Ytmoehipmpchofaa
open Go.RowKit P
set_option linter.unusedVariables false
set_option linter.unusedSimpArgs false

theorem ev_allP {β : Type} {P : Nat → β → Prop} : ∀ (l : List β), (∀ z ∈ l, ∃ N0, ∀ N, N0 ≤ N → P N z) → ∃ N0, ∀ N, N0 ≤ N → ∀ z ∈ l, P N z
  | [], _ => ⟨0, fun N _ z hz => by cases hz⟩
  | y :: l, h => by
    obtain ⟨N1, h1⟩ := h y List.mem_cons_self
    obtain ⟨N2, h2⟩ := ev_allP l fun z hz => h z (List.mem_cons_of_mem _ hz)
    refine ⟨max N1 N2, fun N hN z hz => ?_⟩
    rcases List.mem_cons.1 hz with rfl | hz
    · exact h1 N (by omega)
    · exact h2 N (by omega) z hz
def timeB (t : Int) : Bool := decide (t ≥ -9007199254740991) && decide (t ≤ 9007199254740991)
theorem takeTime_is (N : Nat) (t : Int) : take_isTime N t = some (timeB t) := by
  unfold take_isTime timeB
  cases decide (t ≥ (-9007199254740991)) <;> rfl
theorem refTime_is (N : Nat) (t : Int) : ref_IsTime N t = some (timeB t) := by
  unfold ref_IsTime timeB
  cases decide (t ≥ (-9007199254740991)) <;> rfl
def bigB (z : VSeries) : Bool := decide ((z.Samples.length : Int) > 5000)
def wrongB (z : VSample) : Bool := !timeB z.Time
theorem indexS_is (N : Nat) : ∀ (r p : List VSeries) (n : Nat), r.length < n → (p ++ r).length < 140737488355328 → ∃ i : Int, slices_IndexFunc_api_Series_api_Series__i0_L2 N n (p ++ r) ((p ++ r).length : Int) (p.length : Int) = some i ∧ decide (i ≥ 0) = r.any bigB
  | r, p, 0, h, _ => by omega
  | [], p, n + 1, h, hl => by
    unfold slices_IndexFunc_api_Series_api_Series__i0_L2
    rw [lt_end, cond_false]
    exact ⟨-1, rfl, rfl⟩
  | z :: r, p, n + 1, h, hl => by
    have hp : p.length + 1 < 9223372036854775808 := by simp at hl; omega
    have ih := indexS_is N r (p ++ [z]) n (by simp only [List.length_cons] at h; omega) (by rw [← cat_next]; exact hl)
    rw [← cat_next] at ih
    unfold slices_IndexFunc_api_Series_api_Series__i0_L2
    rw [lt_cat, cond_true, idxC_cat, Option.bind_some, show take_many_1 N z = some (bigB z) from rfl, Option.bind_some, w64_next p z hp]
    cases hb : bigB z with
    | true => exact ⟨(p.length : Int), rfl, by simp [hb]⟩
    | false => simpa [hb] using ih
theorem indexT_is (N : Nat) : ∀ (r p : List VSample) (n : Nat), r.length < n → (p ++ r).length < 140737488355328 → ∃ i : Int, slices_IndexFunc_api_Sample_api_Sample__i0_L2 N n (p ++ r) ((p ++ r).length : Int) (p.length : Int) = some i ∧ decide (i ≥ 0) = r.any wrongB
  | r, p, 0, h, _ => by omega
  | [], p, n + 1, h, hl => by
    unfold slices_IndexFunc_api_Sample_api_Sample__i0_L2
    rw [lt_end, cond_false]
    exact ⟨-1, rfl, rfl⟩
  | z :: r, p, n + 1, h, hl => by
    have hp : p.length + 1 < 9223372036854775808 := by simp at hl; omega
    have ih := indexT_is N r (p ++ [z]) n (by simp only [List.length_cons] at h; omega) (by rw [← cat_next]; exact hl)
    rw [← cat_next] at ih
    have h1 : take_Check_1 N z = some (wrongB z) := by unfold take_Check_1; rw [takeTime_is]; rfl
    unfold slices_IndexFunc_api_Sample_api_Sample__i0_L2
    rw [lt_cat, cond_true, idxC_cat, Option.bind_some, h1, Option.bind_some, w64_next p z hp]
    cases hb : wrongB z with
    | true => exact ⟨(p.length : Int), rfl, by simp [hb]⟩
    | false => simpa [hb] using ih
def manyB (l : List VSeries) : Bool := decide ((l.length : Int) > 500) || l.any bigB
theorem many_is (N : Nat) (l : List VSeries) (hl : l.length < 140737488355328) (hN : l.length < N) : take_many N l = some (manyB l) := by
  obtain ⟨i, h1, h2⟩ := indexS_is N l [] N hN hl
  simp only [List.nil_append, List.length_nil] at h1
  unfold take_many slices_ContainsFunc_api_Series_api_Series__i0 slices_IndexFunc_api_Series_api_Series__i0 manyB
  rw [show (0 : Int) = ((0 : Nat) : Int) from rfl, h1]
  simp only [Option.bind_some]
  cases decide ((l.length : Int) > 500) with
  | true => rfl
  | false => rw [cond_false, Bool.false_or, ← h2]; rfl
theorem containsT_is (N : Nat) (l : List VSample) (hl : l.length < 140737488355328) (hN : l.length < N) : slices_ContainsFunc_api_Sample_api_Sample__i0 N l = some (l.any wrongB) := by
  obtain ⟨i, h1, h2⟩ := indexT_is N l [] N hN hl
  simp only [List.nil_append, List.length_nil] at h1
  unfold slices_ContainsFunc_api_Sample_api_Sample__i0 slices_IndexFunc_api_Sample_api_Sample__i0
  rw [show (0 : Int) = ((0 : Nat) : Int) from rfl, h1, ← h2]; rfl
theorem great_loop (N : Nat) : ∀ (r p : List VSeries) (n : Nat), r.length < n → (p ++ r).length < 140737488355328 → ref_GreatStore_L2 N n (p ++ r) (p.length : Int) = some (r.any bigB || decide (((p ++ r).length : Int) > 500))
  | r, p, 0, h, _ => by omega
  | [], p, n + 1, h, hl => by
    unfold ref_GreatStore_L2
    rw [lt_end, cond_false]; rfl
  | z :: r, p, n + 1, h, hl => by
    have hp : p.length + 1 < 9223372036854775808 := by simp at hl; omega
    have ih := great_loop N r (p ++ [z]) n (by simp only [List.length_cons] at h; omega) (by rw [← cat_next]; exact hl)
    rw [← cat_next] at ih
    unfold ref_GreatStore_L2
    rw [lt_cat, cond_true, idxC_cat, Option.bind_some, w64_next p z hp, ih, List.any_cons]
    show (bif bigB z then some true else _) = _
    cases bigB z <;> rfl
theorem great_is (N : Nat) (l : List VSeries) (hl : l.length < 140737488355328) (hN : l.length < N) : ref_GreatStore N l = some (manyB l) := by
  have := great_loop N l [] N hN hl
  simp only [List.nil_append, List.length_nil] at this
  unfold ref_GreatStore manyB
  rw [show (0 : Int) = ((0 : Nat) : Int) from rfl, this, Bool.or_comm]
def adjT : List VSample → Bool
  | a :: b :: r => !decide (b.Time ≤ a.Time) && adjT (b :: r)
  | _ => true
def adjS : List VSeries → Bool
  | a :: b :: r => !decide (cmpLs a.Labels b.Labels ≥ 0) && adjS (b :: r)
  | _ => true
def tailE (l : List VSeries) : Int := if adjS l then 0 else 4
def serE (z : VSeries) : Int := if chkL z.Labels = 0 then (if z.Samples = [] then 3 else if z.Samples.any wrongB then 3 else if adjT z.Samples then 0 else 4) else chkL z.Labels
def firstE (e : Int) : List VSeries → Int
  | [] => e
  | z :: r => if serE z = 0 then firstE e r else serE z
theorem firstE_cons {e v : Int} {z : VSeries} {r : List VSeries} (h : serE z = v) : firstE e (z :: r) = if v = 0 then firstE e r else v := by subst h; rfl
theorem idx_cat2 {α : Type} (p : List α) (a b : α) (r : List α) : idxC (p ++ a :: b :: r) ((p.length + 1 : Nat) : Int) = some b := by
  rw [idxC_get (by simp)]; simp
theorem back_one {α : Type} (p : List α) (h : p.length + 1 < 9223372036854775808) : w64 (((p.length + 1 : Nat) : Int) - 1) = (p.length : Int) := by rw [w64_id (by omega) (by omega)]; omega
theorem on_one {α : Type} (p : List α) (a : α) (h : p.length + 2 < 9223372036854775808) : w64 (((p.length + 1 : Nat) : Int) + 1) = (((p ++ [a]).length + 1 : Nat) : Int) := by rw [w64_id (by omega) (by omega)]; simp
theorem lt_cat2 {α : Type} (p : List α) (a b : α) (r : List α) : decide (((p.length + 1 : Nat) : Int) < ((p ++ a :: b :: r).length : Int)) = true := by simp; omega
theorem lt_cat1 {α : Type} (p : List α) (a : α) : decide (((p.length + 1 : Nat) : Int) < ((p ++ [a]).length : Int)) = false := by simp
theorem takeT_loop (N : Nat) (k : List VSeries → List VSeries → Int → Int → Option Int) (x0 x10 : List VSeries) (x11 x12 : Int) (z : VSeries) : ∀ (r p : List VSample) (a : VSample) (n : Nat), z.Samples = p ++ a :: r → r.length < n → (p ++ a :: r).length < 140737488355328 →
    take_Check_L12 N k n x0 ((p.length + 1 : Nat) : Int) x10 x11 x12 z = if adjT (a :: r) then k x0 x10 x11 (w64 (x12 + 1)) else some 4
  | r, p, a, 0, _, h, _ => by omega
  | [], p, a, n + 1, hz, h, hl => by
    unfold take_Check_L12
    rw [hz, lt_cat1, cond_false]
    simp [adjT]
  | b :: r, p, a, n + 1, hz, h, hl => by
    have hlen : p.length + 2 < 9223372036854775808 := by simp at hl; omega
    have ih := takeT_loop N k x0 x10 x11 x12 z r (p ++ [a]) b n (by rw [hz]; exact cat_next p a (b :: r)) (by simp only [List.length_cons] at h; omega) (by rw [← cat_next]; exact hl)
    unfold take_Check_L12
    rw [hz, lt_cat2, cond_true, idx_cat2, Option.bind_some, back_one p (by omega), idxC_cat, Option.bind_some, on_one p a hlen, ih]
    simp only [adjT]
    by_cases hq : b.Time ≤ a.Time <;> simp [hq]
theorem refT_loop (N : Nat) (k : List VSeries → Int → Option Int) (x0 : List VSeries) (x3 : Int) (z : VSeries) (hx : idxC x0 x3 = some z) : ∀ (r p : List VSample) (a : VSample) (n : Nat), z.Samples = p ++ a :: r → r.length < n → (p ++ a :: r).length < 140737488355328 →
    ref_CheckStore_L17 N k n x0 x3 ((p.length + 1 : Nat) : Int) = if adjT (a :: r) then k x0 (w64 (x3 + 1)) else some 4
  | r, p, a, 0, _, h, _ => by omega
  | [], p, a, n + 1, hz, h, hl => by
    unfold ref_CheckStore_L17
    rw [hx, Option.bind_some, hz, lt_cat1, cond_false]
    simp [adjT]
  | b :: r, p, a, n + 1, hz, h, hl => by
    have hlen : p.length + 2 < 9223372036854775808 := by simp at hl; omega
    have ih := refT_loop N k x0 x3 z hx r (p ++ [a]) b n (by rw [hz]; exact cat_next p a (b :: r)) (by simp only [List.length_cons] at h; omega) (by rw [← cat_next]; exact hl)
    unfold ref_CheckStore_L17
    rw [hx]
    simp only [Option.bind_some]
    rw [hz, lt_cat2, cond_true, idx_cat2, Option.bind_some, back_one p (by omega), idxC_cat, Option.bind_some, on_one p a hlen, ih]
    simp only [adjT]
    by_cases hq : b.Time ≤ a.Time <;> simp [hq]
theorem refW_loop (N : Nat) (k : List VSeries → Int → Option Int) (x0 : List VSeries) (x3 : Int) (z : VSeries) (hx : idxC x0 x3 = some z) (hz0 : z.Samples ≠ []) (hl : z.Samples.length < 140737488355328) : ∀ (r p : List VSample) (n : Nat), z.Samples = p ++ r → r.length + z.Samples.length < n →
    ref_CheckStore_L12 N k n x0 x3 (p.length : Int) = if r.any wrongB then some 3 else if adjT z.Samples then k x0 (w64 (x3 + 1)) else some 4
  | r, p, 0, _, h => by omega
  | [], p, n + 1, hz, h => by
    unfold ref_CheckStore_L12
    rw [hx, Option.bind_some, hz, lt_end, cond_false]
    cases hs : z.Samples with
    | nil => exact absurd hs hz0
    | cons a r =>
      have := refT_loop N k x0 x3 z hx r [] a n (by simpa using hs) (by rw [hs] at h; simp only [List.length_cons] at h; omega) (by simpa [hs] using hl)
      simp only [List.length_nil, Nat.zero_add] at this
      rw [show (1 : Int) = ((1 : Nat) : Int) from rfl, this, ← hz, hs]
      simp
  | y :: r, p, n + 1, hz, h => by
    have hp : p.length + 1 < 9223372036854775808 := by rw [hz] at hl; simp at hl; omega
    have ih := refW_loop N k x0 x3 z hx hz0 hl r (p ++ [y]) n (by rw [hz]; exact cat_next p y r) (by simp only [List.length_cons] at h; omega)
    unfold ref_CheckStore_L12
    rw [hx]
    simp only [Option.bind_some]
    rw [hz, lt_cat, cond_true, idxC_cat, Option.bind_some, refTime_is, Option.bind_some, w64_next p y hp, ih, ← hz]
    show (bif wrongB y then some 3 else _) = _
    rw [List.any_cons]
    cases wrongB y <;> simp
theorem takeO_loop (N : Nat) (l : List VSeries) (ho : ∀ a ∈ l, ∀ b ∈ l, labels_Order N a.Labels b.Labels = some (cmpLs a.Labels b.Labels)) : ∀ (r p : List VSeries) (a : VSeries) (n : Nat), l = p ++ a :: r → r.length < n → l.length < 140737488355328 → take_Check_L18 N n l ((p.length + 1 : Nat) : Int) = some (if adjS (a :: r) then 0 else 4)
  | r, p, a, 0, _, h, _ => by omega
  | [], p, a, n + 1, hz, h, hl => by
    unfold take_Check_L18
    rw [hz, lt_cat1, cond_false]
    simp [adjS]
  | b :: r, p, a, n + 1, hz, h, hl => by
    have hlen : p.length + 2 < 9223372036854775808 := by rw [hz] at hl; simp at hl; omega
    have ih := takeO_loop N l ho r (p ++ [a]) b n (by rw [hz]; exact cat_next p a (b :: r)) (by simp only [List.length_cons] at h; omega) hl
    have hab := ho a (by rw [hz]; simp) b (by rw [hz]; simp)
    unfold take_Check_L18
    rw [on_one p a hlen, ih, hz, lt_cat2, cond_true, back_one p (by omega), idxC_cat, Option.bind_some, idx_cat2, Option.bind_some, hab, Option.bind_some]
    simp only [adjS]
    by_cases hq : cmpLs a.Labels b.Labels ≥ 0 <;> simp [hq]
theorem refO_loop (N : Nat) (l : List VSeries) (ho : ∀ a ∈ l, ∀ b ∈ l, ref_Order N a.Labels b.Labels = some (cmpLs a.Labels b.Labels)) : ∀ (r p : List VSeries) (a : VSeries) (n : Nat), l = p ++ a :: r → r.length < n → l.length < 140737488355328 → ref_CheckStore_L22 N n l ((p.length + 1 : Nat) : Int) = some (if adjS (a :: r) then 0 else 4)
  | r, p, a, 0, _, h, _ => by omega
  | [], p, a, n + 1, hz, h, hl => by
    unfold ref_CheckStore_L22
    rw [hz, lt_cat1, cond_false]
    simp [adjS]
  | b :: r, p, a, n + 1, hz, h, hl => by
    have hlen : p.length + 2 < 9223372036854775808 := by rw [hz] at hl; simp at hl; omega
    have ih := refO_loop N l ho r (p ++ [a]) b n (by rw [hz]; exact cat_next p a (b :: r)) (by simp only [List.length_cons] at h; omega) hl
    have hab := ho a (by rw [hz]; simp) b (by rw [hz]; simp)
    unfold ref_CheckStore_L22
    rw [on_one p a hlen, ih, hz, lt_cat2, cond_true, back_one p (by omega), idxC_cat, Option.bind_some, idx_cat2, Option.bind_some, hab, Option.bind_some]
    simp only [adjS]
    by_cases hq : cmpLs a.Labels b.Labels ≥ 0 <;> simp [hq]
theorem takeO_all (N : Nat) (l : List VSeries) (ho : ∀ a ∈ l, ∀ b ∈ l, labels_Order N a.Labels b.Labels = some (cmpLs a.Labels b.Labels)) (n : Nat) (h : l.length < n) (hl : l.length < 140737488355328) : take_Check_L18 N n l 1 = some (tailE l) := by
  cases hc : l with
  | nil =>
    cases n with
    | zero => omega
    | succ n => unfold take_Check_L18; simp [tailE, adjS]
  | cons a r =>
    have := takeO_loop N l ho r [] a n (by simpa using hc) (by rw [hc] at h; simp only [List.length_cons] at h; omega) hl
    rw [hc] at this
    exact this
theorem refO_all (N : Nat) (l : List VSeries) (ho : ∀ a ∈ l, ∀ b ∈ l, ref_Order N a.Labels b.Labels = some (cmpLs a.Labels b.Labels)) (n : Nat) (h : l.length < n) (hl : l.length < 140737488355328) : ref_CheckStore_L22 N n l 1 = some (tailE l) := by
  cases hc : l with
  | nil =>
    cases n with
    | zero => omega
    | succ n => unfold ref_CheckStore_L22; simp [tailE, adjS]
  | cons a r =>
    have := refO_loop N l ho r [] a n (by simpa using hc) (by rw [hc] at h; simp only [List.length_cons] at h; omega) hl
    rw [hc] at this
    exact this
theorem takeE_loop (N B : Nat) (l : List VSeries) (hc : ∀ z ∈ l, labels_Check N z.Labels = some (chkL z.Labels)) (ho : ∀ a ∈ l, ∀ b ∈ l, labels_Order N a.Labels b.Labels = some (cmpLs a.Labels b.Labels)) (hB : ∀ z ∈ l, z.Samples.length < B) (hB2 : l.length < B) (hBN : B ≤ N) (hs : ∀ z ∈ l, z.Samples.length < 140737488355328) (hl : l.length < 140737488355328) :
    ∀ (r p : List VSeries) (n : Nat), l = p ++ r → r.length + B < n → take_Check_L4 N n l l (l.length : Int) (p.length : Int) = some (firstE (tailE l) r)
  | r, p, 0, _, h => by omega
  | [], p, n + 1, hz, h => by
    unfold take_Check_L4
    have : decide ((p.length : Int) < (l.length : Int)) = false := by rw [hz]; exact lt_end p
    rw [this, cond_false]
    exact takeO_all N l ho n (by omega) hl
  | z :: r, p, n + 1, hz, h => by
    have hp : p.length + 1 < 9223372036854775808 := by rw [hz] at hl; simp at hl; omega
    have hzm : z ∈ l := by rw [hz]; simp
    have ih := takeE_loop N B l hc ho hB hB2 hBN hs hl r (p ++ [z]) n (by rw [hz]; exact cat_next p z r) (by simp only [List.length_cons] at h; omega)
    have e0 : decide ((p.length : Int) < (l.length : Int)) = true := by rw [hz]; exact lt_cat p z r
    have e1 : idxC l (p.length : Int) = some z := by rw [hz]; exact idxC_cat p z r
    unfold take_Check_L4
    rw [e0, cond_true, e1, Option.bind_some, hc z hzm, Option.bind_some, containsT_is N _ (hs z hzm) (by have := hB z hzm; omega), Option.bind_some]
    by_cases c1 : chkL z.Labels = 0
    · have : (chkL z.Labels != 0) = false := by simpa using c1
      rw [this, cond_false]
      cases hsm : z.Samples with
      | nil =>
        have hv : serE z = 3 := by unfold serE; rw [if_pos c1, if_pos hsm]
        rw [firstE_cons hv]; simp
      | cons a s =>
        have e2 : (((a :: s).length : Int) == 0) = false := by simp; omega
        rw [e2, cond_false]
        cases hw : (a :: s).any wrongB with
        | true =>
          have hv : serE z = 3 := by unfold serE; rw [if_pos c1, if_neg (by rw [hsm]; simp), if_pos (by rw [hsm]; exact hw)]
          rw [firstE_cons hv]; simp
        | false =>
          have hv : serE z = if adjT (a :: s) then 0 else 4 := by unfold serE; rw [if_pos c1, if_neg (by rw [hsm]; simp), if_neg (by rw [hsm, hw]; simp), hsm]
          have hT := takeT_loop N (take_Check_L4 N n) l l (l.length : Int) (p.length : Int) z s [] a n (by simpa using hsm) (by have := hB z hzm; rw [hsm] at this; simp only [List.length_cons] at this; omega) (by have := hs z hzm; rwa [hsm] at this)
          simp only [List.length_nil, Nat.zero_add] at hT
          rw [cond_false, show (1 : Int) = ((1 : Nat) : Int) from rfl, hT, w64_next p z hp, ih, firstE_cons hv]
          cases adjT (a :: s) <;> simp
    · have : (chkL z.Labels != 0) = true := by simpa using c1
      have hv : serE z = chkL z.Labels := by unfold serE; rw [if_neg c1]
      rw [this, cond_true, firstE_cons hv, if_neg c1]
theorem refE_loop (N B : Nat) (l : List VSeries) (hc : ∀ z ∈ l, ref_CheckLabels N z.Labels = some (chkL z.Labels)) (ho : ∀ a ∈ l, ∀ b ∈ l, ref_Order N a.Labels b.Labels = some (cmpLs a.Labels b.Labels)) (hB : ∀ z ∈ l, 2 * z.Samples.length < B) (hB2 : l.length < B) (hs : ∀ z ∈ l, z.Samples.length < 140737488355328) (hl : l.length < 140737488355328) :
    ∀ (r p : List VSeries) (n : Nat), l = p ++ r → r.length + B < n → ref_CheckStore_L4 N n l (p.length : Int) = some (firstE (tailE l) r)
  | r, p, 0, _, h => by omega
  | [], p, n + 1, hz, h => by
    unfold ref_CheckStore_L4
    have : decide ((p.length : Int) < (l.length : Int)) = false := by rw [hz]; exact lt_end p
    rw [this, cond_false]
    exact refO_all N l ho n (by omega) hl
  | z :: r, p, n + 1, hz, h => by
    have hp : p.length + 1 < 9223372036854775808 := by rw [hz] at hl; simp at hl; omega
    have hzm : z ∈ l := by rw [hz]; simp
    have ih := refE_loop N B l hc ho hB hB2 hs hl r (p ++ [z]) n (by rw [hz]; exact cat_next p z r) (by simp only [List.length_cons] at h; omega)
    have e0 : decide ((p.length : Int) < (l.length : Int)) = true := by rw [hz]; exact lt_cat p z r
    have e1 : idxC l (p.length : Int) = some z := by rw [hz]; exact idxC_cat p z r
    unfold ref_CheckStore_L4
    rw [e0, cond_true, e1]
    simp only [Option.bind_some]
    rw [hc z hzm, Option.bind_some]
    by_cases c1 : chkL z.Labels = 0
    · have : (chkL z.Labels != 0) = false := by simpa using c1
      rw [this, cond_false]
      by_cases hsm : z.Samples = []
      · have hv : serE z = 3 := by unfold serE; rw [if_pos c1, if_pos hsm]
        rw [firstE_cons hv, hsm]; simp
      · have e2 : ((z.Samples.length : Int) == 0) = false := by simp; exact hsm
        have hW := refW_loop N (ref_CheckStore_L4 N n) l (p.length : Int) z e1 hsm (hs z hzm) z.Samples [] n rfl (by have := hB z hzm; omega)
        have hv : serE z = if z.Samples.any wrongB then 3 else if adjT z.Samples then 0 else 4 := by unfold serE; rw [if_pos c1, if_neg hsm]
        simp only [List.length_nil] at hW
        rw [e2, cond_false, show (0 : Int) = ((0 : Nat) : Int) from rfl, hW, w64_next p z hp, ih, firstE_cons hv]
        cases z.Samples.any wrongB <;> cases adjT z.Samples <;> simp
    · have : (chkL z.Labels != 0) = true := by simpa using c1
      have hv : serE z = chkL z.Labels := by unfold serE; rw [if_neg c1]
      rw [this, cond_true, firstE_cons hv, if_neg c1]
def WStore (l : List VSeries) : Prop := l.length < 140737488355328 ∧ ∀ z ∈ l, WLab z.Labels ∧ z.Samples.length < 140737488355328
def storeE (l : List VSeries) : Int := if manyB l then 2 else firstE (tailE l) l
theorem lens (l : List VSeries) : ∃ B, l.length < B ∧ ∀ z ∈ l, 2 * z.Samples.length < B := by
  have h := ev_allP (P := fun N (z : VSeries) => 2 * z.Samples.length < N) l fun z _ => ⟨2 * z.Samples.length + 1, fun N hN => by omega⟩
  obtain ⟨B, hB⟩ := h
  exact ⟨max B (l.length + 1), by omega, hB _ (by omega)⟩
theorem orders_ev (l : List VSeries) (hw : WStore l) : ∃ N0, ∀ N, N0 ≤ N → ∀ a ∈ l, ∀ b ∈ l, labels_Order N a.Labels b.Labels = some (cmpLs a.Labels b.Labels) := by
  refine ev_allP l fun a ha => ev_allP l fun b hb => ?_
  exact order_ev a.Labels b.Labels (hw.2 a ha).1 (hw.2 b hb).1
theorem refOrders_ev (l : List VSeries) (hw : WStore l) : ∃ N0, ∀ N, N0 ≤ N → ∀ a ∈ l, ∀ b ∈ l, ref_Order N a.Labels b.Labels = some (cmpLs a.Labels b.Labels) := by
  refine ev_allP l fun a ha => ev_allP l fun b hb => ?_
  exact refOrder_ev a.Labels b.Labels (hw.2 a ha).1 (hw.2 b hb).1
theorem take_ev (l : List VSeries) (hw : WStore l) : Ev (fun N => take_Check N l) (storeE l) := by
  obtain ⟨N1, h1⟩ := ev_allP (P := fun N (z : VSeries) => labels_Check N z.Labels = some (chkL z.Labels)) l fun z hz => check_ev z.Labels (hw.2 z hz).1
  obtain ⟨N2, h2⟩ := orders_ev l hw
  obtain ⟨B, hB1, hB2⟩ := lens l
  refine ⟨max N1 (max N2 (l.length + B + 1)), fun N hN => ?_⟩
  have h := takeE_loop N B l (h1 N (by omega)) (h2 N (by omega)) (fun z hz => by have := hB2 z hz; omega) hB1 (by omega) (fun z hz => by have := (hw.2 z hz).2; omega) hw.1 l [] N rfl (by omega)
  show take_Check N l = _
  unfold take_Check storeE
  rw [many_is N l hw.1 (by omega), Option.bind_some]
  simp only [List.length_nil] at h
  rw [show (0 : Int) = ((0 : Nat) : Int) from rfl, h]
  cases manyB l <;> rfl
theorem refStore_ev (l : List VSeries) (hw : WStore l) : Ev (fun N => ref_CheckStore N l) (storeE l) := by
  obtain ⟨N1, h1⟩ := ev_allP (P := fun N (z : VSeries) => ref_CheckLabels N z.Labels = some (chkL z.Labels)) l fun z hz => refCheck_ev z.Labels (hw.2 z hz).1
  obtain ⟨N2, h2⟩ := refOrders_ev l hw
  obtain ⟨B, hB1, hB2⟩ := lens l
  refine ⟨max N1 (max N2 (l.length + B + 1)), fun N hN => ?_⟩
  have h := refE_loop N B l (h1 N (by omega)) (h2 N (by omega)) hB2 hB1 (fun z hz => by have := (hw.2 z hz).2; omega) hw.1 l [] N rfl (by omega)
  show ref_CheckStore N l = _
  unfold ref_CheckStore storeE
  rw [great_is N l hw.1 (by omega), Option.bind_some]
  simp only [List.length_nil] at h
  rw [show (0 : Int) = ((0 : Nat) : Int) from rfl, h]
  cases manyB l <;> rfl
end Go.Proofs.Ytmoehipmpchofaa
