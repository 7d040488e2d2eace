-- slim: written by gen/slim.py from XLQ.lean.tpl
/- Logs in plain Lean: what is appended is read; cut off, what was whole is read. -/
import Derived.Test.YtgidmcfnnmheoaaLP
namespace Go.Proofs.Ytgidmcfnnmheoaa
open P
set_option linter.unusedSimpArgs false
set_option linter.unusedVariables false

def cutB (s : List UInt8) (a m : Nat) : List UInt8 := (s.drop a).take m
theorem cutB_len {s u : List UInt8} {a m : Nat} (h : cutB s a m = u) (hu : u.length = m) (hm : 0 < m) : a + m ≤ s.length := by
  have := congrArg List.length h
  simp [cutB] at this
  omega
theorem cutB_cut {s : List UInt8} {a m b n : Nat} (h : b + n ≤ m) : cutB (cutB s a m) b n = cutB s (a + b) n := by
  unfold cutB
  rw [List.drop_take, List.take_take, List.drop_drop]
  congr 1
  omega
theorem cutB_get {s : List UInt8} {a m i : Nat} (h : i < m) : (cutB s a m).getD i 0 = s.getD (a + i) 0 := by
  unfold cutB
  simp only [List.getD_eq_getElem?_getD]
  rw [List.getElem?_take_of_lt h, List.getElem?_drop]
theorem cutB_mid {u v r : List UInt8} : cutB (u ++ (v ++ r)) u.length v.length = v := by simp [cutB]
theorem cutB_take {s : List UInt8} {c a m : Nat} (h : a + m ≤ c) : cutB (s.take c) a m = cutB s a m := by
  unfold cutB
  rw [List.drop_take, List.take_take]
  congr 1
  omega

/-- What a part of kind k, with t in it, makes of what was read. -/
def nextSt (x : RdSt) (k : Nat) (t : List UInt8) : RdSt :=
  if k = 1 ∨ k = 4 then ⟨x.out ++ [x.opn ++ t], x.ends ++ [x.at_ + padN x.at_ + 7 + t.length], [], false, x.at_ + padN x.at_ + 7 + t.length⟩
  else ⟨x.out, x.ends, x.opn ++ t, true, x.at_ + padN x.at_ + 7 + t.length⟩
theorem nextSt_pos {x : RdSt} {k : Nat} {t : List UInt8} (h : k = 1 ∨ k = 4) : nextSt x k t = ⟨x.out ++ [x.opn ++ t], x.ends ++ [x.at_ + padN x.at_ + 7 + t.length], [], false, x.at_ + padN x.at_ + 7 + t.length⟩ := if_pos h
theorem nextSt_neg {x : RdSt} {k : Nat} {t : List UInt8} (h : ¬ (k = 1 ∨ k = 4)) : nextSt x k t = ⟨x.out, x.ends, x.opn ++ t, true, x.at_ + padN x.at_ + 7 + t.length⟩ := if_neg h
theorem nextSt_at (x : RdSt) (k : Nat) (t : List UInt8) : (nextSt x k t).at_ = x.at_ + padN x.at_ + 7 + t.length := by unfold nextSt; split <;> rfl
/-- Such a part lies there. -/
def PartAt (s : List UInt8) (x : RdSt) (k : Nat) (t : List UInt8) : Prop :=
  1 ≤ k ∧ k ≤ 4 ∧ ¬ x.inn = decide (k ≤ 2) ∧ (x.at_ + padN x.at_) % 128 + 7 + t.length ≤ 128 ∧ cutB s x.at_ (padN x.at_ + (7 + t.length)) = zerosB (padN x.at_) ++ partB k t
theorem PartAt.le {s : List UInt8} {x : RdSt} {k : Nat} {t : List UInt8} (h : PartAt s x k t) : (nextSt x k t).at_ ≤ s.length := by
  rw [nextSt_at]
  have := cutB_len h.2.2.2.2 (by simp [zerosB, partB_length]) (by omega)
  omega
theorem byt_toNat {n : Nat} (h : n < 256) : (byt n).toNat = n := by
  unfold byt
  rw [UInt8.toNat_ofNat']
  omega
theorem rdStep_of {s : List UInt8} {x : RdSt} {k : Nat} {t : List UInt8} (h : PartAt s x k t) : rdStep s x = some (nextSt x k t) := by
  have hle := h.le
  rw [nextSt_at] at hle
  obtain ⟨h1, h2, h3, h4, h5⟩ := h
  have e1 : (s.drop x.at_).take (padN x.at_) = zerosB (padN x.at_) := by
    have := cutB_cut (s := s) (a := x.at_) (m := padN x.at_ + (7 + t.length)) (b := 0) (n := padN x.at_) (by omega)
    rw [h5] at this
    rw [show (s.drop x.at_).take (padN x.at_) = cutB s (x.at_ + 0) (padN x.at_) from rfl, ← this]
    simp [cutB, zerosB]
  have e2 : cutB s (x.at_ + padN x.at_) (7 + t.length) = partB k t := by
    have := cutB_cut (s := s) (a := x.at_) (m := padN x.at_ + (7 + t.length)) (b := padN x.at_) (n := 7 + t.length) (by omega)
    rw [h5] at this
    rw [← this]
    have hm := cutB_mid (u := zerosB (padN x.at_)) (v := partB k t) (r := [])
    rw [List.append_nil, zerosB_length, partB_length] at hm
    exact hm
  have e3 : s.getD (x.at_ + padN x.at_) 0 = byt k := by
    have := cutB_get (s := s) (a := x.at_ + padN x.at_) (m := 7 + t.length) (i := 0) (by omega)
    rw [e2] at this
    exact this.symm
  have e4 : s.getD (x.at_ + padN x.at_ + 1) 0 = byt t.length := by
    have := cutB_get (s := s) (a := x.at_ + padN x.at_) (m := 7 + t.length) (i := 1) (by omega)
    rw [e2] at this
    exact this.symm
  have e5 : s.getD (x.at_ + padN x.at_ + 2) 0 = byt (t.length / 256) := by
    have := cutB_get (s := s) (a := x.at_ + padN x.at_) (m := 7 + t.length) (i := 2) (by omega)
    rw [e2] at this
    exact this.symm
  have e6 : (s.drop (x.at_ + padN x.at_ + 7)).take t.length = t := by
    have := cutB_cut (s := s) (a := x.at_ + padN x.at_) (m := 7 + t.length) (b := 7) (n := t.length) (by omega)
    rw [e2] at this
    rw [show (s.drop (x.at_ + padN x.at_ + 7)).take t.length = cutB s (x.at_ + padN x.at_ + 7) t.length from rfl, ← this]
    simp [cutB, partB, headB]
  unfold rdStep
  dsimp only
  rw [if_neg (by rw [e1]; simp), if_neg (by omega), e3, e4, e5, byt_toNat (by omega), byt_toNat (by omega), byt_toNat (by omega)]
  have e7 : t.length + 256 * (t.length / 256) = t.length := by omega
  rw [e7, if_neg (by omega), if_neg (by rintro (hh | hh | hh); omega; omega; exact h3 hh), e6, if_neg (by rw [show (s.drop (x.at_ + padN x.at_)).take (7 + t.length) = partB k t from e2]; simp)]
  unfold nextSt
  split <;> rfl
theorem rdStep_inv {s : List UInt8} {x y : RdSt} (h : rdStep s x = some y) : ∃ k t, PartAt s x k t ∧ y = nextSt x k t := by
  unfold rdStep at h
  dsimp only at h
  by_cases c1 : (s.drop x.at_).take (padN x.at_) = zerosB (padN x.at_)
  · rw [if_neg (by simpa using c1)] at h
    by_cases c2 : s.length < x.at_ + padN x.at_ + 7
    · rw [if_pos c2] at h; cases h
    rw [if_neg c2] at h
    generalize hk : (s.getD (x.at_ + padN x.at_) 0).toNat = k at h
    generalize hn : (s.getD (x.at_ + padN x.at_ + 1) 0).toNat + 256 * (s.getD (x.at_ + padN x.at_ + 2) 0).toNat = n at h
    by_cases c3 : s.length < x.at_ + padN x.at_ + 7 + n ∨ 128 < (x.at_ + padN x.at_) % 128 + 7 + n
    · rw [if_pos c3] at h; cases h
    rw [if_neg c3] at h
    by_cases c4 : k < 1 ∨ 4 < k ∨ x.inn = decide (k ≤ 2)
    · rw [if_pos c4] at h; cases h
    rw [if_neg c4] at h
    by_cases c5 : partB k ((s.drop (x.at_ + padN x.at_ + 7)).take n) = (s.drop (x.at_ + padN x.at_)).take (7 + n)
    · rw [if_neg (by simpa using c5)] at h
      have hl : ((s.drop (x.at_ + padN x.at_ + 7)).take n).length = n := by simp; omega
      refine ⟨k, (s.drop (x.at_ + padN x.at_ + 7)).take n, ⟨by omega, by omega, fun e => c4 (.inr (.inr e)), by omega, ?_⟩, ?_⟩
      · rw [hl, c5]
        unfold cutB
        rw [List.take_add, c1, List.drop_drop]
      · unfold nextSt
        rw [hl]
        split at h
        · rw [if_pos (by assumption)]; cases h; rfl
        · rw [if_neg (by assumption)]; cases h; rfl
    · rw [if_pos (by simpa using c5)] at h; cases h
  · rw [if_pos (by simpa using c1)] at h; cases h
theorem PartAt.same {s s' : List UInt8} {x : RdSt} {k : Nat} {t : List UInt8} {c : Nat} (h : PartAt s x k t) (hc : s.take c = s'.take c) (hle : (nextSt x k t).at_ ≤ c) : PartAt s' x k t := by
  obtain ⟨h1, h2, h3, h4, h5⟩ := h
  rw [nextSt_at] at hle
  refine ⟨h1, h2, h3, h4, ?_⟩
  rw [← h5, ← cutB_take (s := s') (c := c) (by omega), ← hc, cutB_take (by omega)]
theorem rdStep_same {s s' : List UInt8} {x y : RdSt} {c : Nat} (h : rdStep s x = some y) (hc : s.take c = s'.take c) (hle : y.at_ ≤ c) : rdStep s' x = some y := by
  obtain ⟨k, t, h1, rfl⟩ := rdStep_inv h
  exact rdStep_of (h1.same hc hle)

/-! ### Runs -/
inductive Steps (s : List UInt8) : RdSt → RdSt → Prop
  | refl (x : RdSt) : Steps s x x
  | tail {x y z : RdSt} (h : Steps s x y) (k : rdStep s y = some z) : Steps s x z
theorem Steps.trans {s : List UInt8} {x y z : RdSt} (h : Steps s x y) (k : Steps s y z) : Steps s x z := by
  induction k with
  | refl => exact h
  | tail _ e ih => exact .tail ih e
theorem Steps.head {s : List UInt8} {x y z : RdSt} (e : rdStep s x = some y) (k : Steps s y z) : Steps s x z := (Steps.tail (.refl _) e).trans k
theorem Steps.le {s : List UInt8} {x y : RdSt} (h : Steps s x y) : x.at_ ≤ y.at_ := by
  induction h with
  | refl => exact Nat.le_refl _
  | tail _ e ih => have := rdStep_at e; omega
theorem Steps.bound {s : List UInt8} {x y : RdSt} (h : Steps s x y) (hx : x.at_ ≤ s.length) : y.at_ ≤ s.length := by
  cases h with
  | refl => exact hx
  | tail _ e => exact (rdStep_at e).2
theorem Steps.same {s s' : List UInt8} {x y : RdSt} {c : Nat} (h : Steps s x y) (hc : s.take c = s'.take c) (hle : y.at_ ≤ c) : Steps s' x y := by
  induction h with
  | refl => exact .refl _
  | tail h e ih =>
    have := rdStep_at e
    exact .tail (ih (by omega)) (rdStep_same e hc hle)
theorem Steps.cases_head {s : List UInt8} {x z : RdSt} (h : Steps s x z) : x = z ∨ ∃ y, rdStep s x = some y ∧ Steps s y z := by
  induction h with
  | refl => exact .inl rfl
  | tail h e ih =>
    rcases ih with rfl | ⟨w, h1, h2⟩
    · exact .inr ⟨_, e, .refl _⟩
    · exact .inr ⟨w, h1, .tail h2 e⟩
theorem rdLoop_steps (s : List UInt8) (n : Nat) (x : RdSt) (hn : s.length < x.at_ + n) : Steps s x (rdLoop s x n) ∧ rdStep s (rdLoop s x n) = none := by
  induction n generalizing x with
  | zero =>
    refine ⟨.refl _, ?_⟩
    cases h : rdStep s x with
    | none => exact h
    | some y => have := rdStep_at h; omega
  | succ n ih =>
    cases h : rdStep s x with
    | none => rw [rdLoop_none h]; exact ⟨.refl _, h⟩
    | some y =>
      rw [rdLoop_some h]
      have := rdStep_at h
      obtain ⟨h1, h2⟩ := ih y (by omega)
      exact ⟨h1.head h, h2⟩
theorem rdLoop_is {s : List UInt8} {n : Nat} {x z : RdSt} (hn : s.length < x.at_ + n) (h : Steps s x z) (hz : rdStep s z = none) : rdLoop s x n = z := by
  induction n generalizing x with
  | zero =>
    rcases h.cases_head with rfl | ⟨y, h1, _⟩
    · rfl
    · have := rdStep_at h1; omega
  | succ n ih =>
    rcases h.cases_head with rfl | ⟨y, h1, h2⟩
    · exact rdLoop_none hz _
    · rw [rdLoop_some h1]
      have := rdStep_at h1
      exact ih (by omega) h2
def st0 : RdSt := ⟨[], [], [], false, 0⟩
theorem rdB_steps (s : List UInt8) : Steps s st0 (rdB s) ∧ rdStep s (rdB s) = none := rdLoop_steps s _ _ (by show _ < 0 + (s.length + 1); omega)
theorem rdB_is {s : List UInt8} {z : RdSt} (h : Steps s st0 z) (hz : rdStep s z = none) : rdB s = z := rdLoop_is (by show _ < 0 + (s.length + 1); omega) h hz
theorem rdStep_end {s : List UInt8} {x : RdSt} (h : s.length ≤ x.at_) : rdStep s x = none := by
  cases e : rdStep s x with
  | none => rfl
  | some y => have := rdStep_at e; omega
def lastN (l : List Nat) : Nat := l.getLastD 0
/-! ### What is appended is read -/
theorem lgAppR_pre (log rec : List UInt8) (first : Bool) (n : Nat) : ∃ r, lgAppR log rec first n = log ++ r := by
  induction n generalizing log rec first with
  | zero => exact ⟨[], by simp [lgAppR]⟩
  | succ n ih =>
    unfold lgAppR
    dsimp only
    split
    · exact ⟨_, by rw [List.append_assoc]⟩
    · obtain ⟨r, hr⟩ := ih ((log ++ zerosB (padN log.length)) ++ partB (kindB first (min rec.length (121 - (log ++ zerosB (padN log.length)).length % 128) == rec.length)) (rec.take (min rec.length (121 - (log ++ zerosB (padN log.length)).length % 128)))) (rec.drop (min rec.length (121 - (log ++ zerosB (padN log.length)).length % 128))) false
      exact ⟨_, by rw [hr, List.append_assoc, List.append_assoc]⟩
/-- How many rounds it needs at most. -/
def needR (log rec : List UInt8) : Nat := 2 * rec.length + 1 + (if (log.length + padN log.length) % 128 = 121 then 1 else 0)
theorem needR_le (log rec : List UInt8) : needR log rec ≤ 2 * rec.length + 2 := by unfold needR; split <;> omega
/-- One round. -/
def rndN (log rec : List UInt8) : Nat := min rec.length (121 - (log.length + padN log.length) % 128)
def rndL (log rec : List UInt8) (first : Bool) : List UInt8 := log ++ (zerosB (padN log.length) ++ partB (kindB first (rndN log rec == rec.length)) (rec.take (rndN log rec)))
theorem lgAppR_succ (log rec : List UInt8) (first : Bool) (n : Nat) : lgAppR log rec first (n + 1) = if rndN log rec = rec.length then rndL log rec first else lgAppR (rndL log rec first) (rec.drop (rndN log rec)) false n := by
  conv => lhs; unfold lgAppR
  dsimp only
  rw [List.length_append, zerosB_length, List.append_assoc]
  rfl
theorem rndL_length (log rec : List UInt8) (first : Bool) : (rndL log rec first).length = log.length + padN log.length + 7 + rndN log rec := by
  unfold rndL
  simp only [List.length_append, zerosB_length, partB_length, List.length_take]
  have : rndN log rec ≤ rec.length := Nat.min_le_left _ _
  omega
theorem needR_next {log rec : List UInt8} {first : Bool} (h : ¬ rndN log rec = rec.length) : needR (rndL log rec first) (rec.drop (rndN log rec)) + 1 ≤ needR log rec := by
  have h1 := padN_mod log.length
  have h2 : rndN log rec = 121 - (log.length + padN log.length) % 128 := by unfold rndN at h ⊢; omega
  have h3 : rndN log rec < rec.length := by unfold rndN at h ⊢; omega
  have h4 := rndL_length log rec first
  have h5 : (rndL log rec first).length % 128 = 0 := by omega
  have h6 : padN (rndL log rec first).length = 0 := by unfold padN; rw [if_neg (by omega)]
  unfold needR
  rw [h6, List.length_drop, if_neg (by omega)]
  split <;> omega
theorem kindB_ok (first last : Bool) : 1 ≤ kindB first last ∧ kindB first last ≤ 4 ∧ ¬ (!first) = decide (kindB first last ≤ 2) ∧ ((kindB first last = 1 ∨ kindB first last = 4) ↔ last = true) := by
  cases first <;> cases last <;> decide
/-- The part of a round is read. -/
theorem rnd_part {s log rec : List UInt8} {first : Bool} {x : RdSt} (hx : x.at_ = log.length) (hi : x.inn = !first) (hs : s.take (rndL log rec first).length = rndL log rec first) : rdStep s x = some (nextSt x (kindB first (rndN log rec == rec.length)) (rec.take (rndN log rec))) := by
  obtain ⟨k1, k2, k3, _⟩ := kindB_ok first (rndN log rec == rec.length)
  have hn : (rec.take (rndN log rec)).length = rndN log rec := by rw [List.length_take]; have : rndN log rec ≤ rec.length := Nat.min_le_left _ _; omega
  have hm := padN_mod log.length
  refine rdStep_of ⟨k1, k2, by rw [hi]; exact k3, ?_, ?_⟩
  · rw [hx, hn]
    unfold rndN
    omega
  · have hl := rndL_length log rec first
    rw [hx, hn, ← cutB_take (c := (rndL log rec first).length) (by omega), hs]
    have : padN log.length + (7 + rndN log rec) = (zerosB (padN log.length) ++ partB (kindB first (rndN log rec == rec.length)) (rec.take (rndN log rec))).length := by
      rw [List.length_append, zerosB_length, partB_length, hn]
    rw [this]
    unfold rndL
    have := cutB_mid (u := log) (v := zerosB (padN log.length) ++ partB (kindB first (rndN log rec == rec.length)) (rec.take (rndN log rec))) (r := [])
    rw [List.append_nil] at this
    exact this
/-- A record that is appended is read; while it is not whole, nothing more is. -/
theorem lgAppR_read {log rec : List UInt8} {first : Bool} {n : Nat} {x : RdSt} (hn : needR log rec ≤ n) (hx : x.at_ = log.length) (hi : x.inn = !first) :
    Steps (lgAppR log rec first n) x ⟨x.out ++ [x.opn ++ rec], x.ends ++ [(lgAppR log rec first n).length], [], false, (lgAppR log rec first n).length⟩ ∧
    ∀ c z, log.length ≤ c → c < (lgAppR log rec first n).length → Steps ((lgAppR log rec first n).take c) x z → z.out = x.out ∧ z.ends = x.ends := by
  induction n generalizing log rec first x with
  | zero => unfold needR at hn; omega
  | succ n ih =>
    rw [lgAppR_succ]
    have hl := rndL_length log rec first
    have ht : (rec.take (rndN log rec)).length = rndN log rec := by rw [List.length_take]; have : rndN log rec ≤ rec.length := Nat.min_le_left _ _; omega
    obtain ⟨k1, k2, k3, k4⟩ := kindB_ok first (rndN log rec == rec.length)
    by_cases he : rndN log rec = rec.length
    · rw [if_pos he]
      have hp := rnd_part (s := rndL log rec first) (rec := rec) hx hi (by rw [List.take_length])
      have hk : kindB first (rndN log rec == rec.length) = 1 ∨ kindB first (rndN log rec == rec.length) = 4 := k4.2 (by simpa using he)
      have hnx : nextSt x (kindB first (rndN log rec == rec.length)) (rec.take (rndN log rec)) = ⟨x.out ++ [x.opn ++ rec], x.ends ++ [(rndL log rec first).length], [], false, (rndL log rec first).length⟩ := by
        unfold nextSt
        rw [if_pos hk, ht, hx, hl, he, List.take_length]
      rw [hnx] at hp
      refine ⟨.tail (.refl _) hp, fun c z h1 h2 h3 => ?_⟩
      rcases h3.cases_head with rfl | ⟨y, h4, h5⟩
      · exact ⟨rfl, rfl⟩
      · exfalso
        have h6 := rdStep_at h4
        rw [List.length_take] at h6
        have h7 := rdStep_same (s' := rndL log rec first) (c := c) h4 (by rw [List.take_take, Nat.min_self]) (by omega)
        rw [hp] at h7
        cases h7
        dsimp only at h6
        omega
    · rw [if_neg he]
      have hne : ¬ (rndN log rec == rec.length) = true := by simpa using he
      obtain ⟨r, hr⟩ := lgAppR_pre (rndL log rec first) (rec.drop (rndN log rec)) false n
      have htk : (lgAppR (rndL log rec first) (rec.drop (rndN log rec)) false n).take (rndL log rec first).length = rndL log rec first := by rw [hr]; simp
      have hp := rnd_part (s := lgAppR (rndL log rec first) (rec.drop (rndN log rec)) false n) (rec := rec) hx hi htk
      have hnx : nextSt x (kindB first (rndN log rec == rec.length)) (rec.take (rndN log rec)) = ⟨x.out, x.ends, x.opn ++ rec.take (rndN log rec), true, (rndL log rec first).length⟩ := by
        unfold nextSt
        rw [if_neg (fun hk => hne (k4.1 hk)), ht, hx, hl]
      rw [hnx] at hp
      have hnd := needR_next (first := first) he
      obtain ⟨i1, i2⟩ := ih (log := rndL log rec first) (rec := rec.drop (rndN log rec)) (first := false) (x := ⟨x.out, x.ends, x.opn ++ rec.take (rndN log rec), true, (rndL log rec first).length⟩) (by omega) rfl rfl
      dsimp only at i1 i2
      rw [List.append_assoc, List.take_append_drop] at i1
      refine ⟨i1.head hp, fun c z h1 h2 h3 => ?_⟩
      rcases h3.cases_head with rfl | ⟨y, h4, h5⟩
      · exact ⟨rfl, rfl⟩
      · have h6 := rdStep_at h4
        rw [List.length_take] at h6
        have h7 := rdStep_same (s' := lgAppR (rndL log rec first) (rec.drop (rndN log rec)) false n) (c := c) h4 (by rw [List.take_take, Nat.min_self]) (by omega)
        rw [hp] at h7
        cases h7
        dsimp only at h6
        exact i2 c z (by omega) h2 h5
theorem lgApp_read {log rec : List UInt8} {x : RdSt} (hx : x.at_ = log.length) (hi : x.inn = false) (ho : x.opn = []) :
    Steps (lgApp log rec) x ⟨x.out ++ [rec], x.ends ++ [(lgApp log rec).length], [], false, (lgApp log rec).length⟩ ∧
    ∀ c z, log.length ≤ c → c < (lgApp log rec).length → Steps ((lgApp log rec).take c) x z → z.out = x.out ∧ z.ends = x.ends := by
  have := lgAppR_read (log := log) (rec := rec) (first := true) (x := x) (needR_le log rec) hx (by rw [hi]; rfl)
  rw [ho, List.nil_append] at this
  exact this
theorem lgApp_pre (log rec : List UInt8) : ∃ r, lgApp log rec = log ++ r := lgAppR_pre _ _ _ _
/-- How much longer a log becomes. -/
theorem lgAppR_len {log rec : List UInt8} {first : Bool} {n : Nat} (hn : needR log rec ≤ n) : (lgAppR log rec first n).length * 121 ≤ log.length * 121 + rec.length * 128 + 1700 + (if log.length % 128 = 0 then 0 else 1600) := by
  induction n generalizing log rec first with
  | zero => unfold needR at hn; omega
  | succ n ih =>
    rw [lgAppR_succ]
    have hl := rndL_length log rec first
    have hp := padN_le log.length
    have hm := padN_mod log.length
    by_cases he : rndN log rec = rec.length
    · rw [if_pos he]
      split <;> omega
    · rw [if_neg he]
      have hnd := needR_next (first := first) he
      have h2 : rndN log rec = 121 - (log.length + padN log.length) % 128 := by unfold rndN at he ⊢; omega
      have h3 : rndN log rec < rec.length := by unfold rndN at he ⊢; omega
      have h5 : (rndL log rec first).length % 128 = 0 := by omega
      have := ih (log := rndL log rec first) (rec := rec.drop (rndN log rec)) (first := false) (by omega)
      rw [List.length_drop, if_pos h5] at this
      by_cases h0 : log.length % 128 = 0
      · have h6 : padN log.length = 0 := by unfold padN; rw [if_neg (by omega)]
        rw [if_pos h0]
        omega
      · rw [if_neg h0]
        omega
theorem lgApp_len (log rec : List UInt8) : (lgApp log rec).length * 121 ≤ log.length * 121 + rec.length * 128 + 3300 := by
  have := lgAppR_len (log := log) (rec := rec) (first := true) (needR_le log rec)
  unfold lgApp
  split at this <;> omega
end Go.Proofs.Ytgidmcfnnmheoaa
