import Derived.Test.YtmjpdbbjiipnfaaGreatBk06
import Derived.Shelf.SlSortCmp.WholeK
import Derived.Shelf.SlSortCmp.NoneTotal
import Derived.Test.YtmjpdbbjiipnfaaGreatProg
import Derived.ProofKit
import Derived.OpenShut
import Derived.Deep.Slices
set_option linter.unusedSimpArgs false
set_option linter.unusedVariables false
namespace Go.Proofs.YtmjpdbbjiipnfaaGreat
open Go.RowKit P
set_option linter.unusedSimpArgs false
set_option linter.unusedVariables false
theorem rJ {P : Program} {T : Tys P} {σ : AS} {t u ty e : TypeId} {x y : Operand} {pos : String} {af : Array Edge} {g : Option (Nat × Bool)} {d by_ sz N : Nat} {us : List AV} {du : TypeDesc} (hx : opV σ x = some (.cl sz [])) (ht : look T.ty t = some (.slice e)) (hu : look T.ty u = some du) (hnz : du = .string ∨ ∃ e', du = .slice e') (hz : look T.sz e = some (sz, by_)) (hb1 : 1 ≤ by_)
  (hsrc : ∀ F X (a : Act), SimE F X σ a.tmps → ∃ vs, SrcA P X sz N N us (a.eval y) vs) (hN : 0 < N) (hfit : N * by_ ≤ 140737488355328) (hpl : eH us) (hd : Nat.ble (d + 1) σ.n = true)
  {R : AS → Prop} (hR : ∀ k' cap (vs : List Value), d9 k' σ.h → N ≤ cap → (us ++ vs.map AV.v).length = cap * sz → R ((σ.box k' (us ++ vs.map AV.v)).put d (.v (.slice (some ⟨k', 0, none⟩) N cap)))) : bB P ⟨some d, .call { callee := .builtin .append, args := #[x, y], argTypes := #[t, u] }, ty, pos, af, g⟩ σ R := by
 refine qs (Fact := fun cap sp => N ≤ cap ∧ (us ++ sp).length = cap * sz ∧ ∃ vs : List Value, sp = vs.map AV.v) rfl hd (fun cap sp h v hv => ?_) (fun F X a hs => ?_) (fun k' cap sp hk ⟨h1, h2, vs, h3⟩ => by subst h3; exact hR k' cap vs hk h1 h2)
 ·rcases List.mem_append.1 hv with hv | hv
  ·exact hpl v hv
  ·obtain ⟨vs, rfl⟩ := h.2.2
   obtain ⟨z, _, rfl⟩ := List.mem_map.1 hv; rfl
 ·have hrel := aT hs hx
  obtain ⟨vs, hv⟩ := hsrc F X a hs
  obtain ⟨i, hi1, hi2, hi3, zv, hi4, hi5⟩ := T.szOk _ _ _ hz
  generalize hxv : a.eval x = xv at hrel
  cases hrel with
  | cl _ _ ad n hr =>
    have hn : n = 0 := by
     obtain ⟨a1, c1, h1⟩ := dK hr
     cases h1; rfl
    subst hn
    have hcge := grownCap_ge X.w (0 + N) 0 e
    have hold : ∀ w', w'.heap = X.w.heap → (Builtin.firstCells i.size 0 (.slice ad 0 0)).run P w' = .ok ([] : List Value).toArray w' := fun w' _ => by
     cases ad with
     | none => simp [Builtin.firstCells]
     | some b => exact run_firstCells_some (P := P) (w := w') i.size 0 b 0 0 [] (by simp) (fun j v hv => by simp at hv)
    have hrun := eI (P := P) (ty := ty) (sLen := 0) (sCap := 0) (a := ad) (m := N) (olds := []) (news := vs) (x := a.eval y) (T.tyOk _ _ ht) (T.tyOk _ _ hu) hnz hi1 hi4 ⟨hv.len, by rw [hi2]; exact hv.first, by rw [hi2]; exact hv.lv⟩ hold (by omega) (by rw [hi3, Nat.zero_add]; exact hfit) (by rw [hi3]; exact hb1)
    rw [Nat.zero_add] at hrun hcge
    refine ⟨_, e, grownCap X.w N 0 e, (Builtin.zeroCells zv.cells (grownCap X.w N 0 e - N)).toList.map .v, ⟨hcge, ?_, _, rfl⟩, bu hxv rfl hrun, ?_, fun j u0 v hu0 hv0 => ?_⟩
    ·rw [List.length_append, hv.lu, List.length_map, Array.length_toList]
     have : (Builtin.zeroCells zv.cells (grownCap X.w N 0 e - N)).size = (grownCap X.w N 0 e - N) * sz := by simp [Builtin.zeroCells, hi5]
     rw [this, ← Nat.add_mul]; congr 1; omega
    ·simp only [Array.size_append, List.size_toArray, List.length_append, hv.lu, hv.lv, List.length_map, Array.length_toList, List.length_nil, Nat.zero_add]
    ·have hl0 : (([] : List Value).toArray ++ vs.toArray ++ Builtin.zeroCells zv.cells (grownCap X.w N 0 e - N))[j]? = (vs ++ (Builtin.zeroCells zv.cells (grownCap X.w N 0 e - N)).toList)[j]? := by
      rw [← Array.getElem?_toList]; simp
     rw [hl0] at hv0
     refine wz (by rw [hv.lu, hv.lv]) hv.rel (fun i u v hu hv => ?_) j u0 v hu0 hv0
     rw [List.getElem?_map, hv] at hu
     cases hu
     exact .v _
theorem yZ {P : Program} {f : FuncId} {us : List AV} {sz : Nat} (h : ak P f us [] (fun out H => ∃ u, out = .ret u ∧ (u = .v (.slice none 0 0) ∨ u = .cl sz []) ∧ H = [])) : ak P f us [] (fun out H => ∃ a, out = .ret (.v (.slice a 0 0)) ∧ H = []) :=
 ⟨h.1, fun F X vs hs => (h.2 F X vs hs).mono fun e w' ⟨X', out, H', h1, ⟨u, h2, h3, h4⟩, h5, h6⟩ => by
  subst h2 h4
  rcases h3 with rfl | rfl
  ·exact ⟨X', _, [], h1, ⟨none, rfl, rfl⟩, h5, h6⟩
  ·obtain ⟨v, rfl, hsim⟩ := h5
   have hr : Rel X' (.cl sz []) v := hsim.slot 0 _ (by simp [ab])
   obtain ⟨a, rfl⟩ : ∃ a, v = .slice a 0 0 := by
    cases hr with
    | cl _ _ a n hr =>
      have hn : n = 0 := by
       obtain ⟨a1, c1, h1⟩ := dK hr
       cases h1; rfl
      subst hn
      exact ⟨a, rfl⟩
   refine ⟨X', .ret (.v (.slice a 0 0)), [], h1, ⟨a, rfl, rfl⟩, ⟨_, rfl, ?_⟩, h6⟩
   refine hsim.other rfl hsim.fb (fun t u hu => ?_) (fun k cs hk => by simp [av] at hk) rfl id (fun r sz l ho => ?_) (fun _ _ _ _ _ _ _ _ hne _ _ _ _ => hne)
   ·simp only [ab, av] at hu
    split at hu
    ·rename_i e1; subst e1; cases hu; exact .v _
    ·cases hu
   ·exfalso
    cases r with
    | s t =>
      simp only [AS.own, ab, av] at ho
      split at ho <;> cases ho
    | c k o => simp [AS.own, av] at ho⟩
theorem FB (ρ : Rn) (x : Bk) : Agr ρ (ci ρ 300000 x) := fun i hi => mm (by
 cases h : Nat.beq i 300000 with
 | false => rfl
 | true => have := Nat.eq_of_beq_eq_true h; subst this; cases hi)
end Go.Proofs.YtmjpdbbjiipnfaaGreat
namespace Go.Proofs.YtmjpdbbjiipnfaaGreat
open Go.RowKit P Go.Sort Go.Shelf
set_option linter.unusedSimpArgs false
set_option linter.unusedVariables false
def d5 {α : Type} [Inhabited α] (cf : α → α → Int) (l : List α) : List α := (pdq (ltOf cf) l.toArray 0 l.length (Lib.bitLen l.length) true true).toList
section
variable {α : Type} [Inhabited α] {cf : α → α → Int}
theorem iV (hO : SWO (ltOf cf)) (l : List α) : (d5 cf l).Perm l := by
 have h := (pdq_sorts (ltOf cf) hO l.toArray 0 l.length (Lib.bitLen l.length) true true (Nat.zero_le _) (by simp) (Or.inl rfl)).1
 have h3 := h.2.2
 have hs := h.1
 unfold d5
 rw [show l.toArray.extract 0 l.length = l.toArray by simp] at h3
 rw [show (pdq (ltOf cf) l.toArray 0 l.length (Lib.bitLen l.length) true true).extract 0 l.length = pdq (ltOf cf) l.toArray 0 l.length (Lib.bitLen l.length) true true by
  have : l.length = (pdq (ltOf cf) l.toArray 0 l.length (Lib.bitLen l.length) true true).size := by rw [hs]; simp
  rw [show ∀ (a : Array α) n, n = a.size → a.extract 0 n = a from fun a n e => by subst e; simp]
  exact this] at h3
 exact h3
theorem vu (hO : SWO (ltOf cf)) (l : List α) : SortedIn (ltOf cf) 0 l.length (d5 cf l).toArray := by
 have h := (pdq_sorts (ltOf cf) hO l.toArray 0 l.length (Lib.bitLen l.length) true true (Nat.zero_le _) (by simp) (Or.inl rfl)).2
 exact h
theorem AU {β : Type} {k : Nat} : ∀ {L : List (List β)}, (∀ r ∈ L, r.length = k) → ∀ t, t < L.length * k → L.flatten[t]? = (L[t / k]?).bind fun r => r[t % k]?
 | [], _, t, ht => by simp at ht
 | r :: L, h, t, ht => by
   have hr := h r List.mem_cons_self
   have hk : 0 < k := by
    rcases Nat.eq_zero_or_pos k with e | e
    ·subst e; simp at ht
    ·exact e
   rw [List.flatten_cons]
   by_cases h1 : t < k
   ·rw [List.getElem?_append_left (by omega), Nat.div_eq_of_lt h1, Nat.mod_eq_of_lt h1]; rfl
   ·obtain ⟨s, rfl⟩ : ∃ s, t = s + k := ⟨t - k, by omega⟩
    rw [List.getElem?_append_right (by omega), hr, Nat.add_sub_cancel, Nat.add_div_right _ hk, Nat.add_mod_right, List.getElem?_cons_succ]
    exact AU (fun r hr => h r (List.mem_cons_of_mem _ hr)) s (by simp [Nat.add_mul] at ht; omega)
theorem qo {β : Type} {k : Nat} : ∀ {L : List (List β)}, (∀ r ∈ L, r.length = k) → L.flatten.length = L.length * k
 | [], _ => by simp
 | r :: L, h => by
   rw [List.flatten_cons, List.length_append, qo fun r hr => h r (List.mem_cons_of_mem _ hr), h r List.mem_cons_self, List.length_cons, Nat.add_mul]; omega
theorem rT (enc : α → List Value) (k : Nat) (hk : ∀ x, (enc x).length = k) (l : List α) : (flatK enc k l.toArray).toList = (l.map enc).flatten := by
 have hall : ∀ r ∈ l.map enc, r.length = k := fun r hr => by obtain ⟨x, _, rfl⟩ := List.mem_map.1 hr; exact hk x
 have hlen : (l.map enc).flatten.length = l.length * k := by rw [qo hall]; simp
 apply List.ext_getElem?
 intro t
 by_cases ht : t < l.length * k
 ·have hk0 : 0 < k := by
   rcases Nat.eq_zero_or_pos k with e | e
   ·subst e; simp at ht
   ·exact e
  have hq : t / k < l.length := Nat.div_lt_of_lt_mul (by rwa [Nat.mul_comm] at ht)
  rw [AU hall t (by simpa using ht), List.getElem?_map, List.getElem?_eq_getElem hq]
  have h1 := get_flatK enc k l.toArray t (by simpa using ht)
  have hts : t < (flatK enc k l.toArray).size := by simpa using ht
  rw [getElem!_pos _ t hts, getElem!_pos l.toArray (t / k) (by simpa using hq)] at h1
  have hm : t % k < (enc l[t / k]).length := by rw [hk]; exact Nat.mod_lt _ hk0
  rw [Array.getElem?_toList, Array.getElem?_eq_getElem hts, h1]
  simp only [List.getElem_toArray, Option.map_some, Option.bind_some]
  rw [getElem!_pos (enc l[t / k]) (t % k) hm, List.getElem?_eq_getElem hm]
 ·rw [List.getElem?_eq_none (by simp; omega), List.getElem?_eq_none (by omega)]
theorem xx (F G : Array Value) (hs : G.size = F.size) : setMany F 0 G.toList = G := by
 refine ext_get! (by simp [hs]) fun t ht => ?_
 have ht' : t < F.size := by simpa using ht
 rw [get_setMany _ _ _ t ht', if_pos (by simp; omega), Nat.sub_zero]
 rw [getElem!_pos G.toList t (by simp; omega), getElem!_pos G t (by omega)]; simp
theorem qQ (enc : α → List Value) (k : Nat) (w : World) (b n : Nat) (d dk : Array α) (os : Array Obj) (hH : HoldsK enc k w b 0 d) (hs : dk.size = d.size) :
  sortWorldK enc k w b 0 n dk os = grow ((Sort.ahead w n).setCells b 0 (flatK enc k dk).toList) os := by
 unfold sortWorldK
 congr 1
 have hH' : Holds id (Sort.ahead w n) b 0 (flatK enc k d) := hH
 have h := setCells_putRow (Sort.ahead w n) b 0 (flatK enc k dk).toList 0 (flatK enc k d) (by simp [hs])
 rw [putRow_self id (Sort.ahead w n) b 0 _ hH', xx _ _ (by simp [hs])] at h
 exact h.symm
end
theorem Fw (X : GW) (os : Array Obj) (n : Nat) : New X ⟨grow (Sort.ahead X.w n) os, X.g⟩ :=
 ⟨rfl, rfl, rfl, by simp [grow, Sort.ahead], fun b hb => ⟨by
  show (X.w.heap ++ os)[b]? = _
  rw [Array.getElem?_append_left hb], rfl⟩⟩
theorem un {F : Nat → Prop} {X : GW} {x : Value} {g : Nat} {H : List (Nat × List AV)} {vs : Array Value} (hs : SimE F X ⟨2, slotsOf 0 [.v x, .fn g []], H, []⟩ vs) : vs = #[x, .func (.func g) #[] #[]] := by
 have h2 : vs.size = 2 := hs.size
 have e0 := bj (hs.slot 0 (.v x) rfl)
 have e1 : vs.getD 1 undef = .func (.func g) #[] #[] := by
  have h3 := hs.slot 1 (.fn g []) rfl
  generalize vs.getD 1 undef = z at h3
  cases h3 with
  | fn _ _ xs hl _ =>
    have : xs = #[] := by
     apply Array.eq_empty_of_size_eq_zero
     simpa using hl.symm
    rw [this]
 apply Array.ext
 ·simp [h2]
 ·intro i hi1 hi2
  have : i = 0 ∨ i = 1 := by omega
  rcases this with rfl | rfl
  ·rw [Array.getD, dif_pos hi1] at e0; simpa using e0
  ·rw [Array.getD, dif_pos hi1] at e1; simpa using e1
def yd {α : Type} (P : Program) (g : Nat) (enc : α → List Value) (cf : α → α → Int) : Prop :=
 ∀ (x y : α) (W : World), Calls P g #[.agg (enc x).toArray, .agg (enc y).toArray] W fun e w' => e = .returned (.int .i64 (cf x y)) ∧ ∃ q os', w' = grow (W.drewN q) os'
set_option maxHeartbeats 1000000 in
theorem xE {P : Program} {ρ : Ren} {α : Type} [Inhabited α] {cf : α → α → Int} {g : Nat} (L : SlLaysF0.n6 P ρ) (hf : DX P (ρ.f 6)) (k : Nat) (aE : ∀ w, (isAgg (ρ.t 24)).run P w = .ok true w) (zE : ∀ w, (Go.sizeOf (ρ.t 24)).run P w = .ok k w) (enc : α → List Value) (hk : ∀ x, (enc x).length = k) (h1 : ∀ x, ∀ v ∈ enc x, v.oneCell' = true) (hO : SWO (ltOf cf))
  (eg : ∀ args w, (callFunc g args).run P w = .ok (.enter g args) w) (hcmp : yd P g enc cf) (b cap : Nat) (l : List α) (sp : List Value) (hsz : l.length < 4611686018427387904) :
  ak P (ρ.f 6) [.v (.slice (some ⟨b, 0, none⟩) l.length cap), .fn g []] [(b, (l.map enc).flatten.map AV.v ++ sp.map AV.v)] (fun out H => out = .ret (.tu []) ∧ H = [(b, ((d5 cf l).map enc).flatten.map AV.v ++ sp.map AV.v)]) := by
 refine ⟨hf, fun F X vs hs => ?_⟩
 have hv := un hs
 subst hv
 have hnm : cE ((l.map enc).flatten.map AV.v ++ sp.map AV.v) = false := by
  cases hb : cE ((l.map enc).flatten.map AV.v ++ sp.map AV.v) with
  | false => rfl
  | true =>
    obtain ⟨q, hq⟩ := tk hb
    have hmem : AV.mp q ∈ (l.map enc).flatten.map AV.v ++ sp.map AV.v := by rw [hq]; exact List.mem_cons_self
    rcases List.mem_append.1 hmem with h | h
    ·obtain ⟨x, _, hx⟩ := List.mem_map.1 h; cases hx
    ·obtain ⟨x, _, hx⟩ := List.mem_map.1 h; cases hx
 obtain ⟨b1, b2, arr, el, fr, b3, b4, b5, b6⟩ := (hs.box b ((l.map enc).flatten.map AV.v ++ sp.map AV.v) (by rw [ab, if_pos rfl])).cells hnm
 have hfl := rT enc k hk l
 have hH : HoldsK enc k X.w b 0 l.toArray := by
  intro j hj
  refine ⟨?_, b5 _⟩
  have hj' : j < (flatK enc k l.toArray).toList.length := by simpa using hj
  have hjl : j < (l.map enc).flatten.length := by rw [← hfl]; exact hj'
  have e1 : ((l.map enc).flatten.map AV.v ++ sp.map AV.v)[j]? = some (.v ((flatK enc k l.toArray)[j]!)) := by
   rw [List.getElem?_append_left (by rw [List.length_map]; exact hjl), List.getElem?_map, ← hfl, List.getElem?_eq_getElem hj', getElem!_pos _ j hj]
   simp
  have hja : j < arr.size := by rw [b4, List.length_append, List.length_map]; omega
  have e2 := bj (b6 j _ arr[j] e1 (Array.getElem?_eq_getElem hja))
  rw [Nat.zero_add]
  simp only [World.cell?, b3]
  rw [if_neg (by simp), Array.getElem?_eq_getElem hja, e2]; rfl
 have hblk : b < X.w.heap.size := (hs.box b ((l.map enc).flatten.map AV.v ++ sp.map AV.v) (by rw [ab, if_pos rfl])).lt
 have hc := AnyQ.slices_SortFunc_eq L k aE zE enc hk h1 cf hO g #[] b 0 cap l.toArray X.w eg (fun m os dk hdk x y => hcmp x y _) hH hblk (by simpa using hsz)
 have hsl : l.toArray.size = l.length := by simp
 rw [hsl] at hc
 refine hc.mono ?_
 rintro e w' ⟨rfl, n, os, rfl⟩
 have hps : (pdq (ltOf cf) l.toArray 0 l.length (Lib.bitLen l.length) true true).size = l.toArray.size := (pdq_sorts (ltOf cf) hO l.toArray 0 l.length (Lib.bitLen l.length) true true (Nat.zero_le _) (by simp) (Or.inl rfl)).1.1
 rw [qQ enc k X.w b n l.toArray _ os hH hps]
 have hlist : (flatK enc k (pdq (ltOf cf) l.toArray 0 l.length (Lib.bitLen l.length) true true)).toList = ((d5 cf l).map enc).flatten := by
  rw [← rT enc k hk]; unfold d5; simp
 rw [hlist]
 have hln : ((d5 cf l).map enc).flatten.length = (l.map enc).flatten.length := by
  rw [← hlist, ← hfl]; simp [hps]
 generalize ((d5 cf l).map enc).flatten = R at hln ⊢
 have n1 : New X ⟨Sort.ahead X.w n, X.g⟩ := ⟨rfl, rfl, rfl, Nat.le_refl _, fun _ _ => ⟨rfl, rfl⟩⟩
 have s1 := hs.new n1 (fun b n h => hs.gb b n h)
 obtain ⟨s2, x2⟩ := s1.setc (k := b) (o := 0) (cs := (l.map enc).flatten.map AV.v ++ sp.map AV.v) (us := R.map AV.v) (vs := R) (by simp [ab]) (by rw [List.length_map, List.length_append, List.length_map, Nat.zero_add, hln]; exact Nat.le_add_right _ _) (by rw [List.length_map]) (fun i u v hu hv => by
   rw [List.getElem?_map, hv] at hu; cases hu; exact .v _) (fun i sz l v ho _ => by
   rw [List.getElem?_map] at ho
   cases hRi : R[i]? with
   | none => rw [hRi] at ho; cases ho
   | some z => rw [hRi] at ho; cases ho) (fun i j p q ho _ => by
   rw [List.getElem?_map] at ho
   cases hRi : R[i]? with
   | none => rw [hRi] at ho; cases ho
   | some z => rw [hRi] at ho; cases ho) hnm
 have n3 : New ⟨(Sort.ahead X.w n).setCells b 0 R, X.g⟩ ⟨grow ((Sort.ahead X.w n).setCells b 0 R) os, X.g⟩ := by
  have := Fw ⟨(Sort.ahead X.w n).setCells b 0 R, X.g⟩ os 0
  exact this
 have s3 := s2.new n3 (fun b' n' h => Nat.lt_of_lt_of_le (s2.gb b' n' h) n3.size)
 have e1 : Ext F X ⟨grow ((Sort.ahead X.w n).setCells b 0 R) os, X.g⟩ := ((n1.ext hs.gb hs.fb).trans x2).trans (n3.ext s2.gb s2.fb)
 refine ⟨_, .ret (.tu []), [(b, R.map AV.v ++ sp.map AV.v)], rfl, ⟨rfl, rfl⟩, ⟨_, rfl, ?_⟩, e1⟩
 have hspl : aS ((l.map enc).flatten.map AV.v ++ sp.map AV.v) 0 (R.map AV.v) = R.map AV.v ++ sp.map AV.v := by
  have : (l.map enc).flatten.map AV.v ++ sp.map AV.v = [] ++ (l.map enc).flatten.map AV.v ++ sp.map AV.v := by simp
  simp only [aS, List.take_zero, List.nil_append, Nat.zero_add, List.length_map]
  rw [hln, List.drop_append_of_le_length (by rw [List.length_map]; exact Nat.le_refl _), List.drop_of_length_le (by rw [List.length_map]; exact Nat.le_refl _), List.nil_append]
 refine s3.other rfl s3.fb (fun t u hu => ?_) (fun k' cs hk' => ?_) rfl id (fun r sz l' ho => ?_) (fun _ _ _ _ _ _ _ _ hne _ _ _ _ => hne)
 ·simp only [ab, av] at hu
  split at hu
  ·rename_i e1; subst e1; cases hu; exact .tu [] #[] rfl (fun i u x h => by simp at h)
  ·cases hu
 ·simp only [ab, av] at hk'
  split at hk'
  ·rename_i e1; subst e1; cases hk'
   refine ⟨?_, b2⟩
   simp only [AS.setc, ab, if_pos, hspl]
  ·cases hk'
 ·exfalso
  cases r with
  | s t =>
    simp only [AS.own, ab, av] at ho
    split at ho <;> cases ho
  | c k' o =>
    simp only [AS.own, ab, av] at ho
    split at ho
    ·rename_i cs hcs
     split at hcs
     ·cases hcs
      cases hz : (R.map AV.v ++ sp.map AV.v)[o]? with
      | none => rw [hz] at ho; cases ho
      | some z =>
        rw [hz] at ho
        have hmem := List.mem_of_getElem? hz
        rcases List.mem_append.1 hmem with h | h <;> (obtain ⟨x, _, rfl⟩ := List.mem_map.1 h; cases ho)
     ·cases hcs
    ·cases ho
theorem CH {P : Program} {ρ : Ren} (L : SlLaysF0.n6 P ρ) (hf : DX P (ρ.f 6)) (a : Option Addr) (cap g : Nat) : ak P (ρ.f 6) [.v (.slice a 0 cap), .fn g []] [] (fun out H => out = .ret (.tu []) ∧ H = []) := by
 refine ⟨hf, fun F X vs hs => ?_⟩
 have hv := un hs
 subst hv
 refine (AnyF.slices_SortFunc_none L a cap _ X.w).mono ?_
 rintro e w' ⟨rfl, rfl⟩
 refine ⟨X, .ret (.tu []), [], rfl, ⟨rfl, rfl⟩, ⟨_, rfl, ?_⟩, Ext.refl F X⟩
 refine hs.other rfl hs.fb (fun t u hu => ?_) (fun k cs hk => by simp [av] at hk) rfl id (fun r sz l ho => ?_) (fun _ _ _ _ _ _ _ _ hne _ _ _ _ => hne)
 ·simp only [ab, av] at hu
  split at hu
  ·rename_i e1; subst e1; cases hu; exact .tu [] #[] rfl (fun i u x h => by simp at h)
  ·cases hu
 ·exfalso
  cases r with
  | s t =>
    simp only [AS.own, ab, av] at ho
    split at ho <;> cases ho
  | c k o => simp [AS.own, av] at ho
end Go.Proofs.YtmjpdbbjiipnfaaGreat
namespace Go.Proofs.YtmjpdbbjiipnfaaGreat
open Go.RowKit P Go.Sort Go.Shelf
set_option linter.unusedSimpArgs false
set_option linter.unusedVariables false
theorem lY : ∀ a : List UInt8, Op.bytesLess a a = false
 | [] => rfl
 | a :: x => by simp [Op.bytesLess, lY x]
theorem jc : ∀ {a b c : List UInt8}, Op.bytesLess a b = true → Op.bytesLess b c = true → Op.bytesLess a c = true
 | _, [], _, h, _ => by simp [Op.bytesLess] at h
 | _, _ :: _, [], _, h => by simp [Op.bytesLess] at h
 | [], _ :: _, _ :: _, _, _ => rfl
 | a :: x, b :: y, c :: z, h1, h2 => by
   simp only [Op.bytesLess, Bool.or_eq_true, decide_eq_true_eq, Bool.and_eq_true, beq_iff_eq] at h1 h2 ⊢
   rcases h1 with h1 | ⟨rfl, h1⟩
   ·rcases h2 with h2 | ⟨rfl, h2⟩
    ·exact Or.inl (UInt8.lt_trans h1 h2)
    ·exact Or.inl h1
   ·rcases h2 with h2 | ⟨rfl, h2⟩
    ·exact Or.inl h2
    ·exact Or.inr ⟨rfl, jc h1 h2⟩
theorem wv : ∀ {a b : List UInt8}, Op.bytesLess a b = false → Op.bytesLess b a = false → a = b
 | [], [], _, _ => rfl
 | _ :: _, [], _, h => by simp [Op.bytesLess] at h
 | [], _ :: _, h, _ => by simp [Op.bytesLess] at h
 | a :: x, b :: y, h1, h2 => by
   simp only [Op.bytesLess, Bool.or_eq_false_iff, decide_eq_false_iff_not, Bool.and_eq_false_iff, beq_eq_false_iff_ne] at h1 h2
   have e : a = b := by
    have h3 := h1.1
    have h4 := h2.1
    rw [UInt8.lt_iff_toNat_lt] at h3 h4
    exact UInt8.toNat.inj (by omega)
   subst e
   rw [wv (h1.2.resolve_left (by simp)) (h2.2.resolve_left (by simp))]
theorem Db {a b c : List UInt8} (h1 : Op.bytesLess b a = false) (h2 : Op.bytesLess c b = false) : Op.bytesLess c a = false := by
 cases h : Op.bytesLess c a with
 | false => rfl
 | true =>
   cases h3 : Op.bytesLess a b with
   | true => rw [jc h h3] at h2; cases h2
   | false => rw [← wv h3 h1, h] at h2; cases h2
def cmpT (x y : List UInt8) : Int := if Op.bytesLess x y = true then -1 else if (x == y) = true then 0 else 1
set_option maxHeartbeats 1000000 in
theorem GO (x : ByteArray) (W : World) : Calls Tryz.prog 83 #[.string x] W fun e w' => e = .returned (.bool false) ∧ w' = W := by
 go_enter Tryz.func83, Tryz.ntmps83
 go_wp2
 go_ret
 exact ⟨rfl, rfl⟩
set_option maxHeartbeats 1000000 in
theorem BY (x y : ByteArray) (W : World) : Calls Tryz.prog 45 #[.string x, .string y] W fun e w' => e = .returned (.int .i64 (cmpT x.toList y.toList)) ∧ w' = W := by
 have hn := fun x W => GO x W
 go_enter Tryz.func45, Tryz.ntmps45
 unfold cmpT
 cases h1 : Op.bytesLess x.toList y.toList with
 | true =>
   go_wp2_with (go_at_call 83; refine (hn _ _).mono ?_; rintro e w' ⟨rfl, rfl⟩)
   go_ret
   exact ⟨rfl, rfl⟩
 | false =>
   cases h2 : x.toList == y.toList with
   | true =>
     go_wp2_with (go_at_call 83; refine (hn _ _).mono ?_; rintro e w' ⟨rfl, rfl⟩)
     go_ret
     exact ⟨rfl, rfl⟩
   | false =>
     go_wp2_with (go_at_call 83; refine (hn _ _).mono ?_; rintro e w' ⟨rfl, rfl⟩)
     go_ret
     exact ⟨rfl, rfl⟩
set_option maxHeartbeats 1000000 in
theorem Dg (a b x y : ByteArray) (W : World) : Calls Tryz.prog 19 #[.agg #[.string a, .string b], .agg #[.string x, .string y]] W fun e w' => e = .returned (.int .i64 (cmpT a.toList x.toList)) ∧ ∃ (q : Nat) (os' : Array Obj), w' = { (W.drewN q) with heap := W.heap ++ os' } := by
 have hcon := fun W' => BY a x W'
 generalize cmpT a.toList x.toList = r at hcon ⊢
 go_enter Tryz.func19, Tryz.ntmps19
 go_wp2_with (go_at_call 45; refine (hcon _).mono ?_; rintro e w' ⟨rfl, rfl⟩)
 go_ret
 exact ⟨rfl, 0, _, by rw [alloc_eq_grow, alloc_eq_grow, grow_grow]; rfl⟩
end Go.Proofs.YtmjpdbbjiipnfaaGreat
namespace Go.Proofs.YtmjpdbbjiipnfaaGreat
open Go.RowKit P Go.Sort Go.Shelf
set_option linter.unusedSimpArgs false
set_option linter.unusedVariables false
def Tryz.sortLabel_ren : Go.Shelf.Ren := ⟨fun | 6 => 18 | 15 => 44 | 14 => 43 | 28 => 81 | 29 => 82 | 20 => 73 | 21 => 74 | 22 => 75 | 23 => 76 | 24 => 77 | 25 => 78 | 26 => 79 | 27 => 80 | 46 => 102 | 47 => 103 | 48 => 104 | 49 => 105 | 50 => 106 | 57 => 116 | n => n, fun | 22 => 22 | 24 => 40 | 25 => 43 | 3 => 3 | 39 => 75 | 0 => 0 | 53 => 108 | 55 => 47 | 4 => 4 | 46 => 101 | 45 => 100 | 50 => 105 | 5 => 5 | 9 => 9 | 66 => 146 | 70 => 150 | 76 => 158 | 77 => 159 | n => n, fun | n => n⟩
theorem Tryz.sortLabel : Go.Proofs.SlLaysF0.n6 Tryz.prog Tryz.sortLabel_ren := {
 mixed := by kernel_rfl
 f6 := ⟨Tryz.f18.name, by decide, Tryz.func18.trans (congrArg some (by kernel_rfl))⟩
 f14 := ⟨Tryz.f43.name, by decide, Tryz.func43.trans (congrArg some (by kernel_rfl))⟩
 f15 := Tryz.func44.trans (congrArg some (by kernel_rfl))
 f20 := ⟨Tryz.f73.name, by decide, Tryz.func73.trans (congrArg some (by kernel_rfl))⟩
 f21 := ⟨Tryz.f74.name, by decide, Tryz.func74.trans (congrArg some (by kernel_rfl))⟩
 f22 := ⟨Tryz.f75.name, by decide, Tryz.func75.trans (congrArg some (by kernel_rfl))⟩
 f23 := ⟨Tryz.f76.name, by decide, Tryz.func76.trans (congrArg some (by kernel_rfl))⟩
 f24 := ⟨Tryz.f77.name, by decide, Tryz.func77.trans (congrArg some (by kernel_rfl))⟩
 f25 := ⟨Tryz.f78.name, by decide, Tryz.func78.trans (congrArg some (by kernel_rfl))⟩
 f26 := ⟨Tryz.f79.name, by decide, Tryz.func79.trans (congrArg some (by kernel_rfl))⟩
 f27 := ⟨Tryz.f80.name, by decide, Tryz.func80.trans (congrArg some (by kernel_rfl))⟩
 f28 := Tryz.func81.trans (congrArg some (by kernel_rfl))
 f29 := Tryz.func82.trans (congrArg some (by kernel_rfl))
 f46 := ⟨Tryz.f102.name, by decide, Tryz.func102.trans (congrArg some (by kernel_rfl))⟩
 f47 := Tryz.func103.trans (congrArg some (by kernel_rfl))
 f48 := Tryz.func104.trans (congrArg some (by kernel_rfl))
 f49 := ⟨Tryz.f105.name, by decide, Tryz.func105.trans (congrArg some (by kernel_rfl))⟩
 f50 := ⟨Tryz.f106.name, by decide, Tryz.func106.trans (congrArg some (by kernel_rfl))⟩
 f57 := ⟨Tryz.f116.name, by decide, Tryz.func116.trans (congrArg some (by kernel_rfl))⟩
 t0 := Tryz.underlying0
 a0 := Tryz.isAgg0
 z0 := Tryz.sizeOf0
 v0 := Tryz.zeroValue0
 t3 := Tryz.underlying3
 a3 := Tryz.isAgg3
 z3 := Tryz.sizeOf3
 v3 := Tryz.zeroValue3
 t4 := Tryz.underlying4
 a4 := Tryz.isAgg4
 z4 := Tryz.sizeOf4
 v4 := Tryz.zeroValue4
 t5 := Tryz.underlying5
 a5 := Tryz.isAgg5
 z5 := Tryz.sizeOf5
 v5 := Tryz.zeroValue5
 t9 := Tryz.underlying9
 a9 := Tryz.isAgg9
 z9 := Tryz.sizeOf9
 v9 := Tryz.zeroValue9
 t22 := Tryz.underlying22
 a22 := Tryz.isAgg22
 z22 := Tryz.sizeOf22
 v22 := Tryz.zeroValue22
 t25 := Tryz.underlying43
 a25 := Tryz.isAgg43
 z25 := Tryz.sizeOf43
 v25 := Tryz.zeroValue43
 t39 := Tryz.underlying75
 a39 := Tryz.isAgg75
 z39 := Tryz.sizeOf75
 v39 := Tryz.zeroValue75
 t45 := Tryz.underlying100
 a45 := Tryz.isAgg100
 z45 := Tryz.sizeOf100
 v45 := Tryz.zeroValue100
 t46 := Tryz.underlying101
 a46 := Tryz.isAgg101
 z46 := Tryz.sizeOf101
 v46 := Tryz.zeroValue101
 t50 := Tryz.underlying105
 a50 := Tryz.isAgg105
 z50 := Tryz.sizeOf105
 v50 := Tryz.zeroValue105
 t53 := Tryz.underlying108
 a53 := Tryz.isAgg108
 z53 := Tryz.sizeOf108
 v53 := Tryz.zeroValue108
 t55 := Tryz.underlying47
 a55 := Tryz.isAgg47
 z55 := Tryz.sizeOf47
 v55 := Tryz.zeroValue47
 t66 := Tryz.underlying146
 a66 := Tryz.isAgg146
 z66 := Tryz.sizeOf146
 v66 := Tryz.zeroValue146
 t70 := Tryz.underlying150
 a70 := Tryz.isAgg150
 z70 := Tryz.sizeOf150
 v70 := Tryz.zeroValue150
 t76 := Tryz.underlying158
 a76 := Tryz.isAgg158
 z76 := Tryz.sizeOf158
 v76 := Tryz.zeroValue158
 t77 := Tryz.underlying159
 a77 := Tryz.isAgg159
 z77 := Tryz.sizeOf159
 v77 := Tryz.zeroValue159 }
instance : Inhabited VLabel := ⟨⟨[], []⟩⟩
def gE (z : VLabel) : List Value := [.string (mkB z.Name), .string (mkB z.Value)]
theorem tw (z : VLabel) : (gE z).length = 2 := rfl
theorem tP (z : VLabel) : ∀ v ∈ gE z, v.oneCell' = true := fun v hv => by
 simp only [gE, List.mem_cons, List.not_mem_nil, or_false] at hv
 rcases hv with rfl | rfl <;> rfl
theorem qE (z : VLabel) : (gE z).map AV.v = cells EE.toEnc (.nam 2) z := rfl
def dc (a b : VLabel) : Int := cmpT a.Name b.Name
theorem qr (l : List UInt8) : (mkB l).toList = l := by
 rw [mg]
 simp [df, mkB]
theorem uR : yd Tryz.prog 19 gE dc := fun x y W => by
 have h := Dg (mkB x.Name) (mkB x.Value) (mkB y.Name) (mkB y.Value) W
 rw [qr, qr] at h
 exact h
theorem uS (a b : VLabel) : ltOf dc a b = Op.bytesLess a.Name b.Name := by
 unfold ltOf dc cmpT
 cases h : Op.bytesLess a.Name b.Name with
 | true => simp
 | false => by_cases h2 : (a.Name == b.Name) = true <;> simp [h2]
theorem fF : SWO (ltOf dc) where
 irrefl x := by rw [uS]; exact lY _
 trans x y z h1 h2 := by rw [uS] at *; exact jc h1 h2
 ntrans x y z h1 h2 := by rw [uS] at *; exact Db h2 h1
section
attribute [local irreducible] AS.nf OpV aA Stk jJ xi ak bB xK wR Awp EI ox oT
set_option maxHeartbeats 2000000
set_option maxRecDepth 100000 in
theorem ti (z : VLabel) (l : List VLabel) (hl : (l.length + 1) * 32 ≤ 140737488355328) :
  ak Tryz.prog 16 [.sl false 2 ((z :: l).map (cells EE.toEnc (.nam 2)))] [] (fun out H => ∃ (k cc : Nat) (vs : List Value), out = .ret (.v (.slice (some ⟨k, 0, none⟩) (l.length + 1) cc)) ∧ H = [(k, ((z :: l).map (cells EE.toEnc (.nam 2))).flatten ++ vs.map AV.v)] ∧ (l.length + 1) * 2 + vs.length = cc * 2) := by
 have hone : ∀ r ∈ ((z :: l).map (cells EE.toEnc (.nam 2))), r.length = 2 ∧ ∀ u ∈ r, u.one = true ∧ bw (some u) = none := fun r hr => by
  obtain ⟨x, _, rfl⟩ := List.mem_map.1 hr
  refine ⟨cJ EE.toEnc (.nam 2) x, fun u hu => ?_⟩
  obtain ⟨h1, h2⟩ := eJ EE.toEnc (.nam 2) x u hu
  exact ⟨h1, by rw [← h2]; exact bZ u⟩
 have hln : ((z :: l).map (cells EE.toEnc (.nam 2))).length = l.length + 1 := (List.length_map _).trans rfl
 generalize hL : ((z :: l).map (cells EE.toEnc (.nam 2))) = L at hone hln ⊢
 have hne : L ≠ [] := fun e => by rw [e] at hln; simp at hln
 refine gm _ 8 [.tmp 2] Tryz.func16 (by kernel_rfl) rfl rfl rfl rfl ?_
 dsimp only [slotsOf]
 repeat (first
  | ((first | apply i5 | apply gI); (next => (first | (simp only [go_sem, Nat.reduceBEq, Nat.reduceEqDiff, reduceIte, reduceCtorEq, String.reduceEq, Nat.reduceAdd, Int.reduceToNat]; exact rfl) | exact rfl)))
  | (apply d8 rfl rfl rfl rfl; (next => (first
   | (refine dt (T := TT) rfl ?_; (first | exact trivial | omega | (simp [NFL] <;> omega)))
   | (apply opk ⟨_, .move _, _, _, _, _⟩; first | exact bh (ba _) (.inl rfl) | fail)
   | (apply opk ⟨_, .binOp .eql _ _ _ _, _, _, _, _⟩; first
    | (refine bt rfl rfl rfl ?_; (next => (first | exact rfl | (simp only [bb]; omega) | (simp only [bb]; simp [NFL] <;> omega))))
    | (refine bq rfl rfl rfl ?_; (next => (first | exact rfl | (simp only [bb]; omega) | (simp only [bb]; simp [NFL] <;> omega))))
    | exact aM rfl rfl rfl
    | (refine dF rfl rfl rfl ?_; (next => (first | rfl | assumption)))
    | (refine dE rfl rfl rfl ?_; (next => (first | rfl | assumption)))
    | exact bo rfl rfl rfl
    | fail)
   | (apply opk ⟨_, .buildSlice _ _ _, _, _, _, _⟩; first | exact aX (T := TT) rfl rfl rfl rfl rfl rfl rfl | fail)
   | fail)))
  | (refine arO _ ?_; first
   | (refine arO ⟨_, .move _, _, _, _, _⟩ ?_; first | refine cI rfl rfl rfl rfl ?_ | fail)
   | (refine arO ⟨_, .assign _, _, _, _, _⟩ ?_; first
    | refine ca rfl rfl rfl rfl ?_
    | refine kS rfl rfl rfl rfl (bh (ba _) (.inr rfl)) ?_
    | fail)
   | (refine arO ⟨_, .call { callee := .builtin .append, args := _, argTypes := _ }, _, _, _, _⟩ ?_; first
    | (apply dx rfl rfl; (next => (first
     | (apply ap (T := TT) rfl rfl rfl rfl rfl rfl rfl rfl rfl rfl; (next => (first | exact trivial | exact ai _ | assumption | (simp [aH, AV.one, AV.rd, AV.cells, cst, Value.oneCell'] <;> omega))); (next => (first | omega | (simp [NFL] <;> omega))))
     | (apply ap (T := TT) rfl (eE ah rfl) rfl rfl rfl rfl rfl rfl rfl rfl; (next => (first | exact trivial | exact ai _ | assumption | (simp [aH, AV.one, AV.rd, AV.cells, cst, Value.oneCell'] <;> omega))); (next => (first | omega | (simp [NFL] <;> omega))))
     | (apply ap (T := TT) rfl (eE (ae (by first | assumption | (intro e; exact absurd e.symm (by assumption))) ah) rfl) rfl rfl rfl rfl rfl rfl rfl rfl; (next => (first | exact trivial | exact ai _ | assumption | (simp [aH, AV.one, AV.rd, AV.cells, cst, Value.oneCell'] <;> omega))); (next => (first | omega | (simp [NFL] <;> omega))))
     | (apply a6 (T := TT) rfl rfl rfl rfl rfl rfl rfl rfl rfl; (next => (first | exact trivial | exact ai _ | assumption | (simp [aH, AV.one, AV.rd, AV.cells, cst, Value.oneCell'] <;> omega))); (next => (first | omega | (simp [NFL] <;> omega))))
     | fail)))
    | fail)
   | fail)
  | refine fE ?_
  | (refine arE ?_; refine ek [0, 2, 4] rfl ?_)
  | refine cH ?_
  | refine dZ ?_
  | refine eF ?_
  | refine gi ?_
  | refine ep rfl ?_
  | (refine arC (.cond _ _ _) ?_; first
   | (refine bC rfl ?_ ?_; (next => (first | rfl | (simp only [decide_eq_true_eq, beq_iff_eq, bne_iff_ne, ge_iff_le, gt_iff_lt, ne_eq, Bool.not_eq_true', decide_eq_false_iff_not]; omega))))
   | (refine be rfl ?_ ?_; (next => (first
    | rfl
    | (simp only [decide_eq_false_iff_not, beq_eq_false_iff_ne, bne_eq_false_iff_eq, ge_iff_le, gt_iff_lt, ne_eq, Bool.not_eq_false', decide_eq_true_eq]; omega))))
   | fail)
  | refine eW ?_
  | refine dD ?_
  | refine da rfl ?_
  | refine cY ?_
  | refine cX ?_
  | (refine arC .ret ?_; refine eV [2] ?_)
  | refine dI ?_
  | refine dH ?_
  | refine dG ?_
  | refine fi ?_
  | fail)
 refine dz rfl rfl (ri (.inl ⟨rfl, rfl⟩) (TT.tyOk 22 (.slice 40) rfl) rfl rfl rfl (fun b hb => ?_))
 cases b with
 | true => exact absurd (hb rfl) hne
 | false =>
   repeat (first
    | ((first | apply i5 | apply gI); (next => (first | (simp only [go_sem, Nat.reduceBEq, Nat.reduceEqDiff, reduceIte, reduceCtorEq, String.reduceEq, Nat.reduceAdd, Int.reduceToNat]; exact rfl) | exact rfl)))
    | (apply d8 rfl rfl rfl rfl; (next => exact nH (T := TT) rfl rfl))
    | (apply d8 rfl rfl rfl rfl; (next => (first
     | (refine dt (T := TT) rfl ?_; (first | exact trivial | omega | (simp [NFL] <;> omega)))
     | (apply opk ⟨_, .move _, _, _, _, _⟩; first | exact bh (ba _) (.inl rfl) | fail)
     | (apply opk ⟨_, .binOp .eql _ _ _ _, _, _, _, _⟩; first
      | (refine bt rfl rfl rfl ?_; (next => (first | exact rfl | (simp only [bb]; omega) | (simp only [bb]; simp [NFL] <;> omega))))
      | (refine bq rfl rfl rfl ?_; (next => (first | exact rfl | (simp only [bb]; omega) | (simp only [bb]; simp [NFL] <;> omega))))
      | exact aM rfl rfl rfl
      | (refine dF rfl rfl rfl ?_; (next => (first | rfl | assumption)))
      | (refine dE rfl rfl rfl ?_; (next => (first | rfl | assumption)))
      | exact bo rfl rfl rfl
      | fail)
     | (apply opk ⟨_, .buildSlice _ _ _, _, _, _, _⟩; first | exact aX (T := TT) rfl rfl rfl rfl rfl rfl rfl | fail)
     | fail)))
    | (refine arO _ ?_; first
     | (refine arO ⟨_, .move _, _, _, _, _⟩ ?_; first | refine cI rfl rfl rfl rfl ?_ | fail)
     | (refine arO ⟨_, .assign _, _, _, _, _⟩ ?_; first
      | refine ca rfl rfl rfl rfl ?_
      | refine kS rfl rfl rfl rfl (bh (ba _) (.inr rfl)) ?_
      | fail)
     | (refine arO ⟨_, .call { callee := .builtin .append, args := _, argTypes := _ }, _, _, _, _⟩ ?_; first
      | (apply dx rfl rfl; (next => (first
       | (apply ap (T := TT) rfl rfl rfl rfl rfl rfl rfl rfl rfl rfl; (next => (first | exact trivial | exact ai _ | assumption | (simp [aH, AV.one, AV.rd, AV.cells, cst, Value.oneCell'] <;> omega))); (next => (first | omega | (simp [NFL] <;> omega))))
       | (apply ap (T := TT) rfl (eE ah rfl) rfl rfl rfl rfl rfl rfl rfl rfl; (next => (first | exact trivial | exact ai _ | assumption | (simp [aH, AV.one, AV.rd, AV.cells, cst, Value.oneCell'] <;> omega))); (next => (first | omega | (simp [NFL] <;> omega))))
       | (apply ap (T := TT) rfl (eE (ae (by first | assumption | (intro e; exact absurd e.symm (by assumption))) ah) rfl) rfl rfl rfl rfl rfl rfl rfl rfl; (next => (first | exact trivial | exact ai _ | assumption | (simp [aH, AV.one, AV.rd, AV.cells, cst, Value.oneCell'] <;> omega))); (next => (first | omega | (simp [NFL] <;> omega))))
       | (apply a6 (T := TT) rfl rfl rfl rfl rfl rfl rfl rfl rfl; (next => (first | exact trivial | exact ai _ | assumption | (simp [aH, AV.one, AV.rd, AV.cells, cst, Value.oneCell'] <;> omega))); (next => (first | omega | (simp [NFL] <;> omega))))
       | fail)))
      | fail)
     | fail)
    | refine fE ?_
    | (refine arE ?_; refine ek [0, 2, 4] rfl ?_)
    | refine cH ?_
    | refine dZ ?_
    | refine eF ?_
    | refine gi ?_
    | refine ep rfl ?_
    | (refine arC (.cond _ _ _) ?_; first
     | (refine bC rfl ?_ ?_; (next => (first | rfl | (simp only [decide_eq_true_eq, beq_iff_eq, bne_iff_ne, ge_iff_le, gt_iff_lt, ne_eq, Bool.not_eq_true', decide_eq_false_iff_not]; omega))))
     | (refine be rfl ?_ ?_; (next => (first
      | rfl
      | (simp only [decide_eq_false_iff_not, beq_eq_false_iff_ne, bne_eq_false_iff_eq, ge_iff_le, gt_iff_lt, ne_eq, Bool.not_eq_false', decide_eq_true_eq]; omega))))
     | fail)
    | refine eW ?_
    | refine dD ?_
    | refine da rfl ?_
    | refine cY ?_
    | refine cX ?_
    | (refine arC .ret ?_; refine eV [2] ?_)
    | refine dI ?_
    | refine dH ?_
    | refine dG ?_
    | refine fi ?_
    | fail)
   have hfl : L.flatten.length = L.length * 2 := oD (L := L) fun q hq => (hone q hq).1
   refine dz rfl rfl (rJ (T := TT) (sz := 2) (by_ := 32) (N := L.length) (us := L.flatten) rfl rfl rfl (.inr ⟨_, rfl⟩) rfl (by decide) (fun F X a hs => ?_) (by omega) (by omega) (fun u hu => ?_) rfl ?_)
   ·exact AT (P := Tryz.prog) (by decide) (aT hs (u := .sl false 2 L) rfl) (fun q hq u hu => ((hone q hq).2 u hu).1)
   ·obtain ⟨r, h1, h2⟩ := List.mem_flatten.1 hu
    exact ((hone r h1).2 u h2).2
   intro k' cap vs hk' h1 h2
   repeat (first
    | ((first | apply i5 | apply gI); (next => (first | (simp only [go_sem, Nat.reduceBEq, Nat.reduceEqDiff, reduceIte, reduceCtorEq, String.reduceEq, Nat.reduceAdd, Int.reduceToNat]; exact rfl) | exact rfl)))
    | (apply d8 rfl rfl rfl rfl; (next => (first
     | (refine dt (T := TT) rfl ?_; (first | exact trivial | omega | (simp [NFL] <;> omega)))
     | (apply opk ⟨_, .move _, _, _, _, _⟩; first | exact bh (ba _) (.inl rfl) | fail)
     | (apply opk ⟨_, .binOp .eql _ _ _ _, _, _, _, _⟩; first
      | (refine bt rfl rfl rfl ?_; (next => (first | exact rfl | (simp only [bb]; omega) | (simp only [bb]; simp [NFL] <;> omega))))
      | (refine bq rfl rfl rfl ?_; (next => (first | exact rfl | (simp only [bb]; omega) | (simp only [bb]; simp [NFL] <;> omega))))
      | exact aM rfl rfl rfl
      | (refine dF rfl rfl rfl ?_; (next => (first | rfl | assumption)))
      | (refine dE rfl rfl rfl ?_; (next => (first | rfl | assumption)))
      | exact bo rfl rfl rfl
      | fail)
     | (apply opk ⟨_, .buildSlice _ _ _, _, _, _, _⟩; first | exact aX (T := TT) rfl rfl rfl rfl rfl rfl rfl | fail)
     | fail)))
    | (refine arO _ ?_; first
     | (refine arO ⟨_, .move _, _, _, _, _⟩ ?_; first | refine cI rfl rfl rfl rfl ?_ | fail)
     | (refine arO ⟨_, .assign _, _, _, _, _⟩ ?_; first
      | refine ca rfl rfl rfl rfl ?_
      | refine kS rfl rfl rfl rfl (bh (ba _) (.inr rfl)) ?_
      | fail)
     | (refine arO ⟨_, .call { callee := .builtin .append, args := _, argTypes := _ }, _, _, _, _⟩ ?_; first
      | (apply dx rfl rfl; (next => (first
       | (apply ap (T := TT) rfl rfl rfl rfl rfl rfl rfl rfl rfl rfl; (next => (first | exact trivial | exact ai _ | assumption | (simp [aH, AV.one, AV.rd, AV.cells, cst, Value.oneCell'] <;> omega))); (next => (first | omega | (simp [NFL] <;> omega))))
       | (apply ap (T := TT) rfl (eE ah rfl) rfl rfl rfl rfl rfl rfl rfl rfl; (next => (first | exact trivial | exact ai _ | assumption | (simp [aH, AV.one, AV.rd, AV.cells, cst, Value.oneCell'] <;> omega))); (next => (first | omega | (simp [NFL] <;> omega))))
       | (apply ap (T := TT) rfl (eE (ae (by first | assumption | (intro e; exact absurd e.symm (by assumption))) ah) rfl) rfl rfl rfl rfl rfl rfl rfl rfl; (next => (first | exact trivial | exact ai _ | assumption | (simp [aH, AV.one, AV.rd, AV.cells, cst, Value.oneCell'] <;> omega))); (next => (first | omega | (simp [NFL] <;> omega))))
       | (apply a6 (T := TT) rfl rfl rfl rfl rfl rfl rfl rfl rfl; (next => (first | exact trivial | exact ai _ | assumption | (simp [aH, AV.one, AV.rd, AV.cells, cst, Value.oneCell'] <;> omega))); (next => (first | omega | (simp [NFL] <;> omega))))
       | fail)))
      | fail)
     | fail)
    | refine fE ?_
    | (refine arE ?_; refine ek [0, 2, 4] rfl ?_)
    | refine cH ?_
    | refine dZ ?_
    | refine eF ?_
    | refine gi ?_
    | refine ep rfl ?_
    | (refine arC (.cond _ _ _) ?_; first
     | (refine bC rfl ?_ ?_; (next => (first | rfl | (simp only [decide_eq_true_eq, beq_iff_eq, bne_iff_ne, ge_iff_le, gt_iff_lt, ne_eq, Bool.not_eq_true', decide_eq_false_iff_not]; omega))))
     | (refine be rfl ?_ ?_; (next => (first
      | rfl
      | (simp only [decide_eq_false_iff_not, beq_eq_false_iff_ne, bne_eq_false_iff_eq, ge_iff_le, gt_iff_lt, ne_eq, Bool.not_eq_false', decide_eq_true_eq]; omega))))
     | fail)
    | refine eW ?_
    | refine dD ?_
    | refine da rfl ?_
    | refine cY ?_
    | refine cX ?_
    | (refine arC .ret ?_; refine eV [2] ?_)
    | refine dI ?_
    | refine dH ?_
    | refine dG ?_
    | refine fi ?_
    | fail)
   exact ⟨_, rfl, k', cap, vs, by rw [hln], rfl, by rw [List.length_append, hfl, List.length_map] at h2; omega⟩
set_option maxRecDepth 100000 in
theorem ss : ak Tryz.prog 16 [.sl false 2 []] [] (fun out H => ∃ u, out = .ret u ∧ (u = .v (.slice none 0 0) ∨ u = .cl 2 []) ∧ H = []) := by
 refine gm _ 8 [.tmp 2] Tryz.func16 (by kernel_rfl) rfl rfl rfl rfl ?_
 dsimp only [slotsOf]
 repeat (first
  | ((first | apply i5 | apply gI); (next => (first | (simp only [go_sem, Nat.reduceBEq, Nat.reduceEqDiff, reduceIte, reduceCtorEq, String.reduceEq, Nat.reduceAdd, Int.reduceToNat]; exact rfl) | exact rfl)))
  | (apply d8 rfl rfl rfl rfl; (next => (first
   | (refine dt (T := TT) rfl ?_; (first | exact trivial | omega | (simp [NFL] <;> omega)))
   | (apply opk ⟨_, .move _, _, _, _, _⟩; first | exact bh (ba _) (.inl rfl) | fail)
   | (apply opk ⟨_, .binOp .eql _ _ _ _, _, _, _, _⟩; first
    | (refine bt rfl rfl rfl ?_; (next => (first | exact rfl | (simp only [bb]; omega) | (simp only [bb]; simp [NFL] <;> omega))))
    | (refine bq rfl rfl rfl ?_; (next => (first | exact rfl | (simp only [bb]; omega) | (simp only [bb]; simp [NFL] <;> omega))))
    | exact aM rfl rfl rfl
    | (refine dF rfl rfl rfl ?_; (next => (first | rfl | assumption)))
    | (refine dE rfl rfl rfl ?_; (next => (first | rfl | assumption)))
    | exact bo rfl rfl rfl
    | fail)
   | (apply opk ⟨_, .buildSlice _ _ _, _, _, _, _⟩; first | exact aX (T := TT) rfl rfl rfl rfl rfl rfl rfl | fail)
   | fail)))
  | (refine arO _ ?_; first
   | (refine arO ⟨_, .move _, _, _, _, _⟩ ?_; first | refine cI rfl rfl rfl rfl ?_ | fail)
   | (refine arO ⟨_, .assign _, _, _, _, _⟩ ?_; first
    | refine ca rfl rfl rfl rfl ?_
    | refine kS rfl rfl rfl rfl (bh (ba _) (.inr rfl)) ?_
    | fail)
   | (refine arO ⟨_, .call { callee := .builtin .append, args := _, argTypes := _ }, _, _, _, _⟩ ?_; first
    | (apply dx rfl rfl; (next => (first
     | (apply ap (T := TT) rfl rfl rfl rfl rfl rfl rfl rfl rfl rfl; (next => (first | exact trivial | exact ai _ | assumption | (simp [aH, AV.one, AV.rd, AV.cells, cst, Value.oneCell'] <;> omega))); (next => (first | omega | (simp [NFL] <;> omega))))
     | (apply ap (T := TT) rfl (eE ah rfl) rfl rfl rfl rfl rfl rfl rfl rfl; (next => (first | exact trivial | exact ai _ | assumption | (simp [aH, AV.one, AV.rd, AV.cells, cst, Value.oneCell'] <;> omega))); (next => (first | omega | (simp [NFL] <;> omega))))
     | (apply ap (T := TT) rfl (eE (ae (by first | assumption | (intro e; exact absurd e.symm (by assumption))) ah) rfl) rfl rfl rfl rfl rfl rfl rfl rfl; (next => (first | exact trivial | exact ai _ | assumption | (simp [aH, AV.one, AV.rd, AV.cells, cst, Value.oneCell'] <;> omega))); (next => (first | omega | (simp [NFL] <;> omega))))
     | (apply a6 (T := TT) rfl rfl rfl rfl rfl rfl rfl rfl rfl; (next => (first | exact trivial | exact ai _ | assumption | (simp [aH, AV.one, AV.rd, AV.cells, cst, Value.oneCell'] <;> omega))); (next => (first | omega | (simp [NFL] <;> omega))))
     | fail)))
    | fail)
   | fail)
  | refine fE ?_
  | (refine arE ?_; refine ek [0, 2, 4] rfl ?_)
  | refine cH ?_
  | refine dZ ?_
  | refine eF ?_
  | refine gi ?_
  | refine ep rfl ?_
  | (refine arC (.cond _ _ _) ?_; first
   | (refine bC rfl ?_ ?_; (next => (first | rfl | (simp only [decide_eq_true_eq, beq_iff_eq, bne_iff_ne, ge_iff_le, gt_iff_lt, ne_eq, Bool.not_eq_true', decide_eq_false_iff_not]; omega))))
   | (refine be rfl ?_ ?_; (next => (first
    | rfl
    | (simp only [decide_eq_false_iff_not, beq_eq_false_iff_ne, bne_eq_false_iff_eq, ge_iff_le, gt_iff_lt, ne_eq, Bool.not_eq_false', decide_eq_true_eq]; omega))))
   | fail)
  | refine eW ?_
  | refine dD ?_
  | refine da rfl ?_
  | refine cY ?_
  | refine cX ?_
  | (refine arC .ret ?_; refine eV [2] ?_)
  | refine dI ?_
  | refine dH ?_
  | refine dG ?_
  | refine fi ?_
  | fail)
 refine dz rfl rfl (ri (.inl ⟨rfl, rfl⟩) (TT.tyOk 22 (.slice 40) rfl) rfl rfl rfl (fun b hb => ?_))
 cases b with
 | true =>
   repeat (first
    | ((first | apply i5 | apply gI); (next => (first | (simp only [go_sem, Nat.reduceBEq, Nat.reduceEqDiff, reduceIte, reduceCtorEq, String.reduceEq, Nat.reduceAdd, Int.reduceToNat]; exact rfl) | exact rfl)))
    | (apply d8 rfl rfl rfl rfl; (next => (first
     | (refine dt (T := TT) rfl ?_; (first | exact trivial | omega | (simp [NFL] <;> omega)))
     | (apply opk ⟨_, .move _, _, _, _, _⟩; first | exact bh (ba _) (.inl rfl) | fail)
     | (apply opk ⟨_, .binOp .eql _ _ _ _, _, _, _, _⟩; first
      | (refine bt rfl rfl rfl ?_; (next => (first | exact rfl | (simp only [bb]; omega) | (simp only [bb]; simp [NFL] <;> omega))))
      | (refine bq rfl rfl rfl ?_; (next => (first | exact rfl | (simp only [bb]; omega) | (simp only [bb]; simp [NFL] <;> omega))))
      | exact aM rfl rfl rfl
      | (refine dF rfl rfl rfl ?_; (next => (first | rfl | assumption)))
      | (refine dE rfl rfl rfl ?_; (next => (first | rfl | assumption)))
      | exact bo rfl rfl rfl
      | fail)
     | (apply opk ⟨_, .buildSlice _ _ _, _, _, _, _⟩; first | exact aX (T := TT) rfl rfl rfl rfl rfl rfl rfl | fail)
     | fail)))
    | (refine arO _ ?_; first
     | (refine arO ⟨_, .move _, _, _, _, _⟩ ?_; first | refine cI rfl rfl rfl rfl ?_ | fail)
     | (refine arO ⟨_, .assign _, _, _, _, _⟩ ?_; first
      | refine ca rfl rfl rfl rfl ?_
      | refine kS rfl rfl rfl rfl (bh (ba _) (.inr rfl)) ?_
      | fail)
     | (refine arO ⟨_, .call { callee := .builtin .append, args := _, argTypes := _ }, _, _, _, _⟩ ?_; first
      | (apply dx rfl rfl; (next => (first
       | (apply ap (T := TT) rfl rfl rfl rfl rfl rfl rfl rfl rfl rfl; (next => (first | exact trivial | exact ai _ | assumption | (simp [aH, AV.one, AV.rd, AV.cells, cst, Value.oneCell'] <;> omega))); (next => (first | omega | (simp [NFL] <;> omega))))
       | (apply ap (T := TT) rfl (eE ah rfl) rfl rfl rfl rfl rfl rfl rfl rfl; (next => (first | exact trivial | exact ai _ | assumption | (simp [aH, AV.one, AV.rd, AV.cells, cst, Value.oneCell'] <;> omega))); (next => (first | omega | (simp [NFL] <;> omega))))
       | (apply ap (T := TT) rfl (eE (ae (by first | assumption | (intro e; exact absurd e.symm (by assumption))) ah) rfl) rfl rfl rfl rfl rfl rfl rfl rfl; (next => (first | exact trivial | exact ai _ | assumption | (simp [aH, AV.one, AV.rd, AV.cells, cst, Value.oneCell'] <;> omega))); (next => (first | omega | (simp [NFL] <;> omega))))
       | (apply a6 (T := TT) rfl rfl rfl rfl rfl rfl rfl rfl rfl; (next => (first | exact trivial | exact ai _ | assumption | (simp [aH, AV.one, AV.rd, AV.cells, cst, Value.oneCell'] <;> omega))); (next => (first | omega | (simp [NFL] <;> omega))))
       | fail)))
      | fail)
     | fail)
    | refine fE ?_
    | (refine arE ?_; refine ek [0, 2, 4] rfl ?_)
    | refine cH ?_
    | refine dZ ?_
    | refine eF ?_
    | refine gi ?_
    | refine ep rfl ?_
    | (refine arC (.cond _ _ _) ?_; first
     | (refine bC rfl ?_ ?_; (next => (first | rfl | (simp only [decide_eq_true_eq, beq_iff_eq, bne_iff_ne, ge_iff_le, gt_iff_lt, ne_eq, Bool.not_eq_true', decide_eq_false_iff_not]; omega))))
     | (refine be rfl ?_ ?_; (next => (first
      | rfl
      | (simp only [decide_eq_false_iff_not, beq_eq_false_iff_ne, bne_eq_false_iff_eq, ge_iff_le, gt_iff_lt, ne_eq, Bool.not_eq_false', decide_eq_true_eq]; omega))))
     | fail)
    | refine eW ?_
    | refine dD ?_
    | refine da rfl ?_
    | refine cY ?_
    | refine cX ?_
    | (refine arC .ret ?_; refine eV [2] ?_)
    | refine dI ?_
    | refine dH ?_
    | refine dG ?_
    | refine fi ?_
    | fail)
   exact ⟨_, rfl, _, rfl, .inl rfl, rfl⟩
 | false =>
   repeat (first
    | ((first | apply i5 | apply gI); (next => (first | (simp only [go_sem, Nat.reduceBEq, Nat.reduceEqDiff, reduceIte, reduceCtorEq, String.reduceEq, Nat.reduceAdd, Int.reduceToNat]; exact rfl) | exact rfl)))
    | (apply d8 rfl rfl rfl rfl; (next => exact nH (T := TT) rfl rfl))
    | (apply d8 rfl rfl rfl rfl; (next => (first
     | (refine dt (T := TT) rfl ?_; (first | exact trivial | omega | (simp [NFL] <;> omega)))
     | (apply opk ⟨_, .move _, _, _, _, _⟩; first | exact bh (ba _) (.inl rfl) | fail)
     | (apply opk ⟨_, .binOp .eql _ _ _ _, _, _, _, _⟩; first
      | (refine bt rfl rfl rfl ?_; (next => (first | exact rfl | (simp only [bb]; omega) | (simp only [bb]; simp [NFL] <;> omega))))
      | (refine bq rfl rfl rfl ?_; (next => (first | exact rfl | (simp only [bb]; omega) | (simp only [bb]; simp [NFL] <;> omega))))
      | exact aM rfl rfl rfl
      | (refine dF rfl rfl rfl ?_; (next => (first | rfl | assumption)))
      | (refine dE rfl rfl rfl ?_; (next => (first | rfl | assumption)))
      | exact bo rfl rfl rfl
      | fail)
     | (apply opk ⟨_, .buildSlice _ _ _, _, _, _, _⟩; first | exact aX (T := TT) rfl rfl rfl rfl rfl rfl rfl | fail)
     | fail)))
    | (refine arO _ ?_; first
     | (refine arO ⟨_, .move _, _, _, _, _⟩ ?_; first | refine cI rfl rfl rfl rfl ?_ | fail)
     | (refine arO ⟨_, .assign _, _, _, _, _⟩ ?_; first
      | refine ca rfl rfl rfl rfl ?_
      | refine kS rfl rfl rfl rfl (bh (ba _) (.inr rfl)) ?_
      | fail)
     | (refine arO ⟨_, .call { callee := .builtin .append, args := _, argTypes := _ }, _, _, _, _⟩ ?_; first
      | (apply dx rfl rfl; (next => (first
       | (apply ap (T := TT) rfl rfl rfl rfl rfl rfl rfl rfl rfl rfl; (next => (first | exact trivial | exact ai _ | assumption | (simp [aH, AV.one, AV.rd, AV.cells, cst, Value.oneCell'] <;> omega))); (next => (first | omega | (simp [NFL] <;> omega))))
       | (apply ap (T := TT) rfl (eE ah rfl) rfl rfl rfl rfl rfl rfl rfl rfl; (next => (first | exact trivial | exact ai _ | assumption | (simp [aH, AV.one, AV.rd, AV.cells, cst, Value.oneCell'] <;> omega))); (next => (first | omega | (simp [NFL] <;> omega))))
       | (apply ap (T := TT) rfl (eE (ae (by first | assumption | (intro e; exact absurd e.symm (by assumption))) ah) rfl) rfl rfl rfl rfl rfl rfl rfl rfl; (next => (first | exact trivial | exact ai _ | assumption | (simp [aH, AV.one, AV.rd, AV.cells, cst, Value.oneCell'] <;> omega))); (next => (first | omega | (simp [NFL] <;> omega))))
       | (apply a6 (T := TT) rfl rfl rfl rfl rfl rfl rfl rfl rfl; (next => (first | exact trivial | exact ai _ | assumption | (simp [aH, AV.one, AV.rd, AV.cells, cst, Value.oneCell'] <;> omega))); (next => (first | omega | (simp [NFL] <;> omega))))
       | fail)))
      | fail)
     | fail)
    | refine fE ?_
    | (refine arE ?_; refine ek [0, 2, 4] rfl ?_)
    | refine cH ?_
    | refine dZ ?_
    | refine eF ?_
    | refine gi ?_
    | refine ep rfl ?_
    | (refine arC (.cond _ _ _) ?_; first
     | (refine bC rfl ?_ ?_; (next => (first | rfl | (simp only [decide_eq_true_eq, beq_iff_eq, bne_iff_ne, ge_iff_le, gt_iff_lt, ne_eq, Bool.not_eq_true', decide_eq_false_iff_not]; omega))))
     | (refine be rfl ?_ ?_; (next => (first
      | rfl
      | (simp only [decide_eq_false_iff_not, beq_eq_false_iff_ne, bne_eq_false_iff_eq, ge_iff_le, gt_iff_lt, ne_eq, Bool.not_eq_false', decide_eq_true_eq]; omega))))
     | fail)
    | refine eW ?_
    | refine dD ?_
    | refine da rfl ?_
    | refine cY ?_
    | refine cX ?_
    | (refine arC .ret ?_; refine eV [2] ?_)
    | refine dI ?_
    | refine dH ?_
    | refine dG ?_
    | refine fi ?_
    | fail)
   refine d8 rfl rfl rfl rfl (lO (T := TT) (L := []) rfl rfl rfl (.inr ⟨_, rfl⟩) rfl rfl rfl (by first | trivial | simp [aH])) ?_
   repeat (first
    | ((first | apply i5 | apply gI); (next => (first | (simp only [go_sem, Nat.reduceBEq, Nat.reduceEqDiff, reduceIte, reduceCtorEq, String.reduceEq, Nat.reduceAdd, Int.reduceToNat]; exact rfl) | exact rfl)))
    | (apply d8 rfl rfl rfl rfl; (next => (first
     | (refine dt (T := TT) rfl ?_; (first | exact trivial | omega | (simp [NFL] <;> omega)))
     | (apply opk ⟨_, .move _, _, _, _, _⟩; first | exact bh (ba _) (.inl rfl) | fail)
     | (apply opk ⟨_, .binOp .eql _ _ _ _, _, _, _, _⟩; first
      | (refine bt rfl rfl rfl ?_; (next => (first | exact rfl | (simp only [bb]; omega) | (simp only [bb]; simp [NFL] <;> omega))))
      | (refine bq rfl rfl rfl ?_; (next => (first | exact rfl | (simp only [bb]; omega) | (simp only [bb]; simp [NFL] <;> omega))))
      | exact aM rfl rfl rfl
      | (refine dF rfl rfl rfl ?_; (next => (first | rfl | assumption)))
      | (refine dE rfl rfl rfl ?_; (next => (first | rfl | assumption)))
      | exact bo rfl rfl rfl
      | fail)
     | (apply opk ⟨_, .buildSlice _ _ _, _, _, _, _⟩; first | exact aX (T := TT) rfl rfl rfl rfl rfl rfl rfl | fail)
     | fail)))
    | (refine arO _ ?_; first
     | (refine arO ⟨_, .move _, _, _, _, _⟩ ?_; first | refine cI rfl rfl rfl rfl ?_ | fail)
     | (refine arO ⟨_, .assign _, _, _, _, _⟩ ?_; first
      | refine ca rfl rfl rfl rfl ?_
      | refine kS rfl rfl rfl rfl (bh (ba _) (.inr rfl)) ?_
      | fail)
     | (refine arO ⟨_, .call { callee := .builtin .append, args := _, argTypes := _ }, _, _, _, _⟩ ?_; first
      | (apply dx rfl rfl; (next => (first
       | (apply ap (T := TT) rfl rfl rfl rfl rfl rfl rfl rfl rfl rfl; (next => (first | exact trivial | exact ai _ | assumption | (simp [aH, AV.one, AV.rd, AV.cells, cst, Value.oneCell'] <;> omega))); (next => (first | omega | (simp [NFL] <;> omega))))
       | (apply ap (T := TT) rfl (eE ah rfl) rfl rfl rfl rfl rfl rfl rfl rfl; (next => (first | exact trivial | exact ai _ | assumption | (simp [aH, AV.one, AV.rd, AV.cells, cst, Value.oneCell'] <;> omega))); (next => (first | omega | (simp [NFL] <;> omega))))
       | (apply ap (T := TT) rfl (eE (ae (by first | assumption | (intro e; exact absurd e.symm (by assumption))) ah) rfl) rfl rfl rfl rfl rfl rfl rfl rfl; (next => (first | exact trivial | exact ai _ | assumption | (simp [aH, AV.one, AV.rd, AV.cells, cst, Value.oneCell'] <;> omega))); (next => (first | omega | (simp [NFL] <;> omega))))
       | (apply a6 (T := TT) rfl rfl rfl rfl rfl rfl rfl rfl rfl; (next => (first | exact trivial | exact ai _ | assumption | (simp [aH, AV.one, AV.rd, AV.cells, cst, Value.oneCell'] <;> omega))); (next => (first | omega | (simp [NFL] <;> omega))))
       | fail)))
      | fail)
     | fail)
    | refine fE ?_
    | (refine arE ?_; refine ek [0, 2, 4] rfl ?_)
    | refine cH ?_
    | refine dZ ?_
    | refine eF ?_
    | refine gi ?_
    | refine ep rfl ?_
    | (refine arC (.cond _ _ _) ?_; first
     | (refine bC rfl ?_ ?_; (next => (first | rfl | (simp only [decide_eq_true_eq, beq_iff_eq, bne_iff_ne, ge_iff_le, gt_iff_lt, ne_eq, Bool.not_eq_true', decide_eq_false_iff_not]; omega))))
     | (refine be rfl ?_ ?_; (next => (first
      | rfl
      | (simp only [decide_eq_false_iff_not, beq_eq_false_iff_ne, bne_eq_false_iff_eq, ge_iff_le, gt_iff_lt, ne_eq, Bool.not_eq_false', decide_eq_true_eq]; omega))))
     | fail)
    | refine eW ?_
    | refine dD ?_
    | refine da rfl ?_
    | refine cY ?_
    | refine cX ?_
    | (refine arC .ret ?_; refine eV [2] ?_)
    | refine dI ?_
    | refine dH ?_
    | refine dG ?_
    | refine fi ?_
    | fail)
   exact ⟨_, rfl, _, rfl, .inr rfl, rfl⟩
end
def em (N : Nat) (l : List VLabel) : Option (PR (Nat × List VLabel)) := if l.length * 32 ≤ 140737488355328 then some (.ok (l.length, l)) else none
def ga (r : Nat × (List VLabel)) : TV EE.T := .a (.vec (.nam 2) 300000 r.1)
def fy (r : Nat × (List VLabel)) : List (Nat × TB EE.T) := [(300000, .vec 300000 (.nam 2) r.2)]
def py (r : PR (Nat × (List VLabel))) : RL EE.T := Ed (ga) (fy) r
def kX (x0 : List VLabel) : List (TV EE.T) := [.a (.d (.sl (.nam 2)) x0)]
def hX (x0 : List VLabel) : List (Nat × TB EE.T) := []
theorem qT {N : Nat} (x0 : List VLabel) {r : PR (Nat × List VLabel)} (h : em N x0 = some r) (ρ : Rn) (hi : Inj ρ (hX x0)) : ak Tryz.prog 16 ((kX x0).map (TV.to EE.toEnc ρ)) (hTo EE.toEnc ρ (hX x0)) (bO EE ρ fun u => u = py r) := by
 unfold em at h
 split at h
 ·rename_i hl
  cases h
  cases x0 with
  | nil =>
    refine (yZ ss).mono ?_
    rintro out H ⟨a, rfl, rfl⟩
    refine ⟨_, ci ρ 300000 ⟨0, true, [.slice a 0 0]⟩, rfl, FB _ _, ?_, ?_, Inj.one⟩
    ·show AOut.ret _ = AOut.ret (.v (vecV ((ci ρ 300000 ⟨0, true, [.slice a 0 0]⟩).k 300000) _ _))
     rw [gS]; rfl
    ·exact (cv EE.toEnc [] (by simp only [aG, gS]; rfl)).symm
  | cons z l =>
    refine (ti z l (by simpa using hl)).mono ?_
    rintro out H ⟨k, cc, vs, rfl, rfl, hc⟩
    refine ⟨_, ci ρ 300000 ⟨k, false, vs⟩, rfl, FB _ _, ?_, ?_, Inj.one⟩
    ·show AOut.ret _ = AOut.ret (.v (vecV ((ci ρ 300000 ⟨k, false, vs⟩).k 300000) 2 (l.length + 1)))
     rw [gS]
     unfold vecV
     rw [if_neg (by simp)]
     have : l.length + 1 + vs.length / 2 = cc := by omega
     rw [this]
    ·refine Eq.trans ?_ (bL EE.toEnc [] (by simp only [aG, gS]; rfl)).symm
     show [(k, _)] = [(Rn.b (ci ρ 300000 ⟨k, false, vs⟩) 300000, ((z :: l).map (cells EE.toEnc (.nam 2))).flatten ++ ((ci ρ 300000 ⟨k, false, vs⟩).k 300000).sp.map AV.v)]
     unfold Rn.b
     rw [gS]
 ·cases h
def lV (N : Nat) (us : List (TV EE.T)) (hs : List (Nat × TB EE.T)) : XR EE.T :=
 gdX (pN us 1) <|
 bnX (aD (.sl (.nam 2)) us 0) fun x0 =>
 gdX (cA hs []) <|
 gdX (oN [300000]) <|
 .mv (em N x0) [] (mvL [] []) 1 (ga) (fy)
theorem pA (N : Nat) : XOk Tryz.prog EE 16 (lV N) := fun us hs =>
 dr fun h1 => cZ fun x0 h2 => dr fun h3 => dr fun h4 => fun p hz ρ hi => vV (ex := [(300000, 300000)]) (ks := []) (us' := kX x0) (h0 := hX x0) (ρ' := zP ρ []) (uc := ga) (u := ga) (hc := fy) (h := fy) hi h3 (by kernel_rfl) ⟨xT h2, fC h1⟩ trivial trivial h4 (fun hj => qT x0 hz _ hj) (fun z => ⟨by kernel_rfl, by kernel_rfl, by kernel_rfl, by kernel_rfl⟩)
def cg (N : Nat) (n : Nat) (l : List VLabel) : Option (PR (List VLabel)) := if n = l.length ∧ l.length < 4611686018427387904 then some (.ok (d5 dc l)) else none
def dP (i0 : Nat) (r : List VLabel) : TV EE.T := .tu []
def dy (i0 : Nat) (r : List VLabel) : List (Nat × TB EE.T) := [(i0, .vec i0 (.nam 2) r)]
def kF (r : PR (List VLabel)) : RL EE.T := Ed (dP 100000) (dy 100000) r
def cD (x0_n : Nat) (y0 : List VLabel) : List (TV EE.T) := [.a (.vec (.nam 2) 100000 x0_n), .fn 19 []]
def bW (x0_n : Nat) (y0 : List VLabel) : List (Nat × TB EE.T) := [(100000, .vec 100000 (.nam 2) y0)]
theorem lf {N : Nat} (x0_n : Nat) (y0 : List VLabel) {r : PR (List VLabel)} (h : cg N x0_n y0 = some r) (ρ : Rn) (hi : Inj ρ (bW x0_n y0)) : ak Tryz.prog 18 ((cD x0_n y0).map (TV.to EE.toEnc ρ)) (hTo EE.toEnc ρ (bW x0_n y0)) (bO EE ρ fun u => u = kF r) := by
 unfold cg at h
 split at h
 ·rename_i hc
  obtain ⟨rfl, hsz⟩ := hc
  cases h
  have hlen : (d5 dc y0).length = y0.length := (iV fF y0).length_eq
  have hlv : aG ρ (TB.vec 100000 (.nam 2) (@d5 VLabel _ dc y0) : TB EE.T) = aG ρ (TB.vec 100000 (.nam 2) y0 : TB EE.T) := by
   simp only [aG]
   congr 2
   cases y0 with
   | nil => cases hs : d5 dc ([] : List VLabel) with
     | nil => rfl
     | cons a b => rw [hs] at hlen; simp at hlen
   | cons a b => cases hs : d5 dc (a :: b) with
     | nil => rw [hs] at hlen; simp at hlen
     | cons c d => rfl
  cases hl : aG ρ (TB.vec 100000 (.nam 2) y0 : TB EE.T) with
  | true =>
    have hn : ((ρ.k 100000).nil && Nat.beq y0.length 0) = false := by
     simp only [aG] at hl
     cases hq : (ρ.k 100000).nil with
     | false => rfl
     | true =>
       rw [hq] at hl
       cases y0 with
       | nil => cases hl
       | cons => rfl
    have hc := xE (cf := dc) (ρ := Tryz.sortLabel_ren) Tryz.sortLabel ⟨_, Tryz.func18, by kernel_rfl, rfl⟩ 2 Tryz.isAgg40 Tryz.sizeOf40 gE tw tP fF (g := 19) (enters_of Tryz.func19 (by kernel_rfl) rfl) uR (ρ 100000) (y0.length + (ρ.k 100000).sp.length / 2) y0 (ρ.k 100000).sp hsz
    have hmap : ∀ l : List VLabel, (l.map gE).flatten.map AV.v = (l.map (cells EE.toEnc (.nam 2))).flatten := fun l => by
     rw [List.map_flatten, List.map_map]
     exact congrArg List.flatten (List.map_congr_left fun z _ => (qE z))
    rw [hmap, hmap] at hc
    have hv : vecV (ρ.k 100000) 2 y0.length = .slice (some ⟨ρ 100000, 0, none⟩) y0.length (y0.length + (ρ.k 100000).sp.length / 2) := by
     unfold vecV; rw [if_neg (by rw [hn]; decide)]; rfl
    have e1 : (cD y0.length y0).map (TV.to EE.toEnc ρ) = [.v (.slice (some ⟨ρ 100000, 0, none⟩) y0.length (y0.length + (ρ.k 100000).sp.length / 2)), .fn 19 []] := by
     rw [← hv]; rfl
    have e2 : hTo EE.toEnc ρ (bW y0.length y0) = [(ρ 100000, (y0.map (cells EE.toEnc (.nam 2))).flatten ++ (ρ.k 100000).sp.map AV.v)] := bL EE.toEnc [] hl
    rw [e1, e2]
    refine ak.mono (f := 18) hc ?_
    rintro out H ⟨rfl, rfl⟩
    exact ⟨_, ρ, rfl, Agr.refl ρ, rfl, (bL EE.toEnc [] (hlv.trans hl)).symm, Inj.one⟩
  | false =>
    have hq : (ρ.k 100000).nil = true ∧ y0.isEmpty = true := by
     have h1 : ((ρ.k 100000).nil && y0.isEmpty) = true := by
      cases h2 : ((ρ.k 100000).nil && y0.isEmpty) with
      | true => rfl
      | false =>
        have h3 : (!((ρ.k 100000).nil && y0.isEmpty)) = false := hl
        rw [h2] at h3; cases h3
     rw [Bool.and_eq_true] at h1
     exact h1
    have hy : y0 = [] := List.isEmpty_iff.1 hq.2
    subst hy
    have hn : ((ρ.k 100000).nil && Nat.beq 0 0) = true := by rw [hq.1]; rfl
    have hv : vecV (ρ.k 100000) 2 0 = .slice (iu (ρ.k 100000).sp) 0 0 := by
     unfold vecV; rw [if_pos hn]
    have e1 : (cD 0 []).map (TV.to EE.toEnc ρ) = [.v (.slice (iu (ρ.k 100000).sp) 0 0), .fn 19 []] := by
     rw [← hv]; rfl
    have e2 : hTo EE.toEnc ρ (bW 0 []) = [] := cv EE.toEnc [] hl
    show ak _ _ ((cD 0 []).map (TV.to EE.toEnc ρ)) (hTo EE.toEnc ρ (bW 0 [])) _
    rw [e1, e2]
    refine ak.mono (f := 18) (CH (ρ := Tryz.sortLabel_ren) Tryz.sortLabel ⟨_, Tryz.func18, by kernel_rfl, rfl⟩ (iu (ρ.k 100000).sp) 0 19) ?_
    rintro out H ⟨rfl, rfl⟩
    exact ⟨_, ρ, rfl, Agr.refl ρ, rfl, (cv EE.toEnc [] (hlv.trans hl)).symm, Inj.one⟩
 ·cases h
def gW (N : Nat) (us : List (TV EE.T)) (hs : List (Nat × TB EE.T)) : XR EE.T :=
 gdX (pN us 2) <|
 bnX (aVi (.nam 2) us 0) fun i0 =>
 bnX (aVn (.nam 2) us 0) fun x0_n =>
 bnX (aF 19 us 1) fun c1 =>
 bnX (cbs c1) fun s1 =>
 gdX (pN s1 0) <|
 bnX (bV (.nam 2) hs i0) fun y0 =>
 gdX (cA hs [i0]) <|
 gdX (oN [i0]) <|
 .mv (cg N x0_n y0) [i0] (mvL [i0] [100000]) 0 (dP i0) (dy i0)
theorem km (N : Nat) : XOk Tryz.prog EE 18 (gW N) := fun us hs =>
 dr fun h1 => cZ fun i0 h2 => cZ fun x0_n h3 => cZ fun c1 h4 => cZ fun s1 h5 => dr fun h6 => cZ fun y0 h7 => dr fun h8 => dr fun h9 => fun p hz ρ hi => vV (ex := []) (ks := [100000]) (us' := cD x0_n y0) (h0 := bW x0_n y0) (ρ' := zP ρ [i0]) (uc := dP 100000) (u := dP i0) (hc := dy 100000) (h := dy i0) hi h8 (by kernel_rfl) ⟨Eh h2 h3 (by kernel_rfl), yz (js := []) h4 h5 (by rw [Fy (fC h6)];  kernel_rfl), fC h1⟩ ⟨(by kernel_rfl), Eb h7 (by kernel_rfl), trivial⟩ ⟨.inr rfl, trivial⟩ h9 (fun hj => lf x0_n y0 hz _ hj) (fun z => ⟨by kernel_rfl, by kernel_rfl, by kernel_rfl, by kernel_rfl⟩)
end Go.Proofs.YtmjpdbbjiipnfaaGreat
namespace Go.Proofs.YtmjpdbbjiipnfaaGreat
open Go.RowKit P
set_option linter.unusedVariables false
set_option linter.unusedSimpArgs false
set_option maxRecDepth 100000
def cr (N : Nat) (x0 : VLabel) : Option Bool :=
 some (decide (x0.Value = ([] : List UInt8)))
def ao (N : Nat) : Nat → Nat → Nat → Int → Int → (List VLabel) → Option (PR (Int × (List VLabel)))
 | 0, _, _, _, _, _ => none
 | n + 1, x0_o, x0_n, x7, x8, b100000 =>
   bif decide (x8 < x7) then
    (mD x0_n x8).bind fun z1 =>
    (b100000[x0_o + z1]?).bind fun z2 =>
    (cr N z2).bind fun z3 =>
    bif z3 then
     some (.ok (x8, b100000))
    else
     ao N n x0_o x0_n x7 (w64 (x8 + 1)) b100000
   else
    some (.ok ((-1), b100000))
def aB (N : Nat) (x0_o : Nat) (x0_n : Nat) (y0 : List VLabel) : Option (PR (Int × (List VLabel))) :=
 ao N N x0_o x0_n (x0_n : Int) 0 y0
def aq (N : Nat) (k5 : Nat → Int → Int → (List VLabel) → Option (PR (Nat × (List VLabel)))) (n : Nat) (x0_n : Nat) (x5 : Int) (x6 : Int) (b200000 : List VLabel) : Option (PR (Nat × (List VLabel))) :=
 k5 x0_n x5 (w64 (x6 + 1)) b200000
def aj (N : Nat) : Nat → Nat → Int → Int → (List VLabel) → Option (PR (Nat × (List VLabel)))
 | 0, _, _, _, _ => none
 | n + 1, x0_n, x5, x6, b200000 =>
   bif decide (x6 < (x0_n : Int)) then
    (mD x0_n x6).bind fun z3 =>
    (b200000[z3]?).bind fun z4 =>
    (cr N z4).bind fun z5 =>
    bif !z5 then
     (mD x0_n x5).bind fun z6 =>
     (b200000[z6]?).bind fun z7 =>
     aq N (aj N n) n x0_n (w64 (x5 + 1)) x6 (List.set b200000 z6 z4)
    else
     aq N (aj N n) n x0_n x5 x6 b200000
   else
    (u9 x0_n x5 (x0_n : Int)).bind fun z8 =>
    (zC z8.1 (x0_n - z8.1) b200000 ({ Name := ([] : List UInt8), Value := ([] : List UInt8) } : VLabel)).bind fun z9 =>
    (zK x0_n z9 x5).bind fun z10 =>
    some (.ok (z10.length, z10))
def aw (N : Nat) (x0_n : Nat) (y0 : List VLabel) : Option (PR (Nat × (List VLabel))) :=
 (aB N 0 x0_n y0).bind fun z1 =>
 match z1 with
 | .pan vz1 =>
   some (.pan vz1)
 | .ok z2 =>
   bif z2.1 == (-1) then
    some (.ok (x0_n, z2.2))
   else
    aj N N x0_n z2.1 (w64 (z2.1 + 1)) z2.2
def dO (N : Nat) (x0 : List VLabel) : Option (PR ((List VLabel) × Int)) :=
 (cS N x0 true).bind fun z1 =>
 bif z1 != 0 then
  some (.ok (([] : List VLabel), z1))
 else
  (em N x0).bind fun z2 =>
  match z2 with
  | .pan vz2 =>
    some (.pan vz2)
  | .ok z3 =>
    (aw N z3.1 z3.2).bind fun z4 =>
    match z4 with
    | .pan vz4 =>
      some (.pan vz4)
    | .ok z5 =>
      (cg N z5.1 z5.2).bind fun z6 =>
      match z6 with
      | .pan vz6 =>
        some (.pan vz6)
      | .ok z7 =>
        (w9 z5.1 z7).bind fun z8 =>
        some (.ok (z8, 0))
def ei (N : Nat) (x0 : UInt8) : Option Bool :=
 bif decide ((b2i x0) ≥ (b2i 97)) then
  bif decide ((b2i x0) ≤ (b2i 122)) then
   some true
  else
   bif decide ((b2i x0) ≥ (b2i 65)) then
    bif decide ((b2i x0) ≤ (b2i 90)) then
     some true
    else
     some ((b2i x0) == (b2i 95))
   else
    some ((b2i x0) == (b2i 95))
 else
  bif decide ((b2i x0) ≥ (b2i 65)) then
   bif decide ((b2i x0) ≤ (b2i 90)) then
    some true
   else
    some ((b2i x0) == (b2i 95))
  else
   some ((b2i x0) == (b2i 95))
def dV (N : Nat) (x0 : UInt8) : Option Bool :=
 bif decide ((b2i x0) ≥ (b2i 48)) then
  some (decide ((b2i x0) ≤ (b2i 57)))
 else
  some false
def dU (N : Nat) (k2 : (List UInt8) → Int → Option Bool) (n : Nat) (x0 : List UInt8) (x3 : Int) : Option Bool :=
 k2 x0 (w64 (x3 + 1))
def b7 (N : Nat) : Nat → (List UInt8) → Int → Option Bool
 | 0, _, _ => none
 | n + 1, x0, x3 =>
   bif decide (x3 < (x0.length : Int)) then
    (cx x0 x3).bind fun z1 =>
    (ei N z1).bind fun z2 =>
    bif !z2 then
     bif x3 == 0 then
      some false
     else
      (cx x0 x3).bind fun z3 =>
      (dV N z3).bind fun z4 =>
      bif !z4 then
       some false
      else
       dU N (b7 N n) n x0 x3
    else
     dU N (b7 N n) n x0 x3
   else
    bif decide ((x0.length : Int) ≥ 1) then
     some (decide ((x0.length : Int) ≤ 40))
    else
     some false
def dX (N : Nat) (x0 : List UInt8) : Option Bool :=
 b7 N N x0 0
def cG (N : Nat) (k4 : (List VLabel) → Bool → Int → Option Int) (n : Nat) (x0 : List VLabel) (x1 : Bool) (x5 : Int) : Option Int :=
 (cx x0 x5).bind fun z4 =>
 bif decide ((z4.Value.length : Int) > 100) then
  some 2
 else
  k4 x0 x1 (w64 (x5 + 1))
def bF (N : Nat) (k11 : (List VLabel) → Int → Option Int) : Nat → (List VLabel) → Int → Int → Option Int
 | 0, _, _, _ => none
 | n + 1, x0, x6, x7 =>
   bif decide (x7 < x6) then
    (cx x0 x7).bind fun z5 =>
    (cx x0 x6).bind fun z6 =>
    bif decide (z5.Name = z6.Name) then
     some 6
    else
     bF N k11 n x0 x6 (w64 (x7 + 1))
   else
    k11 x0 (w64 (x6 + 1))
def bn (N : Nat) : Nat → (List VLabel) → Int → Option Int
 | 0, _, _ => none
 | n + 1, x0, x6 =>
   bif decide (x6 < (x0.length : Int)) then
    bF N (bn N n) n x0 x6 0
   else
    some 0
def bk (N : Nat) : Nat → (List VLabel) → Bool → Int → Option Int
 | 0, _, _, _ => none
 | n + 1, x0, x1, x5 =>
   bif decide (x5 < (x0.length : Int)) then
    (cx x0 x5).bind fun z1 =>
    (dX N z1.Name).bind fun z2 =>
    bif !z2 then
     some 1
    else
     (cx x0 x5).bind fun z3 =>
     bif decide (z3.Value = ([] : List UInt8)) then
      bif !x1 then
       some 1
      else
       cG N (bk N n) n x0 x1 x5
     else
      cG N (bk N n) n x0 x1 x5
   else
    bn N n x0 0
def cM (N : Nat) (x0 : List VLabel) (x1 : Bool) : Option Int :=
 bif decide ((x0.length : Int) > 20) then
  some 2
 else
  bk N N x0 x1 0
def cy (N : Nat) (k4 : (List VLabel) → (List UInt8) → (List UInt8) → (List VLabel) → Bool → Int → Option (List VLabel)) (n : Nat) (x0 : List VLabel) (x1 : List UInt8) (x2 : List UInt8) (x7 : List VLabel) (x8 : Bool) (x9 : Int) : Option (List VLabel) :=
 k4 x0 x1 x2 x7 x8 (w64 (x9 + 1))
def bM (N : Nat) (k4 : (List VLabel) → (List UInt8) → (List UInt8) → (List VLabel) → Bool → Int → Option (List VLabel)) (n : Nat) (x0 : List VLabel) (x1 : List UInt8) (x2 : List UInt8) (x7 : List VLabel) (x8 : Bool) (x9 : Int) : Option (List VLabel) :=
 (cx x0 x9).bind fun z4 =>
 bif !decide (z4.Name = x1) then
  (cx x0 x9).bind fun z5 =>
  (jY 32 x7 ([z5] : List VLabel)).bind fun z6 =>
  cy N k4 n x0 x1 x2 z6 x8 x9
 else
  cy N k4 n x0 x1 x2 x7 x8 x9
def aW (N : Nat) : Nat → (List VLabel) → (List UInt8) → (List UInt8) → (List VLabel) → Bool → Int → Option (List VLabel)
 | 0, _, _, _, _, _, _ => none
 | n + 1, x0, x1, x2, x7, x8, x9 =>
   bif decide (x9 < (x0.length : Int)) then
    bif !x8 then
     (cx x0 x9).bind fun z1 =>
     bif !Op.bytesLess z1.Name x1 then
      (jY 32 x7 ([({ Name := x1, Value := x2 } : VLabel)] : List VLabel)).bind fun z2 =>
      bM N (aW N n) n x0 x1 x2 z2 true x9
     else
      bM N (aW N n) n x0 x1 x2 x7 x8 x9
    else
     bM N (aW N n) n x0 x1 x2 x7 x8 x9
   else
    bif !x8 then
     (jY 32 x7 ([({ Name := x1, Value := x2 } : VLabel)] : List VLabel)).bind fun z3 =>
     some z3
    else
     some x7
def de (N : Nat) (x0 : List VLabel) (x1 : List UInt8) (x2 : List UInt8) : Option (List VLabel) :=
 aW N N x0 x1 x2 ([] : List VLabel) (decide (x2 = ([] : List UInt8))) 0
def bT (N : Nat) (k3 : (List VLabel) → (List VLabel) → Int → Option (List VLabel)) (n : Nat) (x0 : List VLabel) (x3 : List VLabel) (x4 : Int) : Option (List VLabel) :=
 k3 x0 x3 (w64 (x4 + 1))
def a7 (N : Nat) : Nat → (List VLabel) → (List VLabel) → Int → Option (List VLabel)
 | 0, _, _, _ => none
 | n + 1, x0, x3, x4 =>
   bif decide (x4 < (x0.length : Int)) then
    (cx x0 x4).bind fun z1 =>
    bif !decide (z1.Value = ([] : List UInt8)) then
     (cx x0 x4).bind fun z2 =>
     (cx x0 x4).bind fun z3 =>
     (de N x3 z2.Name z3.Value).bind fun z4 =>
     bT N (a7 N n) n x0 z4 x4
    else
     bT N (a7 N n) n x0 x3 x4
   else
    some x3
def b8 (N : Nat) (x0 : List VLabel) : Option (List VLabel) :=
 a7 N N x0 ([] : List VLabel) 0
def er (N : Nat) : Nat → Int → (List UInt8) → Int → Int → Option Int
 | 0, _, _, _, _ => none
 | n + 1, x0, x10, x11, x12 =>
   bif decide (x12 < x11) then
    (cx x10 x12).bind fun z2 =>
    er N n (IntKind.wrap .u64 ((bits .xor .u64 x0 (IntKind.wrap .u64 (b2i z2))) * 1099511628211)) x10 x11 (w64 (x12 + 1))
   else
    some x0
def eO (N : Nat) (x0 : Int) (x1 : List UInt8) : Option Int :=
 (jY 1 x1 ([255] : List UInt8)).bind fun z1 =>
 er N N x0 z1 (z1.length : Int) 0
def dn (N : Nat) : Nat → Int → (List VLabel) → Int → Int → Option Int
 | 0, _, _, _, _ => none
 | n + 1, x3, x6, x7, x8 =>
   bif decide (x8 < x7) then
    (cx x6 x8).bind fun z1 =>
    (eO N x3 z1.Name).bind fun z2 =>
    (eO N z2 z1.Value).bind fun z3 =>
    dn N n z3 x6 x7 (w64 (x8 + 1))
   else
    some x3
def ey (N : Nat) (x0 : List VLabel) : Option Int :=
 dn N N 14695981039346656037 x0 (x0.length : Int) 0
def gM (N : Nat) (x0 : List VLabel) : Option (Int × Int) :=
 (eX N ([x0] : List (List VLabel))).bind fun z1 =>
 bif z1 != 0 then
  some (0, z1)
 else
  (ey N x0).bind fun z2 =>
  some (z2, 0)
def cz (N : Nat) : Option Bool :=
 (jg N ([({ Name := ([95, 95, 110, 97, 109, 101, 95, 95] : List UInt8), Value := ([117, 112] : List UInt8) } : VLabel), ({ Name := ([106, 111, 98] : List UInt8), Value := ([120] : List UInt8) } : VLabel)] : List VLabel)).bind fun z1 =>
 (gM N ([] : List VLabel)).bind fun z2 =>
 bif z1.2 == 0 then
  bif decide (z1.1 = ([117, 112, 123, 106, 111, 98, 61, 34, 120, 34, 125] : List UInt8)) then
   bif z2.2 == 0 then
    some (z2.1 == 14695981039346656037)
   else
    some false
  else
   some false
 else
  some false
def bE (N : Nat) : Nat → (List VLabel) → (List VLabel) → Int → Option Bool
 | 0, _, _, _ => none
 | n + 1, x0, x1, x5 =>
   bif decide (x5 < (x0.length : Int)) then
    (cx x0 x5).bind fun z1 =>
    (cx x1 x5).bind fun z2 =>
    bif !(uU z1.Name z2.Name && (uU z1.Value z2.Value && true)) then
     some false
    else
     bE N n x0 x1 (w64 (x5 + 1))
   else
    some true
def cQ (N : Nat) (x0 : List VLabel) (x1 : List VLabel) : Option Bool :=
 bif (x0.length : Int) != (x1.length : Int) then
  some false
 else
  bE N N x0 x1 0
def cj (N : Nat) (n : Nat) (x0 : List VLabel) (x1 : Int) (x2 : Int) (x3 : List VLabel) : Option Bool :=
 bif x1 == x2 then
  (cQ N x0 x3).bind fun z1 =>
  some z1
 else
  some false
def di (N : Nat) (x0 : List VLabel) (x1 : Int) (x2 : Int) (x3 : List VLabel) : Option Bool :=
 bif x2 != 0 then
  cj N N x0 x1 x2 ([] : List VLabel)
 else
  cj N N x0 x1 x2 x3
def bH (N : Nat) (n : Nat) (x3 : List VLabel) (x4 : Int) (x5 : Int) (x6 : List VLabel) : Option (PR Bool) :=
 (cz N).bind fun z5 =>
 bif z5 then
  (di N x3 x4 x5 x6).bind fun z6 =>
  some (.ok z6)
 else
  some (.ok false)
def dC (N : Nat) (x0 : List VLabel) : Option (PR Bool) :=
 (dO N x0).bind fun z1 =>
 match z1 with
 | .pan vz1 =>
   some (.pan vz1)
 | .ok z2 =>
   (cM N x0 true).bind fun z3 =>
   bif z3 == 0 then
    (b8 N x0).bind fun z4 =>
    bH N N z2.1 z2.2 z3 z4
   else
    bH N N z2.1 z2.2 z3 ([] : List VLabel)
end Go.Proofs.YtmjpdbbjiipnfaaGreat
namespace Go.Proofs.YtmjpdbbjiipnfaaGreat
open Go.RowKit P
set_option linter.unusedVariables false
set_option linter.unusedSimpArgs false
def Ev {α : Type} (f : Nat → Option α) (v : α) : Prop := ∃ N0, ∀ N, N0 ≤ N → f N = some v
theorem Ev.mk {α : Type} {f : Nat → Option α} {v : α} (h : ∀ N, f N = some v) : Ev f v := ⟨0, fun N _ => h N⟩
theorem Ev.bind {α β : Type} {a : Nat → Option α} {k : Nat → α → Option β} {x : α} {v : β} (h1 : Ev a x) (h2 : Ev (fun N => k N x) v) : Ev (fun N => (a N).bind (k N)) v := by
 obtain ⟨N1, h1⟩ := h1
 obtain ⟨N2, h2⟩ := h2
 exact ⟨max N1 N2, fun N hN => by simp only [h1 N (by omega), Option.bind_some]; exact h2 N (by omega)⟩
theorem Ev.one {α : Type} {f : Nat → Option α} {v : α} (h : Ev f v) : ∃ N, f N = some v := let ⟨N, h⟩ := h; ⟨N, h N (Nat.le_refl _)⟩
theorem fx {α : Type} (p : List α) (z : α) (r : List α) : cx (p ++ z :: r) (p.length : Int) = some z := by
 unfold cx
 rw [if_pos (by omega)]
 simp
theorem xB {α : Type} {l : List α} {i : Nat} (h : i < l.length) : cx l (i : Int) = some l[i] := by
 unfold cx
 rw [if_pos (by omega)]
 simp [h]
theorem As {n : Int} (h1 : -9223372036854775808 ≤ n) (h2 : n < 9223372036854775808) : w64 n = n := by
 unfold w64
 rw [IntKind.wrap_i64]; omega
theorem eo {α : Type} (p : List α) (z : α) (h : p.length + 1 < 9223372036854775808) : w64 ((p.length : Int) + 1) = ((p ++ [z]).length : Int) := by
 rw [As (by omega) (by omega)]; simp
theorem bX {α : Type} (p : List α) (z : α) (r : List α) : p ++ z :: r = (p ++ [z]) ++ r := by simp
theorem jA {α : Type} (p : List α) (z : α) (r : List α) : decide ((p.length : Int) < ((p ++ z :: r).length : Int)) = true := by
 simp; omega
theorem kq {α : Type} (p : List α) : decide ((p.length : Int) < ((p ++ ([] : List α)).length : Int)) = false := by simp
def DB (c : UInt8) : Bool := decide (97 ≤ c.toNat) && decide (c.toNat ≤ 122) || decide (65 ≤ c.toNat) && decide (c.toNat ≤ 90) || decide (c.toNat = 95)
def Ez (c : UInt8) : Bool := decide (48 ≤ c.toNat) && decide (c.toNat ≤ 57)
theorem geI (c : UInt8) (k : Nat) : decide (b2i c ≥ (k : Int)) = decide (k ≤ c.toNat) := by
 congr 1; apply propext
 show (k : Int) ≤ ((c.toNat : Nat) : Int) ↔ _
 omega
theorem leI (c : UInt8) (k : Nat) : decide (b2i c ≤ (k : Int)) = decide (c.toNat ≤ k) := by
 congr 1; apply propext
 show ((c.toNat : Nat) : Int) ≤ (k : Int) ↔ _
 omega
theorem eqI (c : UInt8) (k : Nat) : (b2i c == (k : Int)) = decide (c.toNat = k) := by
 have : (b2i c == (k : Int)) = decide (b2i c = (k : Int)) := rfl
 rw [this]
 congr 1; apply propext
 show ((c.toNat : Nat) : Int) = (k : Int) ↔ _
 omega
theorem yD (N : Nat) (c : UInt8) : ei N c = some (DB c) := by
 have h1 := geI c 97
 have h2 := leI c 122
 have h3 := geI c 65
 have h4 := leI c 90
 have h5 := eqI c 95
 show (bif decide (b2i c ≥ ((97 : Nat) : Int)) then bif decide (b2i c ≤ ((122 : Nat) : Int)) then some true else bif decide (b2i c ≥ ((65 : Nat) : Int)) then bif decide (b2i c ≤ ((90 : Nat) : Int)) then some true else some (b2i c == ((95 : Nat) : Int)) else some (b2i c == ((95 : Nat) : Int)) else bif decide (b2i c ≥ ((65 : Nat) : Int)) then bif decide (b2i c ≤ ((90 : Nat) : Int)) then some true else some (b2i c == ((95 : Nat) : Int)) else some (b2i c == ((95 : Nat) : Int))) = _
 rw [h1, h2, h3, h4, h5]
 unfold DB
 cases decide (97 ≤ c.toNat) <;> cases decide (c.toNat ≤ 122) <;> cases decide (65 ≤ c.toNat) <;> cases decide (c.toNat ≤ 90) <;> rfl
theorem vb (N : Nat) (c : UInt8) : dV N c = some (Ez c) := by
 have h1 := geI c 48
 have h2 := leI c 57
 show (bif decide (b2i c ≥ ((48 : Nat) : Int)) then some (decide (b2i c ≤ ((57 : Nat) : Int))) else some false) = _
 rw [h1, h2]
 unfold Ez
 cases decide (48 ≤ c.toNat) <;> rfl
theorem Lu (i : Nat) (c : UInt8) : nmC i c.toNat = (DB c || (decide (i ≠ 0) && Ez c)) := by
 unfold nmC DB Ez; rfl
theorem qq (N : Nat) : ∀ (r p : List UInt8) (n : Nat), r.length < n → (p ++ r).length < 140737488355328 → b7 N n (p ++ r) (p.length : Int) = some (nmL p.length r && decide (0 < (p ++ r).length) && decide ((p ++ r).length ≤ 40))
 | [], p, 0, h, _ => by simp at h
 | c :: r, p, 0, h, _ => by simp at h
 | [], p, n + 1, h, hl => by
   unfold b7
   rw [kq]
   simp only [List.append_nil, cond_false, nmL, Bool.true_and]
   by_cases h1 : 0 < p.length
   ·have : decide ((p.length : Int) ≥ 1) = true := by simp; omega
    rw [this]
    simp [h1]; omega
   ·have : decide ((p.length : Int) ≥ 1) = false := by simp; omega
    rw [this]
    simp [h1]
 | c :: r, p, n + 1, h, hl => by
   have ih := qq N r (p ++ [c]) n (by simp only [List.length_cons] at h; omega) (by simpa using hl)
   have hp : p.length + 1 < 9223372036854775808 := by simp at hl; omega
   unfold b7
   rw [jA, cond_true, fx, Option.bind_some, yD, Option.bind_some]
   unfold dU
   rw [← bX] at ih
   rw [eo p c hp, ih]
   simp only [nmL, Lu]
   have hpl : (p ++ [c]).length = p.length + 1 := by simp
   rw [hpl]
   cases hL : DB c with
   | true => simp
   | false =>
     by_cases h0 : p.length = 0
     ·simp [h0]
     ·have : ((p.length : Int) == 0) = false := beq_eq_false_iff_ne.2 (by omega)
      rw [Bool.not_false, cond_true, this, cond_false]
      rw [Option.bind_some, vb, Option.bind_some]
      cases hD : Ez c <;> simp [h0]
theorem vT (s : List UInt8) (hs : s.length < 140737488355328) : Ev (fun N => dX N s) (fA s) :=
 ⟨s.length + 1, fun N hN => by
  have := qq N s [] N (by omega) (by simpa using hs)
  simpa [dX, fA] using this⟩
theorem CS (s : List UInt8) (hs : s.length < 140737488355328) (N : Nat) : eq N s = some (fA s) := by unfold eq; rw [if_pos hs]
def ze (l : List VLabel) : Prop := l.length < 140737488355328 ∧ ∀ z ∈ l, z.Name.length < 140737488355328 ∧ z.Value.length < 140737488355328
def lg (e : Bool) : List VLabel → Option Int
 | [] => none
 | z :: r => if fA z.Name = false then some 1 else if z.Value = [] ∧ e = false then some 1 else if z.Value.length > 100 then some 2 else lg e r
def rv : List VLabel → List VLabel → Bool
 | _, [] => false
 | p, z :: r => p.any (fun y => decide (y.Name = z.Name)) || rv (p ++ [z]) r
def ir (e : Bool) (l : List VLabel) : Int := if l.length > 20 then 2 else (lg e l).getD (if rv [] l then 6 else 0)
theorem uI {α : Type} (k k' : List UInt8) (u : α) : ∀ (m : List (List UInt8 × α)), lQ (ry m k u) k' = if k' = k then some u else lQ m k'
 | [] => by simp [ry, lQ]
 | (a, b) :: m => by
   have ih := uI k k' u m
   unfold ry
   by_cases h : k = a
   ·subst h
    rw [if_pos rfl]
    unfold lQ
    by_cases h2 : k' = k
    ·simp [h2]
    ·simp [h2]
   ·rw [if_neg h]
    unfold lQ
    by_cases h2 : k' = a
    ·subst h2
     have : ¬ k' = k := fun e => h e.symm
     simp [this]
    ·simp only [if_neg h2, ih]
theorem uy (N : Nat) : ∀ (r p : List VLabel) (n : Nat) (m : List (List UInt8 × Bool)), r.length < n → (p ++ r).length < 140737488355328 → (∀ k, (lQ m k).getD false = p.any (fun y => decide (y.Name = k))) → cb N n (p ++ r) ((p ++ r).length : Int) (p.length : Int) m = some (if rv p r then 6 else 0)
 | [], p, 0, _, h, _, _ => by simp at h
 | c :: r, p, 0, _, h, _, _ => by simp at h
 | [], p, n + 1, m, h, hl, hm => by
   unfold cb
   rw [kq]; rfl
 | c :: r, p, n + 1, m, h, hl, hm => by
   have hp : p.length + 1 < 9223372036854775808 := by simp at hl; omega
   unfold cb
   rw [jA, cond_true, fx, Option.bind_some, hm, eo p c hp]
   simp only [rv]
   by_cases hd : p.any (fun y => decide (y.Name = c.Name)) = true
   ·simp only [hd, cond_true, Bool.true_or, if_true]
   ·rw [Bool.not_eq_true] at hd
    simp only [hd, cond_false, Bool.false_or]
    have ih := uy N r (p ++ [c]) n (ry m c.Name true) (by simp at h; omega) (by simpa using hl) (fun k => by
     rw [uI, List.any_append, List.any_cons, List.any_nil, Bool.or_false]
     by_cases hk : k = c.Name
     ·subst hk; simp
     ·rw [if_neg hk, hm]
      have : decide (c.Name = k) = false := by simp; exact fun e => hk e.symm
      rw [this, Bool.or_false])
    rw [← bX] at ih
    exact ih
theorem xV (N : Nat) (e : Bool) : ∀ (r p : List VLabel) (n : Nat), r.length + (p ++ r).length + 1 < n → ze (p ++ r) → bI N n (p ++ r) e (p ++ r) ((p ++ r).length : Int) (p.length : Int) = some ((lg e r).getD (if rv [] (p ++ r) then 6 else 0))
 | r, p, 0, h, _ => by omega
 | [], p, n + 1, h, hw => by
   unfold bI
   rw [kq, cond_false]
   have := uy N (p ++ []) [] n [] (by simp only [List.length_nil, List.append_nil] at h ⊢; omega) hw.1 (fun k => by simp [lQ])
   simpa [lg] using this
 | z :: r, p, n + 1, h, hw => by
   have hp : p.length + 1 < 9223372036854775808 := by have := hw.1; simp only [List.length_append, List.length_cons] at this; omega
   have hz := hw.2 z (by simp)
   have ih := xV N e r (p ++ [z]) n (by rw [← bX]; simp only [List.length_cons] at h; omega) (by rw [← bX]; exact hw)
   rw [← bX] at ih
   unfold bI
   rw [jA, cond_true, fx, Option.bind_some, CS _ hz.1, Option.bind_some]
   unfold dq
   rw [eo p z hp, ih]
   simp only [lg]
   cases h1 : fA z.Name with
   | false => simp
   | true =>
     by_cases h5 : z.Value.length > 100
     ·have h6 : decide ((z.Value.length : Int) > 100) = true := by simp; omega
      by_cases h3 : z.Value = []
      ·rw [h3] at h5; simp at h5
      ·simp [h3, h6, h5]
     ·have h6 : decide ((z.Value.length : Int) > 100) = false := by simp; omega
      by_cases h3 : z.Value = []
      ·cases e <;> simp [h3]
      ·simp [h3, h6, h5]
theorem FR (e : Bool) (l : List VLabel) (hw : ze l) : Ev (fun N => cS N l e) (ir e l) := ⟨2 * l.length + 2, fun N hN => by
 show cS N l e = _
 unfold cS ir
 by_cases h : l.length > 20
 ·have : decide ((l.length : Int) > 20) = true := by simp; omega
  rw [this]; simp [h]
 ·have : decide ((l.length : Int) > 20) = false := by simp; omega
  have h4 := xV N e l [] N (by simp only [List.nil_append]; omega) (by simpa using hw)
  rw [this, cond_false, if_neg h]
  simpa using h4⟩
theorem oL (N : Nat) (l : List VLabel) (k : List VLabel → Int → Option Int) (i : Nat) (hi : i < l.length) (hl : l.length < 140737488355328) : ∀ (r p : List VLabel) (n : Nat), p ++ r = l.take i → r.length < n → bF N k n l (i : Int) (p.length : Int) = if r.any (fun y => decide (y.Name = l[i].Name)) then some 6 else k l ((i + 1 : Nat) : Int)
 | r, p, 0, _, h => by omega
 | [], p, n + 1, hp, h => by
   have hpl : p.length = i := by have := congrArg List.length hp; simp at this; omega
   unfold bF
   have : decide ((p.length : Int) < (i : Int)) = false := by simp; omega
   rw [this, cond_false, As (by omega) (by omega)]
   simp
 | z :: r, p, n + 1, hp, h => by
   have hpl := congrArg List.length hp
   simp only [List.length_append, List.length_cons, List.length_take] at hpl
   have hlp : p.length < l.length := by omega
   have hz : l[p.length] = z := by
    have h1 : (l.take i)[p.length]? = some z := by rw [← hp]; simp
    rw [List.getElem?_take] at h1
    split at h1
    ·rw [List.getElem?_eq_getElem hlp] at h1; exact Option.some.inj h1
    ·cases h1
   unfold bF
   have : decide ((p.length : Int) < (i : Int)) = true := by simp; omega
   rw [this, cond_true, xB hlp, Option.bind_some, xB hi, Option.bind_some, hz]
   have ih := oL N l k i hi hl r (p ++ [z]) n (by rw [← bX]; exact hp) (by simp only [List.length_cons] at h; omega)
   rw [eo p z (by omega), ih]
   simp only [List.any_cons]
   by_cases hd : z.Name = l[i].Name
   ·simp [hd]
   ·simp [hd]
theorem nN (N : Nat) : ∀ (r p : List VLabel) (n : Nat), (p ++ r).length < 140737488355328 → r.length + (p ++ r).length + 1 < n → bn N n (p ++ r) (p.length : Int) = some (if rv p r then 6 else 0)
 | r, p, 0, _, h => by omega
 | [], p, n + 1, hl, h => by
   unfold bn
   rw [kq]; rfl
 | z :: r, p, n + 1, hl, h => by
   have hi : p.length < (p ++ z :: r).length := by simp
   have hzi : (p ++ z :: r)[p.length] = z := by simp
   have ih := nN N r (p ++ [z]) n (by rw [← bX]; exact hl) (by rw [← bX]; simp only [List.length_cons] at h; omega)
   rw [← bX] at ih
   unfold bn
   rw [jA, cond_true]
   have h14 := oL N (p ++ z :: r) (bn N n) p.length hi hl p [] n (by simp) (by simp only [List.length_cons, List.length_append] at h; omega)
   rw [show ((([] : List VLabel).length : Nat) : Int) = 0 from rfl] at h14
   rw [h14, hzi]
   have hpn : ((p.length + 1 : Nat) : Int) = ((p ++ [z]).length : Int) := by simp
   rw [hpn, ih]
   simp only [rv]
   by_cases hd : p.any (fun y => decide (y.Name = z.Name)) = true
   ·simp only [hd, if_true, Bool.true_or]
   ·rw [Bool.not_eq_true] at hd
    simp [hd]
theorem qe (N : Nat) (e : Bool) (hN : ∀ l : List VLabel, True) : ∀ (r p : List VLabel) (n : Nat), (∀ z ∈ r, dX N z.Name = some (fA z.Name)) → r.length + 2 * (p ++ r).length + 2 < n → ze (p ++ r) → bk N n (p ++ r) e (p.length : Int) = some ((lg e r).getD (if rv [] (p ++ r) then 6 else 0))
 | r, p, 0, _, h, _ => by omega
 | [], p, n + 1, hn, h, hw => by
   unfold bk
   rw [kq, cond_false]
   have := nN N (p ++ []) [] n hw.1 (by simp only [List.nil_append]; omega)
   simpa [lg] using this
 | z :: r, p, n + 1, hn, h, hw => by
   have hp : p.length + 1 < 9223372036854775808 := by have := hw.1; simp only [List.length_append, List.length_cons] at this; omega
   have ih := qe N e hN r (p ++ [z]) n (fun y hy => hn y (List.mem_cons_of_mem _ hy)) (by rw [← bX]; simp only [List.length_cons] at h; omega) (by rw [← bX]; exact hw)
   rw [← bX] at ih
   unfold bk
   rw [jA, cond_true, fx, Option.bind_some, hn z (by simp), Option.bind_some]
   unfold cG
   simp only [fx, Option.bind_some]
   rw [eo p z hp, ih]
   simp only [lg]
   cases h1 : fA z.Name with
   | false => simp
   | true =>
     by_cases h5 : z.Value.length > 100
     ·have h6 : decide ((z.Value.length : Int) > 100) = true := by simp; omega
      by_cases h3 : z.Value = []
      ·rw [h3] at h5; simp at h5
      ·simp [h3, h6, h5]
     ·have h6 : decide ((z.Value.length : Int) > 100) = false := by simp; omega
      by_cases h3 : z.Value = []
      ·cases e <;> simp [h3]
      ·simp [h3, h6, h5]
theorem DM {β : Type} {f : Nat → β → Option Bool} {g : β → Bool} : ∀ (l : List β), (∀ z ∈ l, Ev (fun N => f N z) (g z)) → ∃ N0, ∀ N, N0 ≤ N → ∀ z ∈ l, f N z = some (g z)
 | [], _ => ⟨0, fun N _ z hz => by cases hz⟩
 | y :: l, h => by
   obtain ⟨N1, h1⟩ := h y List.mem_cons_self
   obtain ⟨N2, h2⟩ := DM l fun z hz => h z (List.mem_cons_of_mem _ hz)
   refine ⟨max N1 N2, fun N hN z hz => ?_⟩
   rcases List.mem_cons.1 hz with rfl | hz
   ·exact h1 N (by omega)
   ·exact h2 N (by omega) z hz
theorem w4 (e : Bool) (l : List VLabel) (hw : ze l) : Ev (fun N => cM N l e) (ir e l) := by
 obtain ⟨N0, h0⟩ := DM (f := fun N (z : VLabel) => dX N z.Name) (g := fun z => fA z.Name) l fun z hz => vT _ (hw.2 z hz).1
 refine ⟨max N0 (3 * l.length + 3), fun N hN => ?_⟩
 show cM N l e = _
 unfold cM ir
 by_cases h : l.length > 20
 ·have : decide ((l.length : Int) > 20) = true := by simp; omega
  rw [this]; simp [h]
 ·have : decide ((l.length : Int) > 20) = false := by simp; omega
  have h4 := qe N e (fun _ => trivial) l [] N (h0 N (by omega)) (by simp only [List.nil_append]; omega) (by simpa using hw)
  rw [this, cond_false, if_neg h]
  simpa using h4
end Go.Proofs.YtmjpdbbjiipnfaaGreat
namespace Go.Proofs.YtmjpdbbjiipnfaaGreat
open Go.RowKit P
set_option linter.unusedVariables false
set_option linter.unusedSimpArgs false
end Go.Proofs.YtmjpdbbjiipnfaaGreat
namespace Go.Proofs.YtmjpdbbjiipnfaaGreat
open Go.RowKit P
set_option linter.unusedVariables false
set_option linter.unusedSimpArgs false
set_option maxRecDepth 100000
def hT (r : Bool) : TV EE.T := .a (.d .bool r)
def zB (r : Bool) : RL EE.T := .ret (hT r) []
def KJ : Lvs := ⟨[], [], [], [], false, [], [], [], []⟩
def J3 : List ResultVar := [.tmp 2]
def Lp (N : Nat) : Gam EE := ⟨[], EQT, [], []⟩
theorem Mz (N : Nat) : GOk Tryz.prog TT EE (Lp N) := GOk.nil cn
def En (c : Code) : List It2 := [.c c]
def Gi (x0 : VLabel) : TS EE.T := ⟨6, [(0, .ag (lb EE (.nam 2) x0))], [], []⟩
def Ar (c : Code) (N : Nat) (x0 : VLabel) : Tree (Lf EE.T × Option Bool) :=
 .leaf (.done (zB (decide (x0.Value = ([] : List UInt8)))), some (decide (x0.Value = ([] : List UInt8))))
theorem MV (N : Nat) (x0 : VLabel) : evM TT EE (Lp N) KJ J3 4000 true (En (aa 0 Tryz.f17)) (Gi x0) = (Ar (aa 0 Tryz.f17) N x0).map1 := by kernel_rfl
theorem OB (N : Nat) (x0 : VLabel) : cr N x0 = (Ar (aa 0 Tryz.f17) N x0).run := by kernel_rfl
theorem Of {N : Nat} {r : Bool} (x0 : VLabel) (h : cr N x0 = some r) : bP (Y := TT) EE (Lp N) KJ J3 (fun u => u = zB r) (En (aa 0 Tryz.f17)) (Gi x0) :=
 ay (MV N x0) (OB N x0) h (show (Ar (aa 0 Tryz.f17) N x0).all _ from bx (enc := zB) rfl)
theorem pC {N : Nat} (x0 : VLabel) {r : Bool} (h : cr N x0 = some r) (ρ : Rn) : ak Tryz.prog 17 (([.ag (lb EE (.nam 2) x0)] : List (TV EE.T)).map (TV.to EE.toEnc ρ)) [] (fun out H => out = .ret ((hT r).to EE.toEnc ρ) ∧ H = []) :=
 (fk (aa 0 Tryz.f17) 6 mixed (Mz N) Tryz.func17 (by kernel_rfl) rfl rfl rfl rfl (Of x0 h) ρ).mono fun out H h => bO.ret rfl h
def fB (N : Nat) : List (TV EE.T) → PV EE.T
 | [u0] => match Cn EE 2 u0 with
   | some x0 => .opt (cr N x0) hT
   | _ => .bad
 | _ => .bad
theorem jb (N : Nat) (us : List (TV EE.T)) : (fB N us).ok fun u => ∀ ρ, ak Tryz.prog 17 (us.map (TV.to EE.toEnc ρ)) [] (fun out H => out = .ret (u.to EE.toEnc ρ) ∧ H = []) := by
 unfold fB
 split
 ·split
  ·rename_i h0
   intro z hz ρ; refine br ?_ (pC _ hz ρ); exact ⟨rp h0 ρ, trivial⟩
  ·trivial
 ·trivial
def aZ (i0 : Nat) (r : Int × (List VLabel)) : TV EE.T := .a (.d (.int .i64) r.1)
def q8 (i0 : Nat) (r : Int × (List VLabel)) : List (Nat × TB EE.T) := [(i0, .vec i0 (.nam 2) r.2)]
def iT (r : PR (Int × (List VLabel))) : RL EE.T := Ed (aZ 100000) (q8 100000) r
def rl : Lvs := ⟨[], [(2, ⟨[(0, false), (1, false), (7, false), (8, false)], [], [(100000, (none, []))], []⟩)], [], [], false, [], [100000], [], []⟩
def re : List ResultVar := [.tmp 4]
def sR (N : Nat) : Gam EE := ⟨[], EQT, [⟨17, xOf (fB N)⟩], []⟩
theorem Ee (N : Nat) : GOk Tryz.prog TT EE (sR N) := GOk.consx (yN (jb N)) (GOk.nil cn)
def oC (c : Code) : List It2 := atL 2 c
def oB (x0_o : Nat) (x0_n : Nat) (x7 : Int) (x8 : Int) (b100000 : List VLabel) : TS EE.T := ⟨19, [(0, .a (.vsl (.nam 2) 100000 x0_o x0_n)), (1, .fn 17 []), (7, .a (.d (.int .i64) x7)), (8, .a (.d (.int .i64) x8))], [(100000, .vec 100000 (.nam 2) b100000)], []⟩
def w3 (c : Code) : List It2 := [.c c]
def wL (x0_o : Nat) (x0_n : Nat) (y0 : List VLabel) : TS EE.T := ⟨19, [(0, .a (.vsl (.nam 2) 100000 x0_o x0_n)), (1, .fn 17 [])], [(100000, .vec 100000 (.nam 2) y0)], []⟩
def sr (c : Code) (N : Nat) (n : Nat) (x0_o : Nat) (x0_n : Nat) (x7 : Int) (x8 : Int) (b100000 : List VLabel) : Tree (Lf EE.T × Option (PR (Int × (List VLabel)))) :=
 .cond (decide (x8 < x7))
 (
  .bnd (mD x0_n x8) fun z1 =>
  .bnd (b100000[x0_o + z1]?) fun z2 =>
  .bnd (cr N z2) fun z3 =>
  .cond (z3)
  (
   .leaf (.done (iT (.ok (x8, b100000))), some (.ok (x8, b100000))))
  (
   .leaf (.go (oC c) (oB x0_o x0_n x7 (w64 (x8 + 1)) b100000), ao N n x0_o x0_n x7 (w64 (x8 + 1)) b100000)))
 (
  .leaf (.done (iT (.ok ((-1), b100000))), some (.ok ((-1), b100000))))
theorem D6 (N : Nat) (n : Nat) (x0_o : Nat) (x0_n : Nat) (x7 : Int) (x8 : Int) (b100000 : List VLabel) : evM TT EE (sR N) rl re 4000 true (oC (aa 0 Tryz.f42)) (oB x0_o x0_n x7 x8 b100000) = (sr (aa 0 Tryz.f42) N n x0_o x0_n x7 x8 b100000).map1 := by kernel_rfl
theorem Fc (N : Nat) (n : Nat) (x0_o : Nat) (x0_n : Nat) (x7 : Int) (x8 : Int) (b100000 : List VLabel) : ao N (n + 1) x0_o x0_n x7 x8 b100000 = (sr (aa 0 Tryz.f42) N n x0_o x0_n x7 x8 b100000).run := by kernel_rfl
theorem yF {N : Nat} {r : PR (Int × (List VLabel))} : ∀ (n : Nat) (x0_o : Nat) (x0_n : Nat) (x7 : Int) (x8 : Int) (b100000 : List VLabel), ao N n x0_o x0_n x7 x8 b100000 = some r → bP (Y := TT) EE (sR N) rl re (fun u => u = iT r) (oC (aa 0 Tryz.f42)) (oB x0_o x0_n x7 x8 b100000)
 | 0, _, _, _, _, _, h => by cases h
 | n + 1, x0_o, x0_n, x7, x8, b100000, h => ay (D6 N n x0_o x0_n x7 x8 b100000) (Fc N n x0_o x0_n x7 x8 b100000) h (show (sr (aa 0 Tryz.f42) N n x0_o x0_n x7 x8 b100000).all _ from ⟨fun _ => fun _ => fun _ => ⟨bx (enc := iT) rfl, fun h => (yF n) _ _ _ _ _ h⟩, bx (enc := iT) rfl⟩)
def sd (c : Code) (N : Nat) (x0_o : Nat) (x0_n : Nat) (y0 : List VLabel) : Tree (Lf EE.T × Option (PR (Int × (List VLabel)))) :=
 .leaf (.go (oC c) (oB x0_o x0_n (x0_n : Int) 0 y0), ao N N x0_o x0_n (x0_n : Int) 0 y0)
theorem D1 (N : Nat) (x0_o : Nat) (x0_n : Nat) (y0 : List VLabel) : evM TT EE (sR N) rl re 4000 true (w3 (aa 0 Tryz.f42)) (wL x0_o x0_n y0) = (sd (aa 0 Tryz.f42) N x0_o x0_n y0).map1 := by kernel_rfl
theorem F5 (N : Nat) (x0_o : Nat) (x0_n : Nat) (y0 : List VLabel) : aB N x0_o x0_n y0 = (sd (aa 0 Tryz.f42) N x0_o x0_n y0).run := by kernel_rfl
theorem E1 {N : Nat} {r : PR (Int × (List VLabel))} (x0_o : Nat) (x0_n : Nat) (y0 : List VLabel) (h : aB N x0_o x0_n y0 = some r) : bP (Y := TT) EE (sR N) rl re (fun u => u = iT r) (w3 (aa 0 Tryz.f42)) (wL x0_o x0_n y0) :=
 ay (D1 N x0_o x0_n y0) (F5 N x0_o x0_n y0) h (show (sd (aa 0 Tryz.f42) N x0_o x0_n y0).all _ from fun h => yF N _ _ _ _ _ h)
def A4 (x0_o : Nat) (x0_n : Nat) (y0 : List VLabel) : List (TV EE.T) := [.a (.vsl (.nam 2) 100000 x0_o x0_n), .fn 17 []]
def wk (x0_o : Nat) (x0_n : Nat) (y0 : List VLabel) : List (Nat × TB EE.T) := [(100000, .vec 100000 (.nam 2) y0)]
theorem ed {N : Nat} (x0_o : Nat) (x0_n : Nat) (y0 : List VLabel) {r : PR (Int × (List VLabel))} (h : aB N x0_o x0_n y0 = some r) (ρ : Rn) (hi : Inj ρ (wk x0_o x0_n y0)) : ak Tryz.prog 42 ((A4 x0_o x0_n y0).map (TV.to EE.toEnc ρ)) (hTo EE.toEnc ρ (wk x0_o x0_n y0)) (bO EE ρ fun u => u = iT r) :=
 jB (aa 0 Tryz.f42) 19 mixed (Ee N) Tryz.func42 (by kernel_rfl) rfl rfl rfl rfl (E1 x0_o x0_n y0 h) ρ hi
def cu (N : Nat) (us : List (TV EE.T)) (hs : List (Nat × TB EE.T)) : XR EE.T :=
 gdX (pN us 2) <|
 bnX (aUi (.nam 2) us 0) fun i0 =>
 bnX (aUo (.nam 2) us 0) fun x0_o =>
 bnX (aUn (.nam 2) us 0) fun x0_n =>
 bnX (aF 17 us 1) fun c1 =>
 bnX (cbs c1) fun s1 =>
 gdX (pN s1 0) <|
 bnX (bV (.nam 2) hs i0) fun y0 =>
 gdX (cA hs [i0]) <|
 gdX (oN [i0]) <|
 .mv (aB N x0_o x0_n y0) [i0] (mvL [i0] [100000]) 0 (aZ i0) (q8 i0)
theorem d4 (N : Nat) : XOk Tryz.prog EE 42 (cu N) := fun us hs =>
 dr fun h1 => cZ fun i0 h2 => cZ fun x0_o h3 => cZ fun x0_n h4 => cZ fun c1 h5 => cZ fun s1 h6 => dr fun h7 => cZ fun y0 h8 => dr fun h9 => dr fun h10 => fun p hz ρ hi => vV (ex := []) (ks := [100000]) (us' := A4 x0_o x0_n y0) (h0 := wk x0_o x0_n y0) (ρ' := zP ρ [i0]) (uc := aZ 100000) (u := aZ i0) (hc := q8 100000) (h := q8 i0) hi h9 (by kernel_rfl) ⟨O7 h2 h3 h4 (by kernel_rfl), yz (js := []) h5 h6 (by rw [Fy (fC h7)];  kernel_rfl), fC h1⟩ ⟨(by kernel_rfl), Eb h8 (by kernel_rfl), trivial⟩ ⟨.inr rfl, trivial⟩ h10 (fun hj => ed x0_o x0_n y0 hz _ hj) (fun z => ⟨by kernel_rfl, by kernel_rfl, by kernel_rfl, by kernel_rfl⟩)
def aY (i0 : Nat) (r : Nat × (List VLabel)) : TV EE.T := .a (.vec (.nam 2) i0 r.1)
def rc (i0 : Nat) (r : Nat × (List VLabel)) : List (Nat × TB EE.T) := [(i0, .vec i0 (.nam 2) r.2)]
def fw (r : PR (Nat × (List VLabel))) : RL EE.T := Ed (aY 200000) (rc 200000) r
def kn : Lvs := ⟨[(6, ⟨[(0, false), (1, false), (5, false), (6, false)], [], [(200000, (none, []))], []⟩)], [(5, ⟨[(0, false), (1, false), (5, false), (6, false)], [], [(200000, (none, []))], []⟩)], [6], [], false, [], [200000], [], [(41, 200000)]⟩
def kO : List ResultVar := [.tmp 4]
def lk (N : Nat) : Gam EE := ⟨[], EQT, [⟨42, cu N⟩, ⟨17, xOf (fB N)⟩], []⟩
theorem D3 (N : Nat) : GOk Tryz.prog TT EE (lk N) := GOk.consx (d4 N) (GOk.consx (yN (jb N)) (GOk.nil cn))
def oS (c : Code) : List It2 := atR 6 c
def nV (x0_n : Nat) (x5 : Int) (x6 : Int) (b200000 : List VLabel) : TS EE.T := ⟨42, [(0, .a (.vec (.nam 2) 200000 x0_n)), (1, .fn 17 []), (5, .a (.d (.int .i64) x5)), (6, .a (.d (.int .i64) x6))], [(200000, .vec 200000 (.nam 2) b200000)], []⟩
def lL (c : Code) : List It2 := atL 5 c
def lM (x0_n : Nat) (x5 : Int) (x6 : Int) (b200000 : List VLabel) : TS EE.T := ⟨42, [(0, .a (.vec (.nam 2) 200000 x0_n)), (1, .fn 17 []), (5, .a (.d (.int .i64) x5)), (6, .a (.d (.int .i64) x6))], [(200000, .vec 200000 (.nam 2) b200000)], []⟩
def yB (c : Code) : List It2 := [.c c]
def wJ (x0_n : Nat) (y0 : List VLabel) : TS EE.T := ⟨42, [(0, .a (.vec (.nam 2) 200000 x0_n)), (1, .fn 17 [])], [(200000, .vec 200000 (.nam 2) y0)], []⟩
def sG (c : Code) (N : Nat) (k5 : Nat → Int → Int → (List VLabel) → Option (PR (Nat × (List VLabel)))) (n : Nat) (x0_n : Nat) (x5 : Int) (x6 : Int) (b200000 : List VLabel) : Tree (Lf EE.T × Option (PR (Nat × (List VLabel)))) :=
 .leaf (.go (lL c) (lM x0_n x5 (w64 (x6 + 1)) b200000), k5 x0_n x5 (w64 (x6 + 1)) b200000)
theorem Dq (N : Nat) (k5 : Nat → Int → Int → (List VLabel) → Option (PR (Nat × (List VLabel)))) (n : Nat) (x0_n : Nat) (x5 : Int) (x6 : Int) (b200000 : List VLabel) : evM TT EE (lk N) kn kO 4000 true (oS (aa 0 Tryz.f15)) (nV x0_n x5 x6 b200000) = (sG (aa 0 Tryz.f15) N k5 n x0_n x5 x6 b200000).map1 := by kernel_rfl
theorem FF (N : Nat) (k5 : Nat → Int → Int → (List VLabel) → Option (PR (Nat × (List VLabel)))) (n : Nat) (x0_n : Nat) (x5 : Int) (x6 : Int) (b200000 : List VLabel) : aq N k5 n x0_n x5 x6 b200000 = (sG (aa 0 Tryz.f15) N k5 n x0_n x5 x6 b200000).run := by kernel_rfl
theorem wY {N : Nat} {r : PR (Nat × (List VLabel))} {k5 : Nat → Int → Int → (List VLabel) → Option (PR (Nat × (List VLabel)))} (hk5 : ∀ x0_n x5 x6 b200000, k5 x0_n x5 x6 b200000 = some r → bP (Y := TT) EE (lk N) kn kO (fun u => u = fw r) (lL (aa 0 Tryz.f15)) (lM x0_n x5 x6 b200000)) (n : Nat) (x0_n : Nat) (x5 : Int) (x6 : Int) (b200000 : List VLabel) (h : aq N k5 n x0_n x5 x6 b200000 = some r) : bP (Y := TT) EE (lk N) kn kO (fun u => u = fw r) (oS (aa 0 Tryz.f15)) (nV x0_n x5 x6 b200000) :=
 ay (Dq N k5 n x0_n x5 x6 b200000) (FF N k5 n x0_n x5 x6 b200000) h (show (sG (aa 0 Tryz.f15) N k5 n x0_n x5 x6 b200000).all _ from fun h => hk5 _ _ _ _ h)
def tj (c : Code) (N : Nat) (n : Nat) (x0_n : Nat) (x5 : Int) (x6 : Int) (b200000 : List VLabel) : Tree (Lf EE.T × Option (PR (Nat × (List VLabel)))) :=
 .cond (decide (x6 < (x0_n : Int)))
 (
  .bnd (mD x0_n x6) fun z3 =>
  .bnd (b200000[z3]?) fun z4 =>
  .bnd (cr N z4) fun z5 =>
  .cond (!z5)
  (
   .bnd (mD x0_n x5) fun z6 =>
   .bnd (b200000[z6]?) fun z7 =>
   .leaf (.go (oS c) (nV x0_n (w64 (x5 + 1)) x6 (List.set b200000 z6 z4)), aq N (aj N n) n x0_n (w64 (x5 + 1)) x6 (List.set b200000 z6 z4)))
  (
   .leaf (.go (oS c) (nV x0_n x5 x6 b200000), aq N (aj N n) n x0_n x5 x6 b200000)))
 (
  .bnd (u9 x0_n x5 (x0_n : Int)) fun z8 =>
  .bnd (zC z8.1 (x0_n - z8.1) b200000 ({ Name := ([] : List UInt8), Value := ([] : List UInt8) } : VLabel)) fun z9 =>
  .bnd (zK x0_n z9 x5) fun z10 =>
  .leaf (.done (fw (.ok (z10.length, z10))), some (.ok (z10.length, z10))))
theorem Fd (N : Nat) (n : Nat) (x0_n : Nat) (x5 : Int) (x6 : Int) (b200000 : List VLabel) : evM TT EE (lk N) kn kO 4000 true (lL (aa 0 Tryz.f15)) (lM x0_n x5 x6 b200000) = (tj (aa 0 Tryz.f15) N n x0_n x5 x6 b200000).map1 := by kernel_rfl
theorem EU (N : Nat) (n : Nat) (x0_n : Nat) (x5 : Int) (x6 : Int) (b200000 : List VLabel) : aj N (n + 1) x0_n x5 x6 b200000 = (tj (aa 0 Tryz.f15) N n x0_n x5 x6 b200000).run := by kernel_rfl
theorem sn {N : Nat} {r : PR (Nat × (List VLabel))} : ∀ (n : Nat) (x0_n : Nat) (x5 : Int) (x6 : Int) (b200000 : List VLabel), aj N n x0_n x5 x6 b200000 = some r → bP (Y := TT) EE (lk N) kn kO (fun u => u = fw r) (lL (aa 0 Tryz.f15)) (lM x0_n x5 x6 b200000)
 | 0, _, _, _, _, h => by cases h
 | n + 1, x0_n, x5, x6, b200000, h => ay (Fd N n x0_n x5 x6 b200000) (EU N n x0_n x5 x6 b200000) h (show (tj (aa 0 Tryz.f15) N n x0_n x5 x6 b200000).all _ from ⟨fun _ => fun _ => fun _ => ⟨fun _ => fun _ => fun h => wY (sn n) n _ _ _ _ h, fun h => wY (sn n) n _ _ _ _ h⟩, fun _ => fun _ => fun _ => bx (enc := fw) rfl⟩)
def rU (c : Code) (N : Nat) (x0_n : Nat) (y0 : List VLabel) : Tree (Lf EE.T × Option (PR (Nat × (List VLabel)))) :=
 .bnd (aB N 0 x0_n y0) fun z1 =>
 .sm z1 (fun z2 =>
  .cond (z2.1 == (-1))
  (
   .leaf (.done (fw (.ok (x0_n, z2.2))), some (.ok (x0_n, z2.2))))
  (
   .leaf (.go (lL c) (lM x0_n z2.1 (w64 (z2.1 + 1)) z2.2), aj N N x0_n z2.1 (w64 (z2.1 + 1)) z2.2))) (fun vz1 =>
  .leaf (.done (.pan vz1), some (.pan vz1)))
theorem Ga (N : Nat) (x0_n : Nat) (y0 : List VLabel) : evM TT EE (lk N) kn kO 4000 true (yB (aa 0 Tryz.f15)) (wJ x0_n y0) = (rU (aa 0 Tryz.f15) N x0_n y0).map1 := by kernel_rfl
theorem Dp (N : Nat) (x0_n : Nat) (y0 : List VLabel) : aw N x0_n y0 = (rU (aa 0 Tryz.f15) N x0_n y0).run := by kernel_rfl
theorem E7 {N : Nat} {r : PR (Nat × (List VLabel))} (x0_n : Nat) (y0 : List VLabel) (h : aw N x0_n y0 = some r) : bP (Y := TT) EE (lk N) kn kO (fun u => u = fw r) (yB (aa 0 Tryz.f15)) (wJ x0_n y0) :=
 ay (Ga N x0_n y0) (Dp N x0_n y0) h (show (rU (aa 0 Tryz.f15) N x0_n y0).all _ from fun _ => ⟨fun _ => ⟨bx (enc := fw) rfl, fun h => sn N _ _ _ _ h⟩, fun _ => bx (enc := fw) rfl⟩)
def A3 (x0_n : Nat) (y0 : List VLabel) : List (TV EE.T) := [.a (.vec (.nam 2) 200000 x0_n), .fn 17 []]
def wb (x0_n : Nat) (y0 : List VLabel) : List (Nat × TB EE.T) := [(200000, .vec 200000 (.nam 2) y0)]
theorem d6 {N : Nat} (x0_n : Nat) (y0 : List VLabel) {r : PR (Nat × (List VLabel))} (h : aw N x0_n y0 = some r) (ρ : Rn) (hi : Inj ρ (wb x0_n y0)) : ak Tryz.prog 15 ((A3 x0_n y0).map (TV.to EE.toEnc ρ)) (hTo EE.toEnc ρ (wb x0_n y0)) (bO EE ρ fun u => u = fw r) :=
 jB (aa 0 Tryz.f15) 42 mixed (D3 N) Tryz.func15 (by kernel_rfl) rfl rfl rfl rfl (E7 x0_n y0 h) ρ hi
def co (N : Nat) (us : List (TV EE.T)) (hs : List (Nat × TB EE.T)) : XR EE.T :=
 gdX (pN us 2) <|
 bnX (aVi (.nam 2) us 0) fun i0 =>
 bnX (aVn (.nam 2) us 0) fun x0_n =>
 bnX (aF 17 us 1) fun c1 =>
 bnX (cbs c1) fun s1 =>
 gdX (pN s1 0) <|
 bnX (bV (.nam 2) hs i0) fun y0 =>
 gdX (cA hs [i0]) <|
 gdX (oN [i0]) <|
 .mv (aw N x0_n y0) [i0] (mvL [i0] [200000]) 0 (aY i0) (rc i0)
theorem dY (N : Nat) : XOk Tryz.prog EE 15 (co N) := fun us hs =>
 dr fun h1 => cZ fun i0 h2 => cZ fun x0_n h3 => cZ fun c1 h4 => cZ fun s1 h5 => dr fun h6 => cZ fun y0 h7 => dr fun h8 => dr fun h9 => fun p hz ρ hi => vV (ex := []) (ks := [200000]) (us' := A3 x0_n y0) (h0 := wb x0_n y0) (ρ' := zP ρ [i0]) (uc := aY 200000) (u := aY i0) (hc := rc 200000) (h := rc i0) hi h8 (by kernel_rfl) ⟨Eh h2 h3 (by kernel_rfl), yz (js := []) h4 h5 (by rw [Fy (fC h6)];  kernel_rfl), fC h1⟩ ⟨(by kernel_rfl), Eb h7 (by kernel_rfl), trivial⟩ ⟨.inl rfl, trivial⟩ h9 (fun hj => d6 x0_n y0 hz _ hj) (fun z => ⟨by kernel_rfl, by kernel_rfl, by kernel_rfl, by kernel_rfl⟩)
def ju (r : (List VLabel) × Int) : TV EE.T := .tu [.a (.d (.sl (.nam 2)) r.1), .a (.d (.int .i64) r.2)]
def Md (r : (List VLabel) × Int) : List (Nat × TB EE.T) := []
def qw (r : PR ((List VLabel) × Int)) : RL EE.T := match r with
 | .ok z => .ret (ju z) (Md z)
 | .pan v => .pan v
def PY : Lvs := ⟨[], [], [], [], false, [], [], [(6, [.cl 400192 (.v (.nam 2)) (.s 5)])], []⟩
def OW : List ResultVar := [.tmp 2, .tmp 3]
def w5G (N : Nat) : Gam EE := ⟨[⟨14, gR N⟩], EQT, [⟨18, gW N⟩, ⟨16, lV N⟩, ⟨15, co N⟩], []⟩
theorem O2 (N : Nat) : GOk Tryz.prog TT EE (w5G N) := GOk.cons (kR N) (GOk.consx (km N) (GOk.consx (pA N) (GOk.consx (dY N) (GOk.nil cn))))
def Kx (c : Code) : List It2 := [.c c]
def J9 (x0 : List VLabel) : TS EE.T := ⟨17, [(0, .a (.d (.sl (.nam 2)) x0))], [], []⟩
def D4 (c : Code) (N : Nat) (x0 : List VLabel) : Tree (Lf EE.T × Option (PR ((List VLabel) × Int))) :=
 .bnd (cS N x0 true) fun z1 =>
 .cond (z1 != 0)
 (
  .leaf (.done (qw (.ok (([] : List VLabel), z1))), some (.ok (([] : List VLabel), z1))))
 (
  .bnd (em N x0) fun z2 =>
  .sm z2 (fun z3 =>
   .bnd (aw N z3.1 z3.2) fun z4 =>
   .sm z4 (fun z5 =>
    .bnd (cg N z5.1 z5.2) fun z6 =>
    .sm z6 (fun z7 =>
     .bnd (w9 z5.1 z7) fun z8 =>
     .leaf (.done (qw (.ok (z8, 0))), some (.ok (z8, 0)))) (fun vz6 =>
     .leaf (.done (.pan vz6), some (.pan vz6)))) (fun vz4 =>
    .leaf (.done (.pan vz4), some (.pan vz4)))) (fun vz2 =>
   .leaf (.done (.pan vz2), some (.pan vz2))))
theorem Pa (N : Nat) (x0 : List VLabel) : evM TT EE (w5G N) PY OW 4000 true (Kx (aa 0 Tryz.f5)) (J9 x0) = (D4 (aa 0 Tryz.f5) N x0).map1 := by kernel_rfl
theorem OY (N : Nat) (x0 : List VLabel) : dO N x0 = (D4 (aa 0 Tryz.f5) N x0).run := by kernel_rfl
theorem Pi {N : Nat} {r : PR ((List VLabel) × Int)} (x0 : List VLabel) (h : dO N x0 = some r) : bP (Y := TT) EE (w5G N) PY OW (fun u => u = qw r) (Kx (aa 0 Tryz.f5)) (J9 x0) :=
 ay (Pa N x0) (OY N x0) h (show (D4 (aa 0 Tryz.f5) N x0).all _ from fun _ => ⟨bx (enc := qw) rfl, fun _ => ⟨fun _ => fun _ => ⟨fun _ => fun _ => ⟨fun _ => fun _ => bx (enc := qw) rfl, fun _ => bx (enc := qw) rfl⟩, fun _ => bx (enc := qw) rfl⟩, fun _ => bx (enc := qw) rfl⟩⟩)
def Pg (x0 : List VLabel) : List (TV EE.T) := [.a (.d (.sl (.nam 2)) x0)]
def M2 (x0 : List VLabel) : List (Nat × TB EE.T) := []
theorem td {N : Nat} (x0 : List VLabel) {r : PR ((List VLabel) × Int)} (h : dO N x0 = some r) (ρ : Rn) (hi : Inj ρ (M2 x0)) : ak Tryz.prog 5 ((Pg x0).map (TV.to EE.toEnc ρ)) (hTo EE.toEnc ρ (M2 x0)) (fun out H => match r with | .ok z => out = .ret ((ju z).to EE.toEnc ρ) ∧ H = hTo EE.toEnc ρ (Md z) | .pan v => out = .pan v) :=
 (jB (aa 0 Tryz.f5) 17 mixed (O2 N) Tryz.func5 (by kernel_rfl) rfl rfl rfl rfl (Pi x0 h) ρ hi).mono fun out H h => by cases r with | ok z => exact bO.retH rfl rfl h | pan v => exact bO.pan h
def mL (N : Nat) (us : List (TV EE.T)) (hs : List (Nat × TB EE.T)) : XR EE.T :=
 gdX (pN us 1) <|
 bnX (aD (.sl (.nam 2)) us 0) fun x0 =>
 gdX (cA hs []) <|
 .may (dO N x0) [] ju (Md)
theorem qz (N : Nat) : XOk Tryz.prog EE 5 (mL N) := fun us hs =>
 dr fun h1 => cZ fun x0 h2 => dr fun h3 => fun p hz => ⟨fun z e => rfl, fun ρ hi => zy (us' := Pg x0) (h0 := M2 x0) (ρ' := zP ρ []) hi h3 (by kernel_rfl) ⟨xT h2, fC h1⟩ trivial (fun hj => td x0 hz _ hj) (fun out H h => by cases p with | ok z => exact ⟨h.1.trans (by kernel_rfl), h.2.trans (by kernel_rfl)⟩ | pan v => exact h)⟩
def iK (r : Bool) : TV EE.T := .a (.d .bool r)
def fG (r : Bool) : RL EE.T := .ret (iK r) []
def Kf : Lvs := ⟨[], [], [], [], false, [], [], [], []⟩
def Ku : List ResultVar := [.tmp 2]
def Oy (N : Nat) : Gam EE := ⟨[], EQT, [], []⟩
theorem M7 (N : Nat) : GOk Tryz.prog TT EE (Oy N) := GOk.nil cn
def EZ (c : Code) : List It2 := [.c c]
def Du (x0 : UInt8) : TS EE.T := ⟨21, [(0, .a (.d .byte x0))], [], []⟩
def zZ (c : Code) (N : Nat) (x0 : UInt8) : Tree (Lf EE.T × Option Bool) :=
 .cond (decide ((b2i x0) ≥ (b2i 97)))
 (
  .cond (decide ((b2i x0) ≤ (b2i 122)))
  (
   .leaf (.done (fG true), some true))
  (
   .cond (decide ((b2i x0) ≥ (b2i 65)))
   (
    .cond (decide ((b2i x0) ≤ (b2i 90)))
    (
     .leaf (.done (fG true), some true))
    (
     .leaf (.done (fG ((b2i x0) == (b2i 95))), some ((b2i x0) == (b2i 95)))))
   (
    .leaf (.done (fG ((b2i x0) == (b2i 95))), some ((b2i x0) == (b2i 95))))))
 (
  .cond (decide ((b2i x0) ≥ (b2i 65)))
  (
   .cond (decide ((b2i x0) ≤ (b2i 90)))
   (
    .leaf (.done (fG true), some true))
   (
    .leaf (.done (fG ((b2i x0) == (b2i 95))), some ((b2i x0) == (b2i 95)))))
  (
   .leaf (.done (fG ((b2i x0) == (b2i 95))), some ((b2i x0) == (b2i 95)))))
theorem L7 (N : Nat) (x0 : UInt8) : evM TT EE (Oy N) Kf Ku 4000 true (EZ (aa 0 Tryz.f46)) (Du x0) = (zZ (aa 0 Tryz.f46) N x0).map1 := by kernel_rfl
theorem Nc (N : Nat) (x0 : UInt8) : ei N x0 = (zZ (aa 0 Tryz.f46) N x0).run := by kernel_rfl
theorem NK {N : Nat} {r : Bool} (x0 : UInt8) (h : ei N x0 = some r) : bP (Y := TT) EE (Oy N) Kf Ku (fun u => u = fG r) (EZ (aa 0 Tryz.f46)) (Du x0) :=
 ay (L7 N x0) (Nc N x0) h (show (zZ (aa 0 Tryz.f46) N x0).all _ from ⟨⟨bx (enc := fG) rfl, ⟨⟨bx (enc := fG) rfl, bx (enc := fG) rfl⟩, bx (enc := fG) rfl⟩⟩, ⟨⟨bx (enc := fG) rfl, bx (enc := fG) rfl⟩, bx (enc := fG) rfl⟩⟩)
theorem qI {N : Nat} (x0 : UInt8) {r : Bool} (h : ei N x0 = some r) (ρ : Rn) : ak Tryz.prog 46 (([.a (.d .byte x0)] : List (TV EE.T)).map (TV.to EE.toEnc ρ)) [] (fun out H => out = .ret ((iK r).to EE.toEnc ρ) ∧ H = []) :=
 (fk (aa 0 Tryz.f46) 21 mixed (M7 N) Tryz.func46 (by kernel_rfl) rfl rfl rfl rfl (NK x0 h) ρ).mono fun out H h => bO.ret rfl h
def iQ (N : Nat) : List (TV EE.T) → PV EE.T
 | [u0] => match fj .byte u0 with
   | some x0 => .opt (ei N x0) iK
   | _ => .bad
 | _ => .bad
theorem pc (N : Nat) (us : List (TV EE.T)) : (iQ N us).ok fun u => ∀ ρ, ak Tryz.prog 46 (us.map (TV.to EE.toEnc ρ)) [] (fun out H => out = .ret (u.to EE.toEnc ρ) ∧ H = []) := by
 unfold iQ
 split
 ·split
  ·rename_i h0
   intro z hz ρ; refine br ?_ (qI _ hz ρ); exact ⟨bm h0 ρ, trivial⟩
  ·trivial
 ·trivial
def ie (r : Bool) : TV EE.T := .a (.d .bool r)
def rZ (r : Bool) : RL EE.T := .ret (ie r) []
def Ke : Lvs := ⟨[], [], [], [], false, [], [], [], []⟩
def Kk : List ResultVar := [.tmp 2]
def LN (N : Nat) : Gam EE := ⟨[], EQT, [], []⟩
theorem Od (N : Nat) : GOk Tryz.prog TT EE (LN N) := GOk.nil cn
def EF (c : Code) : List It2 := [.c c]
def EO (x0 : UInt8) : TS EE.T := ⟨9, [(0, .a (.d .byte x0))], [], []⟩
def zH (c : Code) (N : Nat) (x0 : UInt8) : Tree (Lf EE.T × Option Bool) :=
 .cond (decide ((b2i x0) ≥ (b2i 48)))
 (
  .leaf (.done (rZ (decide ((b2i x0) ≤ (b2i 57)))), some (decide ((b2i x0) ≤ (b2i 57)))))
 (
  .leaf (.done (rZ false), some false))
theorem K0 (N : Nat) (x0 : UInt8) : evM TT EE (LN N) Ke Kk 4000 true (EF (aa 0 Tryz.f47)) (EO x0) = (zH (aa 0 Tryz.f47) N x0).map1 := by kernel_rfl
theorem MH (N : Nat) (x0 : UInt8) : dV N x0 = (zH (aa 0 Tryz.f47) N x0).run := by kernel_rfl
theorem Ov {N : Nat} {r : Bool} (x0 : UInt8) (h : dV N x0 = some r) : bP (Y := TT) EE (LN N) Ke Kk (fun u => u = rZ r) (EF (aa 0 Tryz.f47)) (EO x0) :=
 ay (K0 N x0) (MH N x0) h (show (zH (aa 0 Tryz.f47) N x0).all _ from ⟨bx (enc := rZ) rfl, bx (enc := rZ) rfl⟩)
theorem pS {N : Nat} (x0 : UInt8) {r : Bool} (h : dV N x0 = some r) (ρ : Rn) : ak Tryz.prog 47 (([.a (.d .byte x0)] : List (TV EE.T)).map (TV.to EE.toEnc ρ)) [] (fun out H => out = .ret ((ie r).to EE.toEnc ρ) ∧ H = []) :=
 (fk (aa 0 Tryz.f47) 9 mixed (Od N) Tryz.func47 (by kernel_rfl) rfl rfl rfl rfl (Ov x0 h) ρ).mono fun out H h => bO.ret rfl h
def ib (N : Nat) : List (TV EE.T) → PV EE.T
 | [u0] => match fj .byte u0 with
   | some x0 => .opt (dV N x0) ie
   | _ => .bad
 | _ => .bad
theorem n7 (N : Nat) (us : List (TV EE.T)) : (ib N us).ok fun u => ∀ ρ, ak Tryz.prog 47 (us.map (TV.to EE.toEnc ρ)) [] (fun out H => out = .ret (u.to EE.toEnc ρ) ∧ H = []) := by
 unfold ib
 split
 ·split
  ·rename_i h0
   intro z hz ρ; refine br ?_ (pS _ hz ρ); exact ⟨bm h0 ρ, trivial⟩
  ·trivial
 ·trivial
def kw (r : Bool) : TV EE.T := .a (.d .bool r)
def io (r : Bool) : RL EE.T := .ret (kw r) []
def s7 : Lvs := ⟨[(3, ⟨[(0, false), (3, false)], [], [], []⟩)], [(2, ⟨[(0, false), (3, false)], [], [], []⟩)], [3], [], false, [], [], [], []⟩
def rQ : List ResultVar := [.tmp 2]
def w6 (N : Nat) : Gam EE := ⟨[⟨46, iQ N⟩, ⟨47, ib N⟩], EQT, [], []⟩
theorem Mv (N : Nat) : GOk Tryz.prog TT EE (w6 N) := GOk.cons (pc N) (GOk.cons (n7 N) (GOk.nil cn))
def wo (c : Code) : List It2 := atR 3 c
def vQ (x0 : List UInt8) (x3 : Int) : TS EE.T := ⟨34, [(0, .a (.d .str x0)), (3, .a (.d (.int .i64) x3))], [], []⟩
def sL (c : Code) : List It2 := atL 2 c
def sO (x0 : List UInt8) (x3 : Int) : TS EE.T := ⟨34, [(0, .a (.d .str x0)), (3, .a (.d (.int .i64) x3))], [], []⟩
def F0 (c : Code) : List It2 := [.c c]
def EG (x0 : List UInt8) : TS EE.T := ⟨34, [(0, .a (.d .str x0))], [], []⟩
def zO (c : Code) (N : Nat) (k2 : (List UInt8) → Int → Option Bool) (n : Nat) (x0 : List UInt8) (x3 : Int) : Tree (Lf EE.T × Option Bool) :=
 .leaf (.go (sL c) (sO x0 (w64 (x3 + 1))), k2 x0 (w64 (x3 + 1)))
theorem LK (N : Nat) (k2 : (List UInt8) → Int → Option Bool) (n : Nat) (x0 : List UInt8) (x3 : Int) : evM TT EE (w6 N) s7 rQ 4000 true (wo (aa 0 Tryz.f20)) (vQ x0 x3) = (zO (aa 0 Tryz.f20) N k2 n x0 x3).map1 := by kernel_rfl
theorem Lm (N : Nat) (k2 : (List UInt8) → Int → Option Bool) (n : Nat) (x0 : List UInt8) (x3 : Int) : dU N k2 n x0 x3 = (zO (aa 0 Tryz.f20) N k2 n x0 x3).run := by kernel_rfl
theorem C5 {N : Nat} {r : Bool} {k2 : (List UInt8) → Int → Option Bool} (hk2 : ∀ x0 x3, k2 x0 x3 = some r → bP (Y := TT) EE (w6 N) s7 rQ (fun u => u = io r) (sL (aa 0 Tryz.f20)) (sO x0 x3)) (n : Nat) (x0 : List UInt8) (x3 : Int) (h : dU N k2 n x0 x3 = some r) : bP (Y := TT) EE (w6 N) s7 rQ (fun u => u = io r) (wo (aa 0 Tryz.f20)) (vQ x0 x3) :=
 ay (LK N k2 n x0 x3) (Lm N k2 n x0 x3) h (show (zO (aa 0 Tryz.f20) N k2 n x0 x3).all _ from fun h => hk2 _ _ h)
def zn (c : Code) (N : Nat) (n : Nat) (x0 : List UInt8) (x3 : Int) : Tree (Lf EE.T × Option Bool) :=
 .cond (decide (x3 < (x0.length : Int)))
 (
  .bnd (cx x0 x3) fun z1 =>
  .bnd (ei N z1) fun z2 =>
  .cond (!z2)
  (
   .cond (x3 == 0)
   (
    .leaf (.done (io false), some false))
   (
    .bnd (cx x0 x3) fun z3 =>
    .bnd (dV N z3) fun z4 =>
    .cond (!z4)
    (
     .leaf (.done (io false), some false))
    (
     .leaf (.go (wo c) (vQ x0 x3), dU N (b7 N n) n x0 x3))))
  (
   .leaf (.go (wo c) (vQ x0 x3), dU N (b7 N n) n x0 x3)))
 (
  .cond (decide ((x0.length : Int) ≥ 1))
  (
   .leaf (.done (io (decide ((x0.length : Int) ≤ 40))), some (decide ((x0.length : Int) ≤ 40))))
  (
   .leaf (.done (io false), some false)))
theorem LO (N : Nat) (n : Nat) (x0 : List UInt8) (x3 : Int) : evM TT EE (w6 N) s7 rQ 4000 true (sL (aa 0 Tryz.f20)) (sO x0 x3) = (zn (aa 0 Tryz.f20) N n x0 x3).map1 := by kernel_rfl
theorem OM (N : Nat) (n : Nat) (x0 : List UInt8) (x3 : Int) : b7 N (n + 1) x0 x3 = (zn (aa 0 Tryz.f20) N n x0 x3).run := by kernel_rfl
theorem za {N : Nat} {r : Bool} : ∀ (n : Nat) (x0 : List UInt8) (x3 : Int), b7 N n x0 x3 = some r → bP (Y := TT) EE (w6 N) s7 rQ (fun u => u = io r) (sL (aa 0 Tryz.f20)) (sO x0 x3)
 | 0, _, _, h => by cases h
 | n + 1, x0, x3, h => ay (LO N n x0 x3) (OM N n x0 x3) h (show (zn (aa 0 Tryz.f20) N n x0 x3).all _ from ⟨fun _ => fun _ => ⟨⟨bx (enc := io) rfl, fun _ => fun _ => ⟨bx (enc := io) rfl, fun h => C5 (za n) n _ _ h⟩⟩, fun h => C5 (za n) n _ _ h⟩, ⟨bx (enc := io) rfl, bx (enc := io) rfl⟩⟩)
def zl (c : Code) (N : Nat) (x0 : List UInt8) : Tree (Lf EE.T × Option Bool) :=
 .leaf (.go (sL c) (sO x0 0), b7 N N x0 0)
theorem Nw (N : Nat) (x0 : List UInt8) : evM TT EE (w6 N) s7 rQ 4000 true (F0 (aa 0 Tryz.f20)) (EG x0) = (zl (aa 0 Tryz.f20) N x0).map1 := by kernel_rfl
theorem MK (N : Nat) (x0 : List UInt8) : dX N x0 = (zl (aa 0 Tryz.f20) N x0).run := by kernel_rfl
theorem OE {N : Nat} {r : Bool} (x0 : List UInt8) (h : dX N x0 = some r) : bP (Y := TT) EE (w6 N) s7 rQ (fun u => u = io r) (F0 (aa 0 Tryz.f20)) (EG x0) :=
 ay (Nw N x0) (MK N x0) h (show (zl (aa 0 Tryz.f20) N x0).all _ from fun h => za N _ _ h)
theorem tA {N : Nat} (x0 : List UInt8) {r : Bool} (h : dX N x0 = some r) (ρ : Rn) : ak Tryz.prog 20 (([.a (.d .str x0)] : List (TV EE.T)).map (TV.to EE.toEnc ρ)) [] (fun out H => out = .ret ((kw r).to EE.toEnc ρ) ∧ H = []) :=
 (fk (aa 0 Tryz.f20) 34 mixed (Mv N) Tryz.func20 (by kernel_rfl) rfl rfl rfl rfl (OE x0 h) ρ).mono fun out H h => bO.ret rfl h
def kg (N : Nat) : List (TV EE.T) → PV EE.T
 | [u0] => match fj .str u0 with
   | some x0 => .opt (dX N x0) kw
   | _ => .bad
 | _ => .bad
theorem r5 (N : Nat) (us : List (TV EE.T)) : (kg N us).ok fun u => ∀ ρ, ak Tryz.prog 20 (us.map (TV.to EE.toEnc ρ)) [] (fun out H => out = .ret (u.to EE.toEnc ρ) ∧ H = []) := by
 unfold kg
 split
 ·split
  ·rename_i h0
   intro z hz ρ; refine br ?_ (tA _ hz ρ); exact ⟨bm h0 ρ, trivial⟩
  ·trivial
 ·trivial
def hQ (r : Int) : TV EE.T := .a (.d (.int .i64) r)
def gt (r : Int) : RL EE.T := .ret (hQ r) []
def qJ : Lvs := ⟨[(8, ⟨[(0, false), (1, false), (5, false)], [], [], []⟩), (16, ⟨[(0, false), (6, false), (7, false)], [], [], []⟩)], [(4, ⟨[(0, false), (1, false), (5, false)], [], [], []⟩), (11, ⟨[(0, false), (6, false)], [], [], []⟩), (14, ⟨[(0, false), (6, false), (7, false)], [], [], []⟩)], [8], [], false, [], [], [], []⟩
def qL : List ResultVar := [.tmp 4]
def w6G (N : Nat) : Gam EE := ⟨[⟨20, kg N⟩], EQT, [], []⟩
theorem Pq (N : Nat) : GOk Tryz.prog TT EE (w6G N) := GOk.cons (r5 N) (GOk.nil cn)
def AX (c : Code) : List It2 := atR 8 c
def A0 (x0 : List VLabel) (x1 : Bool) (x5 : Int) : TS EE.T := ⟨65, [(0, .a (.d (.sl (.nam 2)) x0)), (1, .a (.d .bool x1)), (5, .a (.d (.int .i64) x5))], [], []⟩
def wg (c : Code) : List It2 := atL 14 c
def vp (x0 : List VLabel) (x6 : Int) (x7 : Int) : TS EE.T := ⟨65, [(0, .a (.d (.sl (.nam 2)) x0)), (6, .a (.d (.int .i64) x6)), (7, .a (.d (.int .i64) x7))], [], []⟩
def rV (c : Code) : List It2 := atL 11 c
def te (x0 : List VLabel) (x6 : Int) : TS EE.T := ⟨65, [(0, .a (.d (.sl (.nam 2)) x0)), (6, .a (.d (.int .i64) x6))], [], []⟩
def xS (c : Code) : List It2 := atL 4 c
def w8 (x0 : List VLabel) (x1 : Bool) (x5 : Int) : TS EE.T := ⟨65, [(0, .a (.d (.sl (.nam 2)) x0)), (1, .a (.d .bool x1)), (5, .a (.d (.int .i64) x5))], [], []⟩
def Kg (c : Code) : List It2 := [.c c]
def Kd (x0 : List VLabel) (x1 : Bool) : TS EE.T := ⟨65, [(0, .a (.d (.sl (.nam 2)) x0)), (1, .a (.d .bool x1))], [], []⟩
def DD (c : Code) (N : Nat) (k4 : (List VLabel) → Bool → Int → Option Int) (n : Nat) (x0 : List VLabel) (x1 : Bool) (x5 : Int) : Tree (Lf EE.T × Option Int) :=
 .bnd (cx x0 x5) fun z4 =>
 .cond (decide ((z4.Value.length : Int) > 100))
 (
  .leaf (.done (gt 2), some 2))
 (
  .leaf (.go (xS c) (w8 x0 x1 (w64 (x5 + 1))), k4 x0 x1 (w64 (x5 + 1))))
theorem P9 (N : Nat) (k4 : (List VLabel) → Bool → Int → Option Int) (n : Nat) (x0 : List VLabel) (x1 : Bool) (x5 : Int) : evM TT EE (w6G N) qJ qL 4000 true (AX (aa 0 Tryz.f6)) (A0 x0 x1 x5) = (DD (aa 0 Tryz.f6) N k4 n x0 x1 x5).map1 := by kernel_rfl
theorem PH (N : Nat) (k4 : (List VLabel) → Bool → Int → Option Int) (n : Nat) (x0 : List VLabel) (x1 : Bool) (x5 : Int) : cG N k4 n x0 x1 x5 = (DD (aa 0 Tryz.f6) N k4 n x0 x1 x5).run := by kernel_rfl
theorem Kc {N : Nat} {r : Int} {k4 : (List VLabel) → Bool → Int → Option Int} (hk4 : ∀ x0 x1 x5, k4 x0 x1 x5 = some r → bP (Y := TT) EE (w6G N) qJ qL (fun u => u = gt r) (xS (aa 0 Tryz.f6)) (w8 x0 x1 x5)) (n : Nat) (x0 : List VLabel) (x1 : Bool) (x5 : Int) (h : cG N k4 n x0 x1 x5 = some r) : bP (Y := TT) EE (w6G N) qJ qL (fun u => u = gt r) (AX (aa 0 Tryz.f6)) (A0 x0 x1 x5) :=
 ay (P9 N k4 n x0 x1 x5) (PH N k4 n x0 x1 x5) h (show (DD (aa 0 Tryz.f6) N k4 n x0 x1 x5).all _ from fun _ => ⟨bx (enc := gt) rfl, fun h => hk4 _ _ _ h⟩)
def zD (c : Code) (N : Nat) (k11 : (List VLabel) → Int → Option Int) (n : Nat) (x0 : List VLabel) (x6 : Int) (x7 : Int) : Tree (Lf EE.T × Option Int) :=
 .cond (decide (x7 < x6))
 (
  .bnd (cx x0 x7) fun z5 =>
  .bnd (cx x0 x6) fun z6 =>
  .cond (decide (z5.Name = z6.Name))
  (
   .leaf (.done (gt 6), some 6))
  (
   .leaf (.go (wg c) (vp x0 x6 (w64 (x7 + 1))), bF N k11 n x0 x6 (w64 (x7 + 1)))))
 (
  .leaf (.go (rV c) (te x0 (w64 (x6 + 1))), k11 x0 (w64 (x6 + 1))))
theorem Mk (N : Nat) (k11 : (List VLabel) → Int → Option Int) (n : Nat) (x0 : List VLabel) (x6 : Int) (x7 : Int) : evM TT EE (w6G N) qJ qL 4000 true (wg (aa 0 Tryz.f6)) (vp x0 x6 x7) = (zD (aa 0 Tryz.f6) N k11 n x0 x6 x7).map1 := by kernel_rfl
theorem N6 (N : Nat) (k11 : (List VLabel) → Int → Option Int) (n : Nat) (x0 : List VLabel) (x6 : Int) (x7 : Int) : bF N k11 (n + 1) x0 x6 x7 = (zD (aa 0 Tryz.f6) N k11 n x0 x6 x7).run := by kernel_rfl
theorem Ej {N : Nat} {r : Int} {k11 : (List VLabel) → Int → Option Int} (hk11 : ∀ x0 x6, k11 x0 x6 = some r → bP (Y := TT) EE (w6G N) qJ qL (fun u => u = gt r) (rV (aa 0 Tryz.f6)) (te x0 x6)) : ∀ (n : Nat) (x0 : List VLabel) (x6 : Int) (x7 : Int), bF N k11 n x0 x6 x7 = some r → bP (Y := TT) EE (w6G N) qJ qL (fun u => u = gt r) (wg (aa 0 Tryz.f6)) (vp x0 x6 x7)
 | 0, _, _, _, h => by cases h
 | n + 1, x0, x6, x7, h => ay (Mk N k11 n x0 x6 x7) (N6 N k11 n x0 x6 x7) h (show (zD (aa 0 Tryz.f6) N k11 n x0 x6 x7).all _ from ⟨fun _ => fun _ => ⟨bx (enc := gt) rfl, fun h => (Ej hk11 n) _ _ _ h⟩, fun h => hk11 _ _ h⟩)
def zJ (c : Code) (N : Nat) (n : Nat) (x0 : List VLabel) (x6 : Int) : Tree (Lf EE.T × Option Int) :=
 .cond (decide (x6 < (x0.length : Int)))
 (
  .leaf (.go (wg c) (vp x0 x6 0), bF N (bn N n) n x0 x6 0))
 (
  .leaf (.done (gt 0), some 0))
theorem NV (N : Nat) (n : Nat) (x0 : List VLabel) (x6 : Int) : evM TT EE (w6G N) qJ qL 4000 true (rV (aa 0 Tryz.f6)) (te x0 x6) = (zJ (aa 0 Tryz.f6) N n x0 x6).map1 := by kernel_rfl
theorem Lg (N : Nat) (n : Nat) (x0 : List VLabel) (x6 : Int) : bn N (n + 1) x0 x6 = (zJ (aa 0 Tryz.f6) N n x0 x6).run := by kernel_rfl
theorem Dy {N : Nat} {r : Int} : ∀ (n : Nat) (x0 : List VLabel) (x6 : Int), bn N n x0 x6 = some r → bP (Y := TT) EE (w6G N) qJ qL (fun u => u = gt r) (rV (aa 0 Tryz.f6)) (te x0 x6)
 | 0, _, _, h => by cases h
 | n + 1, x0, x6, h => ay (NV N n x0 x6) (Lg N n x0 x6) h (show (zJ (aa 0 Tryz.f6) N n x0 x6).all _ from ⟨fun h => Ej (Dy n) n _ _ _ h, bx (enc := gt) rfl⟩)
def DJ (c : Code) (N : Nat) (n : Nat) (x0 : List VLabel) (x1 : Bool) (x5 : Int) : Tree (Lf EE.T × Option Int) :=
 .cond (decide (x5 < (x0.length : Int)))
 (
  .bnd (cx x0 x5) fun z1 =>
  .bnd (dX N z1.Name) fun z2 =>
  .cond (!z2)
  (
   .leaf (.done (gt 1), some 1))
  (
   .bnd (cx x0 x5) fun z3 =>
   .cond (decide (z3.Value = ([] : List UInt8)))
   (
    .cond (!x1)
    (
     .leaf (.done (gt 1), some 1))
    (
     .leaf (.go (AX c) (A0 x0 x1 x5), cG N (bk N n) n x0 x1 x5)))
   (
    .leaf (.go (AX c) (A0 x0 x1 x5), cG N (bk N n) n x0 x1 x5))))
 (
  .leaf (.go (rV c) (te x0 0), bn N n x0 0))
theorem PE (N : Nat) (n : Nat) (x0 : List VLabel) (x1 : Bool) (x5 : Int) : evM TT EE (w6G N) qJ qL 4000 true (xS (aa 0 Tryz.f6)) (w8 x0 x1 x5) = (DJ (aa 0 Tryz.f6) N n x0 x1 x5).map1 := by kernel_rfl
theorem OV (N : Nat) (n : Nat) (x0 : List VLabel) (x1 : Bool) (x5 : Int) : bk N (n + 1) x0 x1 x5 = (DJ (aa 0 Tryz.f6) N n x0 x1 x5).run := by kernel_rfl
theorem EW {N : Nat} {r : Int} : ∀ (n : Nat) (x0 : List VLabel) (x1 : Bool) (x5 : Int), bk N n x0 x1 x5 = some r → bP (Y := TT) EE (w6G N) qJ qL (fun u => u = gt r) (xS (aa 0 Tryz.f6)) (w8 x0 x1 x5)
 | 0, _, _, _, h => by cases h
 | n + 1, x0, x1, x5, h => ay (PE N n x0 x1 x5) (OV N n x0 x1 x5) h (show (DJ (aa 0 Tryz.f6) N n x0 x1 x5).all _ from ⟨fun _ => fun _ => ⟨bx (enc := gt) rfl, fun _ => ⟨⟨bx (enc := gt) rfl, fun h => Kc (EW n) n _ _ _ h⟩, fun h => Kc (EW n) n _ _ _ h⟩⟩, fun h => Dy n _ _ h⟩)
def F6 (c : Code) (N : Nat) (x0 : List VLabel) (x1 : Bool) : Tree (Lf EE.T × Option Int) :=
 .cond (decide ((x0.length : Int) > 20))
 (
  .leaf (.done (gt 2), some 2))
 (
  .leaf (.go (xS c) (w8 x0 x1 0), bk N N x0 x1 0))
theorem O8 (N : Nat) (x0 : List VLabel) (x1 : Bool) : evM TT EE (w6G N) qJ qL 4000 true (Kg (aa 0 Tryz.f6)) (Kd x0 x1) = (F6 (aa 0 Tryz.f6) N x0 x1).map1 := by kernel_rfl
theorem Pk (N : Nat) (x0 : List VLabel) (x1 : Bool) : cM N x0 x1 = (F6 (aa 0 Tryz.f6) N x0 x1).run := by kernel_rfl
theorem Pv {N : Nat} {r : Int} (x0 : List VLabel) (x1 : Bool) (h : cM N x0 x1 = some r) : bP (Y := TT) EE (w6G N) qJ qL (fun u => u = gt r) (Kg (aa 0 Tryz.f6)) (Kd x0 x1) :=
 ay (O8 N x0 x1) (Pk N x0 x1) h (show (F6 (aa 0 Tryz.f6) N x0 x1).all _ from ⟨bx (enc := gt) rfl, fun h => EW N _ _ _ h⟩)
theorem pI {N : Nat} (x0 : List VLabel) (x1 : Bool) {r : Int} (h : cM N x0 x1 = some r) (ρ : Rn) : ak Tryz.prog 6 (([.a (.d (.sl (.nam 2)) x0), .a (.d .bool x1)] : List (TV EE.T)).map (TV.to EE.toEnc ρ)) [] (fun out H => out = .ret ((hQ r).to EE.toEnc ρ) ∧ H = []) :=
 (fk (aa 0 Tryz.f6) 65 mixed (Pq N) Tryz.func6 (by kernel_rfl) rfl rfl rfl rfl (Pv x0 x1 h) ρ).mono fun out H h => bO.ret rfl h
def ij (N : Nat) : List (TV EE.T) → PV EE.T
 | [u0, u1] => match fj (.sl (.nam 2)) u0, fj .bool u1 with
   | some x0, some x1 => .opt (cM N x0 x1) hQ
   | _, _ => .bad
 | _ => .bad
theorem oh (N : Nat) (us : List (TV EE.T)) : (ij N us).ok fun u => ∀ ρ, ak Tryz.prog 6 (us.map (TV.to EE.toEnc ρ)) [] (fun out H => out = .ret (u.to EE.toEnc ρ) ∧ H = []) := by
 unfold ij
 split
 ·split
  ·rename_i h0 h1
   intro z hz ρ; refine br ?_ (pI _ _ hz ρ); exact ⟨bm h0 ρ, bm h1 ρ, trivial⟩
  ·trivial
 ·trivial
def iW (r : List VLabel) : TV EE.T := .a (.d (.sl (.nam 2)) r)
def jo (r : List VLabel) : RL EE.T := .ret (iW r) []
def mO : Lvs := ⟨[(5, ⟨[(0, false), (1, false), (2, false), (7, false), (8, false), (9, false)], [], [], []⟩), (9, ⟨[(0, false), (1, false), (2, false), (7, false), (8, false), (9, false)], [], [], []⟩)], [(4, ⟨[(0, false), (1, false), (2, false), (7, false), (8, false), (9, false)], [], [], []⟩)], [5, 9], [], false, [], [], [], []⟩
def mI : List ResultVar := [.tmp 6]
def sQ (N : Nat) : Gam EE := ⟨[], EQT, [], []⟩
theorem MF (N : Nat) : GOk Tryz.prog TT EE (sQ N) := GOk.nil cn
def wA (c : Code) : List It2 := atR 5 c
def wG (x0 : List VLabel) (x1 : List UInt8) (x2 : List UInt8) (x7 : List VLabel) (x8 : Bool) (x9 : Int) : TS EE.T := ⟨58, [(0, .a (.d (.sl (.nam 2)) x0)), (1, .a (.d .str x1)), (2, .a (.d .str x2)), (7, .a (.own (.nam 2) x7)), (8, .a (.d .bool x8)), (9, .a (.d (.int .i64) x9))], [], []⟩
def rx (c : Code) : List It2 := atR 9 c
def sZ (x0 : List VLabel) (x1 : List UInt8) (x2 : List UInt8) (x7 : List VLabel) (x8 : Bool) (x9 : Int) : TS EE.T := ⟨58, [(0, .a (.d (.sl (.nam 2)) x0)), (1, .a (.d .str x1)), (2, .a (.d .str x2)), (7, .a (.own (.nam 2) x7)), (8, .a (.d .bool x8)), (9, .a (.d (.int .i64) x9))], [], []⟩
def pD (c : Code) : List It2 := atL 4 c
def pK (x0 : List VLabel) (x1 : List UInt8) (x2 : List UInt8) (x7 : List VLabel) (x8 : Bool) (x9 : Int) : TS EE.T := ⟨58, [(0, .a (.d (.sl (.nam 2)) x0)), (1, .a (.d .str x1)), (2, .a (.d .str x2)), (7, .a (.own (.nam 2) x7)), (8, .a (.d .bool x8)), (9, .a (.d (.int .i64) x9))], [], []⟩
def Gb (c : Code) : List It2 := [.c c]
def DR (x0 : List VLabel) (x1 : List UInt8) (x2 : List UInt8) : TS EE.T := ⟨58, [(0, .a (.d (.sl (.nam 2)) x0)), (1, .a (.d .str x1)), (2, .a (.d .str x2))], [], []⟩
def zV (c : Code) (N : Nat) (k4 : (List VLabel) → (List UInt8) → (List UInt8) → (List VLabel) → Bool → Int → Option (List VLabel)) (n : Nat) (x0 : List VLabel) (x1 : List UInt8) (x2 : List UInt8) (x7 : List VLabel) (x8 : Bool) (x9 : Int) : Tree (Lf EE.T × Option (List VLabel)) :=
 .leaf (.go (pD c) (pK x0 x1 x2 x7 x8 (w64 (x9 + 1))), k4 x0 x1 x2 x7 x8 (w64 (x9 + 1)))
theorem Ml (N : Nat) (k4 : (List VLabel) → (List UInt8) → (List UInt8) → (List VLabel) → Bool → Int → Option (List VLabel)) (n : Nat) (x0 : List VLabel) (x1 : List UInt8) (x2 : List UInt8) (x7 : List VLabel) (x8 : Bool) (x9 : Int) : evM TT EE (sQ N) mO mI 4000 true (wA (aa 0 Tryz.f21)) (wG x0 x1 x2 x7 x8 x9) = (zV (aa 0 Tryz.f21) N k4 n x0 x1 x2 x7 x8 x9).map1 := by kernel_rfl
theorem Oz (N : Nat) (k4 : (List VLabel) → (List UInt8) → (List UInt8) → (List VLabel) → Bool → Int → Option (List VLabel)) (n : Nat) (x0 : List VLabel) (x1 : List UInt8) (x2 : List UInt8) (x7 : List VLabel) (x8 : Bool) (x9 : Int) : cy N k4 n x0 x1 x2 x7 x8 x9 = (zV (aa 0 Tryz.f21) N k4 n x0 x1 x2 x7 x8 x9).run := by kernel_rfl
theorem w21oR5 {N : Nat} {r : List VLabel} {k4 : (List VLabel) → (List UInt8) → (List UInt8) → (List VLabel) → Bool → Int → Option (List VLabel)} (hk4 : ∀ x0 x1 x2 x7 x8 x9, k4 x0 x1 x2 x7 x8 x9 = some r → bP (Y := TT) EE (sQ N) mO mI (fun u => u = jo r) (pD (aa 0 Tryz.f21)) (pK x0 x1 x2 x7 x8 x9)) (n : Nat) (x0 : List VLabel) (x1 : List UInt8) (x2 : List UInt8) (x7 : List VLabel) (x8 : Bool) (x9 : Int) (h : cy N k4 n x0 x1 x2 x7 x8 x9 = some r) : bP (Y := TT) EE (sQ N) mO mI (fun u => u = jo r) (wA (aa 0 Tryz.f21)) (wG x0 x1 x2 x7 x8 x9) :=
 ay (Ml N k4 n x0 x1 x2 x7 x8 x9) (Oz N k4 n x0 x1 x2 x7 x8 x9) h (show (zV (aa 0 Tryz.f21) N k4 n x0 x1 x2 x7 x8 x9).all _ from fun h => hk4 _ _ _ _ _ _ h)
def yX (c : Code) (N : Nat) (k4 : (List VLabel) → (List UInt8) → (List UInt8) → (List VLabel) → Bool → Int → Option (List VLabel)) (n : Nat) (x0 : List VLabel) (x1 : List UInt8) (x2 : List UInt8) (x7 : List VLabel) (x8 : Bool) (x9 : Int) : Tree (Lf EE.T × Option (List VLabel)) :=
 .bnd (cx x0 x9) fun z4 =>
 .cond (!decide (z4.Name = x1))
 (
  .bnd (cx x0 x9) fun z5 =>
  .bnd (jY 32 x7 ([z5] : List VLabel)) fun z6 =>
  .leaf (.go (wA c) (wG x0 x1 x2 z6 x8 x9), cy N k4 n x0 x1 x2 z6 x8 x9))
 (
  .leaf (.go (wA c) (wG x0 x1 x2 x7 x8 x9), cy N k4 n x0 x1 x2 x7 x8 x9))
theorem L6 (N : Nat) (k4 : (List VLabel) → (List UInt8) → (List UInt8) → (List VLabel) → Bool → Int → Option (List VLabel)) (n : Nat) (x0 : List VLabel) (x1 : List UInt8) (x2 : List UInt8) (x7 : List VLabel) (x8 : Bool) (x9 : Int) : evM TT EE (sQ N) mO mI 4000 true (rx (aa 0 Tryz.f21)) (sZ x0 x1 x2 x7 x8 x9) = (yX (aa 0 Tryz.f21) N k4 n x0 x1 x2 x7 x8 x9).map1 := by kernel_rfl
theorem Oi (N : Nat) (k4 : (List VLabel) → (List UInt8) → (List UInt8) → (List VLabel) → Bool → Int → Option (List VLabel)) (n : Nat) (x0 : List VLabel) (x1 : List UInt8) (x2 : List UInt8) (x7 : List VLabel) (x8 : Bool) (x9 : Int) : bM N k4 n x0 x1 x2 x7 x8 x9 = (yX (aa 0 Tryz.f21) N k4 n x0 x1 x2 x7 x8 x9).run := by kernel_rfl
theorem zz {N : Nat} {r : List VLabel} {k4 : (List VLabel) → (List UInt8) → (List UInt8) → (List VLabel) → Bool → Int → Option (List VLabel)} (hk4 : ∀ x0 x1 x2 x7 x8 x9, k4 x0 x1 x2 x7 x8 x9 = some r → bP (Y := TT) EE (sQ N) mO mI (fun u => u = jo r) (pD (aa 0 Tryz.f21)) (pK x0 x1 x2 x7 x8 x9)) (n : Nat) (x0 : List VLabel) (x1 : List UInt8) (x2 : List UInt8) (x7 : List VLabel) (x8 : Bool) (x9 : Int) (h : bM N k4 n x0 x1 x2 x7 x8 x9 = some r) : bP (Y := TT) EE (sQ N) mO mI (fun u => u = jo r) (rx (aa 0 Tryz.f21)) (sZ x0 x1 x2 x7 x8 x9) :=
 ay (L6 N k4 n x0 x1 x2 x7 x8 x9) (Oi N k4 n x0 x1 x2 x7 x8 x9) h (show (yX (aa 0 Tryz.f21) N k4 n x0 x1 x2 x7 x8 x9).all _ from fun _ => ⟨fun _ => fun _ => fun h => w21oR5 hk4 n _ _ _ _ _ _ h, fun h => w21oR5 hk4 n _ _ _ _ _ _ h⟩)
def zi (c : Code) (N : Nat) (n : Nat) (x0 : List VLabel) (x1 : List UInt8) (x2 : List UInt8) (x7 : List VLabel) (x8 : Bool) (x9 : Int) : Tree (Lf EE.T × Option (List VLabel)) :=
 .cond (decide (x9 < (x0.length : Int)))
 (
  .cond (!x8)
  (
   .bnd (cx x0 x9) fun z1 =>
   .cond (!Op.bytesLess z1.Name x1)
   (
    .bnd (jY 32 x7 ([({ Name := x1, Value := x2 } : VLabel)] : List VLabel)) fun z2 =>
    .leaf (.go (rx c) (sZ x0 x1 x2 z2 true x9), bM N (aW N n) n x0 x1 x2 z2 true x9))
   (
    .leaf (.go (rx c) (sZ x0 x1 x2 x7 x8 x9), bM N (aW N n) n x0 x1 x2 x7 x8 x9)))
  (
   .leaf (.go (rx c) (sZ x0 x1 x2 x7 x8 x9), bM N (aW N n) n x0 x1 x2 x7 x8 x9)))
 (
  .cond (!x8)
  (
   .bnd (jY 32 x7 ([({ Name := x1, Value := x2 } : VLabel)] : List VLabel)) fun z3 =>
   .leaf (.done (jo z3), some z3))
  (
   .leaf (.done (jo x7), some x7)))
theorem OG (N : Nat) (n : Nat) (x0 : List VLabel) (x1 : List UInt8) (x2 : List UInt8) (x7 : List VLabel) (x8 : Bool) (x9 : Int) : evM TT EE (sQ N) mO mI 4000 true (pD (aa 0 Tryz.f21)) (pK x0 x1 x2 x7 x8 x9) = (zi (aa 0 Tryz.f21) N n x0 x1 x2 x7 x8 x9).map1 := by kernel_rfl
theorem Lz (N : Nat) (n : Nat) (x0 : List VLabel) (x1 : List UInt8) (x2 : List UInt8) (x7 : List VLabel) (x8 : Bool) (x9 : Int) : aW N (n + 1) x0 x1 x2 x7 x8 x9 = (zi (aa 0 Tryz.f21) N n x0 x1 x2 x7 x8 x9).run := by kernel_rfl
theorem vA {N : Nat} {r : List VLabel} : ∀ (n : Nat) (x0 : List VLabel) (x1 : List UInt8) (x2 : List UInt8) (x7 : List VLabel) (x8 : Bool) (x9 : Int), aW N n x0 x1 x2 x7 x8 x9 = some r → bP (Y := TT) EE (sQ N) mO mI (fun u => u = jo r) (pD (aa 0 Tryz.f21)) (pK x0 x1 x2 x7 x8 x9)
 | 0, _, _, _, _, _, _, h => by cases h
 | n + 1, x0, x1, x2, x7, x8, x9, h => ay (OG N n x0 x1 x2 x7 x8 x9) (Lz N n x0 x1 x2 x7 x8 x9) h (show (zi (aa 0 Tryz.f21) N n x0 x1 x2 x7 x8 x9).all _ from ⟨⟨fun _ => ⟨fun _ => fun h => zz (vA n) n _ _ _ _ _ _ h, fun h => zz (vA n) n _ _ _ _ _ _ h⟩, fun h => zz (vA n) n _ _ _ _ _ _ h⟩, ⟨fun _ => bx (enc := jo) rfl, bx (enc := jo) rfl⟩⟩)
def Aa (c : Code) (N : Nat) (x0 : List VLabel) (x1 : List UInt8) (x2 : List UInt8) : Tree (Lf EE.T × Option (List VLabel)) :=
 .leaf (.go (pD c) (pK x0 x1 x2 ([] : List VLabel) (decide (x2 = ([] : List UInt8))) 0), aW N N x0 x1 x2 ([] : List VLabel) (decide (x2 = ([] : List UInt8))) 0)
theorem NX (N : Nat) (x0 : List VLabel) (x1 : List UInt8) (x2 : List UInt8) : evM TT EE (sQ N) mO mI 4000 true (Gb (aa 0 Tryz.f21)) (DR x0 x1 x2) = (Aa (aa 0 Tryz.f21) N x0 x1 x2).map1 := by kernel_rfl
theorem Lx (N : Nat) (x0 : List VLabel) (x1 : List UInt8) (x2 : List UInt8) : de N x0 x1 x2 = (Aa (aa 0 Tryz.f21) N x0 x1 x2).run := by kernel_rfl
theorem MT {N : Nat} {r : List VLabel} (x0 : List VLabel) (x1 : List UInt8) (x2 : List UInt8) (h : de N x0 x1 x2 = some r) : bP (Y := TT) EE (sQ N) mO mI (fun u => u = jo r) (Gb (aa 0 Tryz.f21)) (DR x0 x1 x2) :=
 ay (NX N x0 x1 x2) (Lx N x0 x1 x2) h (show (Aa (aa 0 Tryz.f21) N x0 x1 x2).all _ from fun h => vA N _ _ _ _ _ _ h)
theorem qN {N : Nat} (x0 : List VLabel) (x1 : List UInt8) (x2 : List UInt8) {r : List VLabel} (h : de N x0 x1 x2 = some r) (ρ : Rn) : ak Tryz.prog 21 (([.a (.d (.sl (.nam 2)) x0), .a (.d .str x1), .a (.d .str x2)] : List (TV EE.T)).map (TV.to EE.toEnc ρ)) [] (fun out H => out = .ret ((iW r).to EE.toEnc ρ) ∧ H = []) :=
 (fk (aa 0 Tryz.f21) 58 mixed (MF N) Tryz.func21 (by kernel_rfl) rfl rfl rfl rfl (MT x0 x1 x2 h) ρ).mono fun out H h => bO.ret rfl h
def iM (N : Nat) : List (TV EE.T) → PV EE.T
 | [u0, u1, u2] => match fj (.sl (.nam 2)) u0, fj .str u1, fj .str u2 with
   | some x0, some x1, some x2 => .opt (de N x0 x1 x2) iW
   | _, _, _ => .bad
 | _ => .bad
theorem pz (N : Nat) (us : List (TV EE.T)) : (iM N us).ok fun u => ∀ ρ, ak Tryz.prog 21 (us.map (TV.to EE.toEnc ρ)) [] (fun out H => out = .ret (u.to EE.toEnc ρ) ∧ H = []) := by
 unfold iM
 split
 ·split
  ·rename_i h0 h1 h2
   intro z hz ρ; refine br ?_ (qN _ _ _ hz ρ); exact ⟨bm h0 ρ, bm h1 ρ, bm h2 ρ, trivial⟩
  ·trivial
 ·trivial
def gJ (r : List VLabel) : TV EE.T := .a (.d (.sl (.nam 2)) r)
def ui (r : List VLabel) : RL EE.T := .ret (gJ r) []
def zb : Lvs := ⟨[(4, ⟨[(0, false), (3, true), (4, false)], [], [], []⟩), (6, ⟨[(0, false), (3, false), (4, false)], [], [], []⟩)], [(3, ⟨[(0, false), (3, true), (4, false)], [], [], []⟩)], [4], [], false, [], [], [], []⟩
def zF : List ResultVar := [.tmp 2]
def w7G (N : Nat) : Gam EE := ⟨[⟨21, iM N⟩], EQT, [], []⟩
theorem P5 (N : Nat) : GOk Tryz.prog TT EE (w7G N) := GOk.cons (pz N) (GOk.nil cn)
def AJ (c : Code) : List It2 := atR 4 c
def AZ (x0 : List VLabel) (x3 : List VLabel) (x4 : Int) : TS EE.T := ⟨30, [(0, .a (.d (.sl (.nam 2)) x0)), (3, .a (.d (.sl (.nam 2)) x3)), (4, .a (.d (.int .i64) x4))], [], []⟩
def yC (c : Code) : List It2 := atL 3 c
def xf (x0 : List VLabel) (x3 : List VLabel) (x4 : Int) : TS EE.T := ⟨30, [(0, .a (.d (.sl (.nam 2)) x0)), (3, .a (.d (.sl (.nam 2)) x3)), (4, .a (.d (.int .i64) x4))], [], []⟩
def KL (c : Code) : List It2 := [.c c]
def J7 (x0 : List VLabel) : TS EE.T := ⟨30, [(0, .a (.d (.sl (.nam 2)) x0))], [], []⟩
def C0 (c : Code) (N : Nat) (k3 : (List VLabel) → (List VLabel) → Int → Option (List VLabel)) (n : Nat) (x0 : List VLabel) (x3 : List VLabel) (x4 : Int) : Tree (Lf EE.T × Option (List VLabel)) :=
 .leaf (.go (yC c) (xf x0 x3 (w64 (x4 + 1))), k3 x0 x3 (w64 (x4 + 1)))
theorem PG (N : Nat) (k3 : (List VLabel) → (List VLabel) → Int → Option (List VLabel)) (n : Nat) (x0 : List VLabel) (x3 : List VLabel) (x4 : Int) : evM TT EE (w7G N) zb zF 4000 true (AJ (aa 0 Tryz.f7)) (AZ x0 x3 x4) = (C0 (aa 0 Tryz.f7) N k3 n x0 x3 x4).map1 := by kernel_rfl
theorem Pc (N : Nat) (k3 : (List VLabel) → (List VLabel) → Int → Option (List VLabel)) (n : Nat) (x0 : List VLabel) (x3 : List VLabel) (x4 : Int) : bT N k3 n x0 x3 x4 = (C0 (aa 0 Tryz.f7) N k3 n x0 x3 x4).run := by kernel_rfl
theorem Ka {N : Nat} {r : List VLabel} {k3 : (List VLabel) → (List VLabel) → Int → Option (List VLabel)} (hk3 : ∀ x0 x3 x4, k3 x0 x3 x4 = some r → bP (Y := TT) EE (w7G N) zb zF (fun u => u = ui r) (yC (aa 0 Tryz.f7)) (xf x0 x3 x4)) (n : Nat) (x0 : List VLabel) (x3 : List VLabel) (x4 : Int) (h : bT N k3 n x0 x3 x4 = some r) : bP (Y := TT) EE (w7G N) zb zF (fun u => u = ui r) (AJ (aa 0 Tryz.f7)) (AZ x0 x3 x4) :=
 ay (PG N k3 n x0 x3 x4) (Pc N k3 n x0 x3 x4) h (show (C0 (aa 0 Tryz.f7) N k3 n x0 x3 x4).all _ from fun h => hk3 _ _ _ h)
def C8 (c : Code) (N : Nat) (n : Nat) (x0 : List VLabel) (x3 : List VLabel) (x4 : Int) : Tree (Lf EE.T × Option (List VLabel)) :=
 .cond (decide (x4 < (x0.length : Int)))
 (
  .bnd (cx x0 x4) fun z1 =>
  .cond (!decide (z1.Value = ([] : List UInt8)))
  (
   .bnd (cx x0 x4) fun z2 =>
   .bnd (cx x0 x4) fun z3 =>
   .bnd (de N x3 z2.Name z3.Value) fun z4 =>
   .leaf (.go (AJ c) (AZ x0 z4 x4), bT N (a7 N n) n x0 z4 x4))
  (
   .leaf (.go (AJ c) (AZ x0 x3 x4), bT N (a7 N n) n x0 x3 x4)))
 (
  .leaf (.done (ui x3), some x3))
theorem Qa (N : Nat) (n : Nat) (x0 : List VLabel) (x3 : List VLabel) (x4 : Int) : evM TT EE (w7G N) zb zF 4000 true (yC (aa 0 Tryz.f7)) (xf x0 x3 x4) = (C8 (aa 0 Tryz.f7) N n x0 x3 x4).map1 := by kernel_rfl
theorem PS (N : Nat) (n : Nat) (x0 : List VLabel) (x3 : List VLabel) (x4 : Int) : a7 N (n + 1) x0 x3 x4 = (C8 (aa 0 Tryz.f7) N n x0 x3 x4).run := by kernel_rfl
theorem C1 {N : Nat} {r : List VLabel} : ∀ (n : Nat) (x0 : List VLabel) (x3 : List VLabel) (x4 : Int), a7 N n x0 x3 x4 = some r → bP (Y := TT) EE (w7G N) zb zF (fun u => u = ui r) (yC (aa 0 Tryz.f7)) (xf x0 x3 x4)
 | 0, _, _, _, h => by cases h
 | n + 1, x0, x3, x4, h => ay (Qa N n x0 x3 x4) (PS N n x0 x3 x4) h (show (C8 (aa 0 Tryz.f7) N n x0 x3 x4).all _ from ⟨fun _ => ⟨fun _ => fun _ => fun _ => fun h => Ka (C1 n) n _ _ _ h, fun h => Ka (C1 n) n _ _ _ h⟩, bx (enc := ui) rfl⟩)
def Fb (c : Code) (N : Nat) (x0 : List VLabel) : Tree (Lf EE.T × Option (List VLabel)) :=
 .leaf (.go (yC c) (xf x0 ([] : List VLabel) 0), a7 N N x0 ([] : List VLabel) 0)
theorem OX (N : Nat) (x0 : List VLabel) : evM TT EE (w7G N) zb zF 4000 true (KL (aa 0 Tryz.f7)) (J7 x0) = (Fb (aa 0 Tryz.f7) N x0).map1 := by kernel_rfl
theorem PW (N : Nat) (x0 : List VLabel) : b8 N x0 = (Fb (aa 0 Tryz.f7) N x0).run := by kernel_rfl
theorem PM {N : Nat} {r : List VLabel} (x0 : List VLabel) (h : b8 N x0 = some r) : bP (Y := TT) EE (w7G N) zb zF (fun u => u = ui r) (KL (aa 0 Tryz.f7)) (J7 x0) :=
 ay (OX N x0) (PW N x0) h (show (Fb (aa 0 Tryz.f7) N x0).all _ from fun h => C1 N _ _ _ h)
theorem ol {N : Nat} (x0 : List VLabel) {r : List VLabel} (h : b8 N x0 = some r) (ρ : Rn) : ak Tryz.prog 7 (([.a (.d (.sl (.nam 2)) x0)] : List (TV EE.T)).map (TV.to EE.toEnc ρ)) [] (fun out H => out = .ret ((gJ r).to EE.toEnc ρ) ∧ H = []) :=
 (fk (aa 0 Tryz.f7) 30 mixed (P5 N) Tryz.func7 (by kernel_rfl) rfl rfl rfl rfl (PM x0 h) ρ).mono fun out H h => bO.ret rfl h
def gH (N : Nat) : List (TV EE.T) → PV EE.T
 | [u0] => match fj (.sl (.nam 2)) u0 with
   | some x0 => .opt (b8 N x0) gJ
   | _ => .bad
 | _ => .bad
theorem nr (N : Nat) (us : List (TV EE.T)) : (gH N us).ok fun u => ∀ ρ, ak Tryz.prog 7 (us.map (TV.to EE.toEnc ρ)) [] (fun out H => out = .ret (u.to EE.toEnc ρ) ∧ H = []) := by
 unfold gH
 split
 ·split
  ·rename_i h0
   intro z hz ρ; refine br ?_ (ol _ hz ρ); exact ⟨bm h0 ρ, trivial⟩
  ·trivial
 ·trivial
def kQ (r : Int) : TV EE.T := .a (.d (.int .u64) r)
def uV (r : Int) : RL EE.T := .ret (kQ r) []
def AI : Lvs := ⟨[], [(2, ⟨[(0, false), (10, false), (11, false), (12, false)], [], [], []⟩)], [], [], false, [], [], [], []⟩
def Bo : List ResultVar := [.tmp 4]
def CY (N : Nat) : Gam EE := ⟨[], EQT, [], []⟩
theorem OS (N : Nat) : GOk Tryz.prog TT EE (CY N) := GOk.nil cn
def wf (c : Code) : List It2 := atL 2 c
def wC (x0 : Int) (x10 : List UInt8) (x11 : Int) (x12 : Int) : TS EE.T := ⟨23, [(0, .a (.d (.int .u64) x0)), (10, .a (.own .byte x10)), (11, .a (.d (.int .i64) x11)), (12, .a (.d (.int .i64) x12))], [], []⟩
def Ew (c : Code) : List It2 := [.c c]
def Eo (x0 : Int) (x1 : List UInt8) : TS EE.T := ⟨23, [(0, .a (.d (.int .u64) x0)), (1, .a (.d .str x1))], [], []⟩
def y1 (c : Code) (N : Nat) (n : Nat) (x0 : Int) (x10 : List UInt8) (x11 : Int) (x12 : Int) : Tree (Lf EE.T × Option Int) :=
 .cond (decide (x12 < x11))
 (
  .bnd (cx x10 x12) fun z2 =>
  .leaf (.go (wf c) (wC (IntKind.wrap .u64 ((bits .xor .u64 x0 (IntKind.wrap .u64 (b2i z2))) * 1099511628211)) x10 x11 (w64 (x12 + 1))), er N n (IntKind.wrap .u64 ((bits .xor .u64 x0 (IntKind.wrap .u64 (b2i z2))) * 1099511628211)) x10 x11 (w64 (x12 + 1))))
 (
  .leaf (.done (uV x0), some x0))
theorem OD (N : Nat) (n : Nat) (x0 : Int) (x10 : List UInt8) (x11 : Int) (x12 : Int) : evM TT EE (CY N) AI Bo 4000 true (wf (aa 0 Tryz.f90)) (wC x0 x10 x11 x12) = (y1 (aa 0 Tryz.f90) N n x0 x10 x11 x12).map1 := by kernel_rfl
theorem NR (N : Nat) (n : Nat) (x0 : Int) (x10 : List UInt8) (x11 : Int) (x12 : Int) : er N (n + 1) x0 x10 x11 x12 = (y1 (aa 0 Tryz.f90) N n x0 x10 x11 x12).run := by kernel_rfl
theorem EY {N : Nat} {r : Int} : ∀ (n : Nat) (x0 : Int) (x10 : List UInt8) (x11 : Int) (x12 : Int), er N n x0 x10 x11 x12 = some r → bP (Y := TT) EE (CY N) AI Bo (fun u => u = uV r) (wf (aa 0 Tryz.f90)) (wC x0 x10 x11 x12)
 | 0, _, _, _, _, h => by cases h
 | n + 1, x0, x10, x11, x12, h => ay (OD N n x0 x10 x11 x12) (NR N n x0 x10 x11 x12) h (show (y1 (aa 0 Tryz.f90) N n x0 x10 x11 x12).all _ from ⟨fun _ => fun h => (EY n) _ _ _ _ h, bx (enc := uV) rfl⟩)
def zW (c : Code) (N : Nat) (x0 : Int) (x1 : List UInt8) : Tree (Lf EE.T × Option Int) :=
 .bnd (jY 1 x1 ([255] : List UInt8)) fun z1 =>
 .leaf (.go (wf c) (wC x0 z1 (z1.length : Int) 0), er N N x0 z1 (z1.length : Int) 0)
theorem Nz (N : Nat) (x0 : Int) (x1 : List UInt8) : evM TT EE (CY N) AI Bo 4000 true (Ew (aa 0 Tryz.f90)) (Eo x0 x1) = (zW (aa 0 Tryz.f90) N x0 x1).map1 := by kernel_rfl
theorem LM (N : Nat) (x0 : Int) (x1 : List UInt8) : eO N x0 x1 = (zW (aa 0 Tryz.f90) N x0 x1).run := by kernel_rfl
theorem Nv {N : Nat} {r : Int} (x0 : Int) (x1 : List UInt8) (h : eO N x0 x1 = some r) : bP (Y := TT) EE (CY N) AI Bo (fun u => u = uV r) (Ew (aa 0 Tryz.f90)) (Eo x0 x1) :=
 ay (Nz N x0 x1) (LM N x0 x1) h (show (zW (aa 0 Tryz.f90) N x0 x1).all _ from fun _ => fun h => EY N _ _ _ _ h)
theorem tN {N : Nat} (x0 : Int) (x1 : List UInt8) {r : Int} (h : eO N x0 x1 = some r) (ρ : Rn) : ak Tryz.prog 90 (([.a (.d (.int .u64) x0), .a (.d .str x1)] : List (TV EE.T)).map (TV.to EE.toEnc ρ)) [] (fun out H => out = .ret ((kQ r).to EE.toEnc ρ) ∧ H = []) :=
 (fk (aa 0 Tryz.f90) 23 mixed (OS N) Tryz.func90 (by kernel_rfl) rfl rfl rfl rfl (Nv x0 x1 h) ρ).mono fun out H h => bO.ret rfl h
def kp (N : Nat) : List (TV EE.T) → PV EE.T
 | [u0, u1] => match fj (.int .u64) u0, fj .str u1 with
   | some x0, some x1 => .opt (eO N x0 x1) kQ
   | _, _ => .bad
 | _ => .bad
theorem ru (N : Nat) (us : List (TV EE.T)) : (kp N us).ok fun u => ∀ ρ, ak Tryz.prog 90 (us.map (TV.to EE.toEnc ρ)) [] (fun out H => out = .ret (u.to EE.toEnc ρ) ∧ H = []) := by
 unfold kp
 split
 ·split
  ·rename_i h0 h1
   intro z hz ρ; refine br ?_ (tN _ _ hz ρ); exact ⟨bm h0 ρ, bm h1 ρ, trivial⟩
  ·trivial
 ·trivial
def ip (r : Int) : TV EE.T := .a (.d (.int .u64) r)
def vm (r : Int) : RL EE.T := .ret (ip r) []
def AW : Lvs := ⟨[(5, ⟨[(3, false), (5, false), (6, false), (7, false), (8, false)], [], [(5, (some 2, []))], []⟩)], [(3, ⟨[(3, false), (6, false), (7, false), (8, false)], [], [], []⟩)], [], [], false, [], [], [], []⟩
def AE : List ResultVar := [.tmp 2]
def Fe (N : Nat) : Gam EE := ⟨[⟨90, kp N⟩], EQT, [], []⟩
theorem NH (N : Nat) : GOk Tryz.prog TT EE (Fe N) := GOk.cons (ru N) (GOk.nil cn)
def vI (c : Code) : List It2 := atL 3 c
def ve (x3 : Int) (x6 : List VLabel) (x7 : Int) (x8 : Int) : TS EE.T := ⟨21, [(3, .a (.d (.int .u64) x3)), (6, .a (.d (.sl (.nam 2)) x6)), (7, .a (.d (.int .i64) x7)), (8, .a (.d (.int .i64) x8))], [], []⟩
def EM (c : Code) : List It2 := [.c c]
def EC (x0 : List VLabel) : TS EE.T := ⟨21, [(0, .a (.d (.sl (.nam 2)) x0))], [], []⟩
def yP (c : Code) (N : Nat) (n : Nat) (x3 : Int) (x6 : List VLabel) (x7 : Int) (x8 : Int) : Tree (Lf EE.T × Option Int) :=
 .cond (decide (x8 < x7))
 (
  .bnd (cx x6 x8) fun z1 =>
  .bnd (eO N x3 z1.Name) fun z2 =>
  .bnd (eO N z2 z1.Value) fun z3 =>
  .leaf (.go (vI c) (ve z3 x6 x7 (w64 (x8 + 1))), dn N n z3 x6 x7 (w64 (x8 + 1))))
 (
  .leaf (.done (vm x3), some x3))
theorem Ow (N : Nat) (n : Nat) (x3 : Int) (x6 : List VLabel) (x7 : Int) (x8 : Int) : evM TT EE (Fe N) AW AE 4000 true (vI (aa 0 Tryz.f53)) (ve x3 x6 x7 x8) = (yP (aa 0 Tryz.f53) N n x3 x6 x7 x8).map1 := by kernel_rfl
theorem Nf (N : Nat) (n : Nat) (x3 : Int) (x6 : List VLabel) (x7 : Int) (x8 : Int) : dn N (n + 1) x3 x6 x7 x8 = (yP (aa 0 Tryz.f53) N n x3 x6 x7 x8).run := by kernel_rfl
theorem C7 {N : Nat} {r : Int} : ∀ (n : Nat) (x3 : Int) (x6 : List VLabel) (x7 : Int) (x8 : Int), dn N n x3 x6 x7 x8 = some r → bP (Y := TT) EE (Fe N) AW AE (fun u => u = vm r) (vI (aa 0 Tryz.f53)) (ve x3 x6 x7 x8)
 | 0, _, _, _, _, h => by cases h
 | n + 1, x3, x6, x7, x8, h => ay (Ow N n x3 x6 x7 x8) (Nf N n x3 x6 x7 x8) h (show (yP (aa 0 Tryz.f53) N n x3 x6 x7 x8).all _ from ⟨fun _ => fun _ => fun _ => fun h => (C7 n) _ _ _ _ h, bx (enc := vm) rfl⟩)
def zk (c : Code) (N : Nat) (x0 : List VLabel) : Tree (Lf EE.T × Option Int) :=
 .leaf (.go (vI c) (ve 14695981039346656037 x0 (x0.length : Int) 0), dn N N 14695981039346656037 x0 (x0.length : Int) 0)
theorem Ok (N : Nat) (x0 : List VLabel) : evM TT EE (Fe N) AW AE 4000 true (EM (aa 0 Tryz.f53)) (EC x0) = (zk (aa 0 Tryz.f53) N x0).map1 := by kernel_rfl
theorem LX (N : Nat) (x0 : List VLabel) : ey N x0 = (zk (aa 0 Tryz.f53) N x0).run := by kernel_rfl
theorem Nd {N : Nat} {r : Int} (x0 : List VLabel) (h : ey N x0 = some r) : bP (Y := TT) EE (Fe N) AW AE (fun u => u = vm r) (EM (aa 0 Tryz.f53)) (EC x0) :=
 ay (Ok N x0) (LX N x0) h (show (zk (aa 0 Tryz.f53) N x0).all _ from fun h => C7 N _ _ _ _ h)
theorem pL {N : Nat} (x0 : List VLabel) {r : Int} (h : ey N x0 = some r) (ρ : Rn) : ak Tryz.prog 53 (([.a (.d (.sl (.nam 2)) x0)] : List (TV EE.T)).map (TV.to EE.toEnc ρ)) [] (fun out H => out = .ret ((ip r).to EE.toEnc ρ) ∧ H = []) :=
 (fk (aa 0 Tryz.f53) 21 mixed (NH N) Tryz.func53 (by kernel_rfl) rfl rfl rfl rfl (Nd x0 h) ρ).mono fun out H h => bO.ret rfl h
def ig (N : Nat) : List (TV EE.T) → PV EE.T
 | [u0] => match fj (.sl (.nam 2)) u0 with
   | some x0 => .opt (ey N x0) ip
   | _ => .bad
 | _ => .bad
theorem oM (N : Nat) (us : List (TV EE.T)) : (ig N us).ok fun u => ∀ ρ, ak Tryz.prog 53 (us.map (TV.to EE.toEnc ρ)) [] (fun out H => out = .ret (u.to EE.toEnc ρ) ∧ H = []) := by
 unfold ig
 split
 ·split
  ·rename_i h0
   intro z hz ρ; refine br ?_ (pL _ hz ρ); exact ⟨bm h0 ρ, trivial⟩
  ·trivial
 ·trivial
def kh (r : Int × Int) : TV EE.T := .tu [.a (.d (.int .u64) r.1), .a (.d (.int .i64) r.2)]
def rW (r : Int × Int) : RL EE.T := .ret (kh r) []
def KB : Lvs := ⟨[], [], [], [], false, [], [], [], []⟩
def KK : List ResultVar := [.tmp 2, .tmp 3]
def Li (N : Nat) : Gam EE := ⟨[⟨53, ig N⟩, ⟨48, i9 N⟩], EQT, [], []⟩
theorem K4 (N : Nat) : GOk Tryz.prog TT EE (Li N) := GOk.cons (oM N) (GOk.cons (pY N) (GOk.nil cn))
def Di (c : Code) : List It2 := [.c c]
def DE (x0 : List VLabel) : TS EE.T := ⟨13, [(0, .a (.d (.sl (.nam 2)) x0))], [], []⟩
def zN (c : Code) (N : Nat) (x0 : List VLabel) : Tree (Lf EE.T × Option (Int × Int)) :=
 .bnd (eX N ([x0] : List (List VLabel))) fun z1 =>
 .cond (z1 != 0)
 (
  .leaf (.done (rW (0, z1)), some (0, z1)))
 (
  .bnd (ey N x0) fun z2 =>
  .leaf (.done (rW (z2, 0)), some (z2, 0)))
theorem MI (N : Nat) (x0 : List VLabel) : evM TT EE (Li N) KB KK 4000 true (Di (aa 0 Tryz.f23)) (DE x0) = (zN (aa 0 Tryz.f23) N x0).map1 := by kernel_rfl
theorem NG (N : Nat) (x0 : List VLabel) : gM N x0 = (zN (aa 0 Tryz.f23) N x0).run := by kernel_rfl
theorem MY {N : Nat} {r : Int × Int} (x0 : List VLabel) (h : gM N x0 = some r) : bP (Y := TT) EE (Li N) KB KK (fun u => u = rW r) (Di (aa 0 Tryz.f23)) (DE x0) :=
 ay (MI N x0) (NG N x0) h (show (zN (aa 0 Tryz.f23) N x0).all _ from fun _ => ⟨bx (enc := rW) rfl, fun _ => bx (enc := rW) rfl⟩)
theorem tJ {N : Nat} (x0 : List VLabel) {r : Int × Int} (h : gM N x0 = some r) (ρ : Rn) : ak Tryz.prog 23 (([.a (.d (.sl (.nam 2)) x0)] : List (TV EE.T)).map (TV.to EE.toEnc ρ)) [] (fun out H => out = .ret ((kh r).to EE.toEnc ρ) ∧ H = []) :=
 (fk (aa 0 Tryz.f23) 13 mixed (K4 N) Tryz.func23 (by kernel_rfl) rfl rfl rfl rfl (MY x0 h) ρ).mono fun out H h => bO.ret rfl h
def kE (N : Nat) : List (TV EE.T) → PV EE.T
 | [u0] => match fj (.sl (.nam 2)) u0 with
   | some x0 => .opt (gM N x0) kh
   | _ => .bad
 | _ => .bad
theorem sD (N : Nat) (us : List (TV EE.T)) : (kE N us).ok fun u => ∀ ρ, ak Tryz.prog 23 (us.map (TV.to EE.toEnc ρ)) [] (fun out H => out = .ret (u.to EE.toEnc ρ) ∧ H = []) := by
 unfold kE
 split
 ·split
  ·rename_i h0
   intro z hz ρ; refine br ?_ (tJ _ hz ρ); exact ⟨bm h0 ρ, trivial⟩
  ·trivial
 ·trivial
def gc (r : Bool) : TV EE.T := .a (.d .bool r)
def oR (r : Bool) : RL EE.T := .ret (gc r) []
def Pn : Lvs := ⟨[], [], [], [], false, [], [], [], []⟩
def Ps : List ResultVar := [.tmp 0]
def w8G (N : Nat) : Gam EE := ⟨[⟨23, kE N⟩, ⟨22, jn N⟩], EQT, [], []⟩
theorem Pw (N : Nat) : GOk Tryz.prog TT EE (w8G N) := GOk.cons (sD N) (GOk.cons (qF N) (GOk.nil cn))
def Kl (c : Code) : List It2 := [.c c]
def KS : TS EE.T := ⟨30, [], [], []⟩
def Gd (c : Code) (N : Nat) : Tree (Lf EE.T × Option Bool) :=
 .bnd (jg N ([({ Name := ([95, 95, 110, 97, 109, 101, 95, 95] : List UInt8), Value := ([117, 112] : List UInt8) } : VLabel), ({ Name := ([106, 111, 98] : List UInt8), Value := ([120] : List UInt8) } : VLabel)] : List VLabel)) fun z1 =>
 .bnd (gM N ([] : List VLabel)) fun z2 =>
 .cond (z1.2 == 0)
 (
  .cond (decide (z1.1 = ([117, 112, 123, 106, 111, 98, 61, 34, 120, 34, 125] : List UInt8)))
  (
   .cond (z2.2 == 0)
   (
    .leaf (.done (oR (z2.1 == 14695981039346656037)), some (z2.1 == 14695981039346656037)))
   (
    .leaf (.done (oR false), some false)))
  (
   .leaf (.done (oR false), some false)))
 (
  .leaf (.done (oR false), some false))
theorem Pf (N : Nat) : evM TT EE (w8G N) Pn Ps 4000 true (Kl (aa 0 Tryz.f8)) (KS) = (Gd (aa 0 Tryz.f8) N).map1 := by kernel_rfl
theorem PD (N : Nat) : cz N = (Gd (aa 0 Tryz.f8) N).run := by kernel_rfl
theorem O5 {N : Nat} {r : Bool} (h : cz N = some r) : bP (Y := TT) EE (w8G N) Pn Ps (fun u => u = oR r) (Kl (aa 0 Tryz.f8)) (KS) :=
 ay (Pf N) (PD N) h (show (Gd (aa 0 Tryz.f8) N).all _ from fun _ => fun _ => ⟨⟨⟨bx (enc := oR) rfl, bx (enc := oR) rfl⟩, bx (enc := oR) rfl⟩, bx (enc := oR) rfl⟩)
theorem nI {N : Nat} {r : Bool} (h : cz N = some r) (ρ : Rn) : ak Tryz.prog 8 (([] : List (TV EE.T)).map (TV.to EE.toEnc ρ)) [] (fun out H => out = .ret ((gc r).to EE.toEnc ρ) ∧ H = []) :=
 (fk (aa 0 Tryz.f8) 30 mixed (Pw N) Tryz.func8 (by kernel_rfl) rfl rfl rfl rfl (O5 h) ρ).mono fun out H h => bO.ret rfl h
def fX (N : Nat) : List (TV EE.T) → PV EE.T
 | [] => .opt (cz N) gc
 | _ => .bad
theorem mG (N : Nat) (us : List (TV EE.T)) : (fX N us).ok fun u => ∀ ρ, ak Tryz.prog 8 (us.map (TV.to EE.toEnc ρ)) [] (fun out H => out = .ret (u.to EE.toEnc ρ) ∧ H = []) := by
 unfold fX
 split
 ·intro z hz ρ; exact nI hz ρ
 ·trivial
def gw (r : Bool) : TV EE.T := .a (.d .bool r)
def lW (r : Bool) : RL EE.T := .ret (gw r) []
def AB : Lvs := ⟨[(6, ⟨[(0, false), (1, false), (5, false)], [], [], []⟩)], [(4, ⟨[(0, false), (1, false), (5, false)], [], [], []⟩)], [], [], false, [], [], [], []⟩
def A9 : List ResultVar := [.tmp 4]
def Dw (N : Nat) : Gam EE := ⟨[], EQT, [], []⟩
theorem Lj (N : Nat) : GOk Tryz.prog TT EE (Dw N) := GOk.nil cn
def vF (c : Code) : List It2 := atL 4 c
def wB (x0 : List VLabel) (x1 : List VLabel) (x5 : Int) : TS EE.T := ⟨26, [(0, .a (.d (.sl (.nam 2)) x0)), (1, .a (.d (.sl (.nam 2)) x1)), (5, .a (.d (.int .i64) x5))], [], []⟩
def FH (c : Code) : List It2 := [.c c]
def D8 (x0 : List VLabel) (x1 : List VLabel) : TS EE.T := ⟨26, [(0, .a (.d (.sl (.nam 2)) x0)), (1, .a (.d (.sl (.nam 2)) x1))], [], []⟩
def yU (c : Code) (N : Nat) (n : Nat) (x0 : List VLabel) (x1 : List VLabel) (x5 : Int) : Tree (Lf EE.T × Option Bool) :=
 .cond (decide (x5 < (x0.length : Int)))
 (
  .bnd (cx x0 x5) fun z1 =>
  .bnd (cx x1 x5) fun z2 =>
  .cond (!(uU z1.Name z2.Name && (uU z1.Value z2.Value && true)))
  (
   .leaf (.done (lW false), some false))
  (
   .leaf (.go (vF c) (wB x0 x1 (w64 (x5 + 1))), bE N n x0 x1 (w64 (x5 + 1)))))
 (
  .leaf (.done (lW true), some true))
theorem Oa (N : Nat) (n : Nat) (x0 : List VLabel) (x1 : List VLabel) (x5 : Int) : evM TT EE (Dw N) AB A9 4000 true (vF (aa 0 Tryz.f24)) (wB x0 x1 x5) = (yU (aa 0 Tryz.f24) N n x0 x1 x5).map1 := by kernel_rfl
theorem Ni (N : Nat) (n : Nat) (x0 : List VLabel) (x1 : List VLabel) (x5 : Int) : bE N (n + 1) x0 x1 x5 = (yU (aa 0 Tryz.f24) N n x0 x1 x5).run := by kernel_rfl
theorem DA {N : Nat} {r : Bool} : ∀ (n : Nat) (x0 : List VLabel) (x1 : List VLabel) (x5 : Int), bE N n x0 x1 x5 = some r → bP (Y := TT) EE (Dw N) AB A9 (fun u => u = lW r) (vF (aa 0 Tryz.f24)) (wB x0 x1 x5)
 | 0, _, _, _, h => by cases h
 | n + 1, x0, x1, x5, h => ay (Oa N n x0 x1 x5) (Ni N n x0 x1 x5) h (show (yU (aa 0 Tryz.f24) N n x0 x1 x5).all _ from ⟨fun _ => fun _ => ⟨bx (enc := lW) rfl, fun h => (DA n) _ _ _ h⟩, bx (enc := lW) rfl⟩)
def y8 (c : Code) (N : Nat) (x0 : List VLabel) (x1 : List VLabel) : Tree (Lf EE.T × Option Bool) :=
 .cond ((x0.length : Int) != (x1.length : Int))
 (
  .leaf (.done (lW false), some false))
 (
  .leaf (.go (vF c) (wB x0 x1 0), bE N N x0 x1 0))
theorem KW (N : Nat) (x0 : List VLabel) (x1 : List VLabel) : evM TT EE (Dw N) AB A9 4000 true (FH (aa 0 Tryz.f24)) (D8 x0 x1) = (y8 (aa 0 Tryz.f24) N x0 x1).map1 := by kernel_rfl
theorem Nx (N : Nat) (x0 : List VLabel) (x1 : List VLabel) : cQ N x0 x1 = (y8 (aa 0 Tryz.f24) N x0 x1).run := by kernel_rfl
theorem Ms {N : Nat} {r : Bool} (x0 : List VLabel) (x1 : List VLabel) (h : cQ N x0 x1 = some r) : bP (Y := TT) EE (Dw N) AB A9 (fun u => u = lW r) (FH (aa 0 Tryz.f24)) (D8 x0 x1) :=
 ay (KW N x0 x1) (Nx N x0 x1) h (show (y8 (aa 0 Tryz.f24) N x0 x1).all _ from ⟨bx (enc := lW) rfl, fun h => DA N _ _ _ h⟩)
theorem oQ {N : Nat} (x0 : List VLabel) (x1 : List VLabel) {r : Bool} (h : cQ N x0 x1 = some r) (ρ : Rn) : ak Tryz.prog 24 (([.a (.d (.sl (.nam 2)) x0), .a (.d (.sl (.nam 2)) x1)] : List (TV EE.T)).map (TV.to EE.toEnc ρ)) [] (fun out H => out = .ret ((gw r).to EE.toEnc ρ) ∧ H = []) :=
 (fk (aa 0 Tryz.f24) 26 mixed (Lj N) Tryz.func24 (by kernel_rfl) rfl rfl rfl rfl (Ms x0 x1 h) ρ).mono fun out H h => bO.ret rfl h
def gz (N : Nat) : List (TV EE.T) → PV EE.T
 | [u0, u1] => match fj (.sl (.nam 2)) u0, fj (.sl (.nam 2)) u1 with
   | some x0, some x1 => .opt (cQ N x0 x1) gw
   | _, _ => .bad
 | _ => .bad
theorem np (N : Nat) (us : List (TV EE.T)) : (gz N us).ok fun u => ∀ ρ, ak Tryz.prog 24 (us.map (TV.to EE.toEnc ρ)) [] (fun out H => out = .ret (u.to EE.toEnc ρ) ∧ H = []) := by
 unfold gz
 split
 ·split
  ·rename_i h0 h1
   intro z hz ρ; refine br ?_ (oQ _ _ hz ρ); exact ⟨bm h0 ρ, bm h1 ρ, trivial⟩
  ·trivial
 ·trivial
def g9 (r : Bool) : TV EE.T := .a (.d .bool r)
def uG (r : Bool) : RL EE.T := .ret (g9 r) []
def IE : Lvs := ⟨[(3, ⟨[(0, false), (1, false), (2, false), (3, true)], [], [], []⟩)], [], [3], [], false, [], [], [], []⟩
def Ih : List ResultVar := [.tmp 8]
def w9G (N : Nat) : Gam EE := ⟨[⟨24, gz N⟩], EQT, [], []⟩
theorem Po (N : Nat) : GOk Tryz.prog TT EE (w9G N) := GOk.cons (np N) (GOk.nil cn)
def Be (c : Code) : List It2 := atR 3 c
def Bh (x0 : List VLabel) (x1 : Int) (x2 : Int) (x3 : List VLabel) : TS EE.T := ⟨19, [(0, .a (.d (.sl (.nam 2)) x0)), (1, .a (.d (.int .i64) x1)), (2, .a (.d (.int .i64) x2)), (3, .a (.d (.sl (.nam 2)) x3))], [], []⟩
def KC (c : Code) : List It2 := [.c c]
def J1 (x0 : List VLabel) (x1 : Int) (x2 : Int) (x3 : List VLabel) : TS EE.T := ⟨19, [(0, .a (.d (.sl (.nam 2)) x0)), (1, .a (.d (.int .i64) x1)), (2, .a (.d (.int .i64) x2)), (3, .a (.d (.sl (.nam 2)) x3))], [], []⟩
def Fn (c : Code) (N : Nat) (n : Nat) (x0 : List VLabel) (x1 : Int) (x2 : Int) (x3 : List VLabel) : Tree (Lf EE.T × Option Bool) :=
 .cond (x1 == x2)
 (
  .bnd (cQ N x0 x3) fun z1 =>
  .leaf (.done (uG z1), some z1))
 (
  .leaf (.done (uG false), some false))
theorem Qd (N : Nat) (n : Nat) (x0 : List VLabel) (x1 : Int) (x2 : Int) (x3 : List VLabel) : evM TT EE (w9G N) IE Ih 4000 true (Be (aa 0 Tryz.f9)) (Bh x0 x1 x2 x3) = (Fn (aa 0 Tryz.f9) N n x0 x1 x2 x3).map1 := by kernel_rfl
theorem PQ (N : Nat) (n : Nat) (x0 : List VLabel) (x1 : Int) (x2 : Int) (x3 : List VLabel) : cj N n x0 x1 x2 x3 = (Fn (aa 0 Tryz.f9) N n x0 x1 x2 x3).run := by kernel_rfl
theorem w9oR3 {N : Nat} {r : Bool} (n : Nat) (x0 : List VLabel) (x1 : Int) (x2 : Int) (x3 : List VLabel) (h : cj N n x0 x1 x2 x3 = some r) : bP (Y := TT) EE (w9G N) IE Ih (fun u => u = uG r) (Be (aa 0 Tryz.f9)) (Bh x0 x1 x2 x3) :=
 ay (Qd N n x0 x1 x2 x3) (PQ N n x0 x1 x2 x3) h (show (Fn (aa 0 Tryz.f9) N n x0 x1 x2 x3).all _ from ⟨fun _ => bx (enc := uG) rfl, bx (enc := uG) rfl⟩)
def Fi (c : Code) (N : Nat) (x0 : List VLabel) (x1 : Int) (x2 : Int) (x3 : List VLabel) : Tree (Lf EE.T × Option Bool) :=
 .cond (x2 != 0)
 (
  .leaf (.go (Be c) (Bh x0 x1 x2 ([] : List VLabel)), cj N N x0 x1 x2 ([] : List VLabel)))
 (
  .leaf (.go (Be c) (Bh x0 x1 x2 x3), cj N N x0 x1 x2 x3))
theorem Pt (N : Nat) (x0 : List VLabel) (x1 : Int) (x2 : Int) (x3 : List VLabel) : evM TT EE (w9G N) IE Ih 4000 true (KC (aa 0 Tryz.f9)) (J1 x0 x1 x2 x3) = (Fi (aa 0 Tryz.f9) N x0 x1 x2 x3).map1 := by kernel_rfl
theorem PO (N : Nat) (x0 : List VLabel) (x1 : Int) (x2 : Int) (x3 : List VLabel) : di N x0 x1 x2 x3 = (Fi (aa 0 Tryz.f9) N x0 x1 x2 x3).run := by kernel_rfl
theorem Pu {N : Nat} {r : Bool} (x0 : List VLabel) (x1 : Int) (x2 : Int) (x3 : List VLabel) (h : di N x0 x1 x2 x3 = some r) : bP (Y := TT) EE (w9G N) IE Ih (fun u => u = uG r) (KC (aa 0 Tryz.f9)) (J1 x0 x1 x2 x3) :=
 ay (Pt N x0 x1 x2 x3) (PO N x0 x1 x2 x3) h (show (Fi (aa 0 Tryz.f9) N x0 x1 x2 x3).all _ from ⟨fun h => w9oR3 N _ _ _ _ h, fun h => w9oR3 N _ _ _ _ h⟩)
theorem pm {N : Nat} (x0 : List VLabel) (x1 : Int) (x2 : Int) (x3 : List VLabel) {r : Bool} (h : di N x0 x1 x2 x3 = some r) (ρ : Rn) : ak Tryz.prog 9 (([.a (.d (.sl (.nam 2)) x0), .a (.d (.int .i64) x1), .a (.d (.int .i64) x2), .a (.d (.sl (.nam 2)) x3)] : List (TV EE.T)).map (TV.to EE.toEnc ρ)) [] (fun out H => out = .ret ((g9 r).to EE.toEnc ρ) ∧ H = []) :=
 (fk (aa 0 Tryz.f9) 19 mixed (Po N) Tryz.func9 (by kernel_rfl) rfl rfl rfl rfl (Pu x0 x1 x2 x3 h) ρ).mono fun out H h => bO.ret rfl h
def hU (N : Nat) : List (TV EE.T) → PV EE.T
 | [u0, u1, u2, u3] => match fj (.sl (.nam 2)) u0, fj (.int .i64) u1, fj (.int .i64) u2, fj (.sl (.nam 2)) u3 with
   | some x0, some x1, some x2, some x3 => .opt (di N x0 x1 x2 x3) g9
   | _, _, _, _ => .bad
 | _ => .bad
theorem nQ (N : Nat) (us : List (TV EE.T)) : (hU N us).ok fun u => ∀ ρ, ak Tryz.prog 9 (us.map (TV.to EE.toEnc ρ)) [] (fun out H => out = .ret (u.to EE.toEnc ρ) ∧ H = []) := by
 unfold hU
 split
 ·split
  ·rename_i h0 h1 h2 h3
   intro z hz ρ; refine br ?_ (pm _ _ _ _ hz ρ); exact ⟨bm h0 ρ, bm h1 ρ, bm h2 ρ, bm h3 ρ, trivial⟩
  ·trivial
 ·trivial
def ji (r : Bool) : TV EE.T := .a (.d .bool r)
def PC (r : Bool) : List (Nat × TB EE.T) := []
def sE (r : PR Bool) : RL EE.T := match r with
 | .ok z => .ret (ji z) (PC z)
 | .pan v => .pan v
def GK : Lvs := ⟨[(6, ⟨[(3, false), (4, false), (5, false), (6, true)], [], [], []⟩)], [], [6], [], false, [], [], [], []⟩
def JA : List ResultVar := [.tmp 2]
def w3G (N : Nat) : Gam EE := ⟨[⟨9, hU N⟩, ⟨8, fX N⟩, ⟨6, ij N⟩, ⟨7, gH N⟩], EQT, [⟨5, mL N⟩], []⟩
theorem P3 (N : Nat) : GOk Tryz.prog TT EE (w3G N) := GOk.cons (nQ N) (GOk.cons (mG N) (GOk.cons (oh N) (GOk.cons (nr N) (GOk.consx (qz N) (GOk.nil cn)))))
def AG (c : Code) : List It2 := atR 6 c
def A1 (x3 : List VLabel) (x4 : Int) (x5 : Int) (x6 : List VLabel) : TS EE.T := ⟨26, [(3, .a (.d (.sl (.nam 2)) x3)), (4, .a (.d (.int .i64) x4)), (5, .a (.d (.int .i64) x5)), (6, .a (.d (.sl (.nam 2)) x6))], [], []⟩
def KO (c : Code) : List It2 := [.c c]
def Kn (x0 : List VLabel) : TS EE.T := ⟨26, [(0, .a (.d (.sl (.nam 2)) x0))], [], []⟩
def DW (c : Code) (N : Nat) (n : Nat) (x3 : List VLabel) (x4 : Int) (x5 : Int) (x6 : List VLabel) : Tree (Lf EE.T × Option (PR Bool)) :=
 .bnd (cz N) fun z5 =>
 .cond (z5)
 (
  .bnd (di N x3 x4 x5 x6) fun z6 =>
  .leaf (.done (sE (.ok z6)), some (.ok z6)))
 (
  .leaf (.done (sE (.ok false)), some (.ok false)))
theorem O4 (N : Nat) (n : Nat) (x3 : List VLabel) (x4 : Int) (x5 : Int) (x6 : List VLabel) : evM TT EE (w3G N) GK JA 4000 true (AG (aa 0 Tryz.f3)) (A1 x3 x4 x5 x6) = (DW (aa 0 Tryz.f3) N n x3 x4 x5 x6).map1 := by kernel_rfl
theorem PP (N : Nat) (n : Nat) (x3 : List VLabel) (x4 : Int) (x5 : Int) (x6 : List VLabel) : bH N n x3 x4 x5 x6 = (DW (aa 0 Tryz.f3) N n x3 x4 x5 x6).run := by kernel_rfl
theorem w3oR6 {N : Nat} {r : PR Bool} (n : Nat) (x3 : List VLabel) (x4 : Int) (x5 : Int) (x6 : List VLabel) (h : bH N n x3 x4 x5 x6 = some r) : bP (Y := TT) EE (w3G N) GK JA (fun u => u = sE r) (AG (aa 0 Tryz.f3)) (A1 x3 x4 x5 x6) :=
 ay (O4 N n x3 x4 x5 x6) (PP N n x3 x4 x5 x6) h (show (DW (aa 0 Tryz.f3) N n x3 x4 x5 x6).all _ from fun _ => ⟨fun _ => bx (enc := sE) rfl, bx (enc := sE) rfl⟩)
def DP (c : Code) (N : Nat) (x0 : List VLabel) : Tree (Lf EE.T × Option (PR Bool)) :=
 .bnd (dO N x0) fun z1 =>
 .sm z1 (fun z2 =>
  .bnd (cM N x0 true) fun z3 =>
  .cond (z3 == 0)
  (
   .bnd (b8 N x0) fun z4 =>
   .leaf (.go (AG c) (A1 z2.1 z2.2 z3 z4), bH N N z2.1 z2.2 z3 z4))
  (
   .leaf (.go (AG c) (A1 z2.1 z2.2 z3 ([] : List VLabel)), bH N N z2.1 z2.2 z3 ([] : List VLabel)))) (fun vz1 =>
  .leaf (.done (.pan vz1), some (.pan vz1)))
theorem P8 (N : Nat) (x0 : List VLabel) : evM TT EE (w3G N) GK JA 4000 true (KO (aa 0 Tryz.f3)) (Kn x0) = (DP (aa 0 Tryz.f3) N x0).map1 := by kernel_rfl
theorem PU (N : Nat) (x0 : List VLabel) : dC N x0 = (DP (aa 0 Tryz.f3) N x0).run := by kernel_rfl
theorem O1 {N : Nat} {r : PR Bool} (x0 : List VLabel) (h : dC N x0 = some r) : bP (Y := TT) EE (w3G N) GK JA (fun u => u = sE r) (KO (aa 0 Tryz.f3)) (Kn x0) :=
 ay (P8 N x0) (PU N x0) h (show (DP (aa 0 Tryz.f3) N x0).all _ from fun _ => ⟨fun _ => fun _ => ⟨fun _ => fun h => w3oR6 N _ _ _ _ h, fun h => w3oR6 N _ _ _ _ h⟩, fun _ => bx (enc := sE) rfl⟩)
def Qh (x0 : List VLabel) : List (TV EE.T) := [.a (.d (.sl (.nam 2)) x0)]
def PN (x0 : List VLabel) : List (Nat × TB EE.T) := []
theorem mZ {N : Nat} (x0 : List VLabel) {r : PR Bool} (h : dC N x0 = some r) (ρ : Rn) (hi : Inj ρ (PN x0)) : ak Tryz.prog 3 ((Qh x0).map (TV.to EE.toEnc ρ)) (hTo EE.toEnc ρ (PN x0)) (fun out H => match r with | .ok z => out = .ret ((ji z).to EE.toEnc ρ) ∧ H = hTo EE.toEnc ρ (PC z) | .pan v => out = .pan v) :=
 (jB (aa 0 Tryz.f3) 26 mixed (P3 N) Tryz.func3 (by kernel_rfl) rfl rfl rfl rfl (O1 x0 h) ρ hi).mono fun out H h => by cases r with | ok z => exact bO.retH rfl rfl h | pan v => exact bO.pan h
end Go.Proofs.YtmjpdbbjiipnfaaGreat
namespace Go.Proofs.YtmjpdbbjiipnfaaGreat
open Go.RowKit Go.Deep Go.ChangeShapes Go.WideShapes Go.ChangeAt P
set_option linter.unusedSimpArgs false
set_option linter.unusedVariables false
def xR (w : World) (us : List AV) (cs : List Value) : Prop := us.length = cs.length ∧ ∀ (i : Nat) u v, us[i]? = some u → cs[i]? = some v → Rel (pW w) u v
def jW (w : World) (us : List AV) (off : Nat) (cs : List Value) : Prop := ∀ (i : Nat) u v, us[i]? = some u → cs[off + i]? = some v → Rel (pW w) u v
theorem jW.of_piece {w : World} {us : List AV} {off k : Nat} {cs : List Value} (h : xR w us ((cs.drop off).take k)) : jW w us off cs := fun i u v hu hv => by
 refine h.2 i u v hu ?_
 have hi : i < ((cs.drop off).take k).length := by rw [← h.1]; exact (List.getElem?_eq_some_iff.1 hu).1
 have hk : i < k := by rw [List.length_take] at hi; omega
 rw [List.getElem?_take, if_pos hk, List.getElem?_drop]; exact hv
theorem jW.nil {w : World} {off : Nat} {cs : List Value} : jW w [] off cs := fun i u v hu => by simp at hu
theorem jW.cat {w : World} {us us' : List AV} {off off' : Nat} {cs : List Value} (h : jW w us off cs) (h' : jW w us' off' cs) (e : off' = off + us.length) : jW w (us ++ us') off cs := fun i u v hu hv => by
 by_cases hi : i < us.length
 ·rw [List.getElem?_append_left hi] at hu; exact h i u v hu hv
 ·rw [List.getElem?_append_right (by omega)] at hu
  exact h' (i - us.length) u v hu (by rw [e, show off + us.length + (i - us.length) = off + i by omega]; exact hv)
theorem jW.whole {w : World} {us : List AV} {cs : List Value} (h : jW w us 0 cs) (e : us.length = cs.length) : xR w us cs := ⟨e, fun i u v hu hv => h i u v hu (by simpa using hv)⟩
section
variable {H : Type} {enc : TypeId × Value → H} {Pr : Program} {w : World} {base : Nat} {spare : Nat → Bool} {held : Bool}
def sP {H : Type} (enc : TypeId × Value → H) (Pr : Program) (w : World) (base : Nat) (spare : Nat → Bool) (held : Bool) (t : TypeId) {α : Type} (ec : α → List AV) (Wf : α → Prop) : Prop :=
 ∀ (fuel : Nat) (cs : List Value) (x : DataW H × List MemPlace), DataW.trod enc Pr w base spare held fuel t cs = some x → (∀ n ∈ x.1.weights Pr t, n ≤ reachBytes) → ∃ z, Wf z ∧ xR w (ec z) cs
theorem uN {t : TypeId} (ht : Pr.underlying t = some .string) : sP enc Pr w base spare held t (fun s : List UInt8 => [.v (.string (mkB s))]) (fun s => s.length ≤ reachBytes) := by
 intro fuel cs x h hw
 obtain ⟨s, rfl, rfl, hs⟩ := DataW.trod_string ht h
 refine ⟨s.data.toList, hw _ (by simp [DataW.weights]), rfl, fun i u v hu hv => ?_⟩
 match i, hu, hv with
 | 0, hu, hv => simp at hu hv; subst hu hv; exact .v _
 | i + 1, hu, hv => simp at hu
theorem kZ {e : TypeId} : ∀ {l : List (DataW H)} {d : DataW H}, d ∈ l → ∀ n ∈ d.weights Pr e, n ∈ DataW.weightsAll Pr e l
 | [], _, h, _, _ => by cases h
 | x :: l, d, h, n, hn => by
   simp only [DataW.weightsAll, List.mem_append]
   rcases List.mem_cons.1 h with rfl | h
   ·exact .inl hn
   ·exact .inr (kZ h n hn)
theorem jF {t : TypeId} : ∀ {ts : List TypeId} {l : List (DataW H)} {j : Nat} {d : DataW H}, ts[j]? = some t → l[j]? = some d → ∀ n ∈ d.weights Pr t, n ∈ DataW.weightsEach Pr ts l
 | [], _, _, _, h, _, _, _ => by simp at h
 | _ :: _, [], _, _, _, h, _, _ => by simp at h
 | t0 :: ts, d0 :: l, 0, d, h1, h2, n, hn => by
   simp at h1 h2; subst h1 h2
   simp only [DataW.weightsEach, List.mem_append]; exact .inl hn
 | t0 :: ts, d0 :: l, j + 1, d, h1, h2, n, hn => by
   simp only [DataW.weightsEach, List.mem_append]
   exact .inr (jF (j := j) (by simpa using h1) (by simpa using h2) n hn)
theorem CV {a : Addr} {n : Nat} {cs : List Value} (h : w.cells? base a n = some cs) : cs.length = n ∧ ∀ j, j < n → w.cell? (a.add j) = cs[j]? := by
 unfold World.cells? at h
 split at h
 ·refine ⟨by simpa using mapM_some_length h, fun j hj => ?_⟩
  exact mapM_some_get h j j (by simp [hj])
 ·cases h
theorem wN {t e : TypeId} {α : Type} {ec : α → List AV} {Wf : α → Prop} {sz : Nat} (ht : Pr.underlying t = some (.slice e)) (hc : Pr.cellsOf e = sz) (h1 : 1 ≤ sz) (hb : 1 ≤ Pr.bytesOf e) (hlen : ∀ z, (ec z).length = sz) (ho : sP enc Pr w base spare held e ec Wf) :
  sP enc Pr w base spare held t (fun l : List α => [.sl false sz (l.map ec)]) (fun l => l.length ≤ reachBytes ∧ ∀ z ∈ l, Wf z) := by
 intro fuel cs x h hw
 have one : ∀ (l : List α) (v : Value), Rel (pW w) (.sl false sz (l.map ec)) v → xR w [.sl false sz (l.map ec)] [v] := fun l v hr => ⟨rfl, fun i u v' hu hv => by
  match i, hu, hv with
  | 0, hu, hv => simp at hu hv; subst hu hv; exact hr
  | i + 1, hu, hv => simp at hu⟩
 rcases open_slice ht h with ⟨rfl, rfl⟩ | ⟨a, len, cap, m, n, D, Pl, rfl, hba, hl, hm, hmm, rfl, hel⟩
 ·exact ⟨[], ⟨Nat.zero_le _, fun z hz => by cases hz⟩, one [] _ (.nl _ _ _ _)⟩
 ·have hlm : len ≤ m := by rw [hmm]; split <;> omega
  have hlr : len ≤ reachBytes := by
   have := hw ((((List.range len).map D).length + ((List.range (m - len)).map fun j => D (len + j)).length) * Pr.bytesOf e) (by simp only [DataW.weights, ht]; exact List.mem_cons_self ..)
   simp only [List.length_map, List.length_range] at this
   have h2 : (len + (m - len)) * 1 ≤ (len + (m - len)) * Pr.bytesOf e := Nat.mul_le_mul_left _ hb
   omega
  have hwt : ∀ i, i < len → ∀ k ∈ (D i).weights Pr e, k ≤ reachBytes := fun i hi k hk => by
   refine hw k ?_
   simp only [DataW.weights, ht]
   refine List.mem_cons_of_mem _ (List.mem_append.2 (.inl ?_))
   exact kZ (List.mem_map.2 ⟨i, List.mem_range.2 hi, rfl⟩) k hk
  rcases Nat.eq_zero_or_pos len with h0 | hpos
  ·subst h0
   exact ⟨[], ⟨Nat.zero_le _, fun z hz => by cases hz⟩, one [] _ (.nl _ _ _ _)⟩
  have each : ∀ i, i < len → ∃ y : α × List Value, Wf y.1 ∧ xR w (ec y.1) y.2 ∧ y.2.length = sz ∧ ∀ j, j < sz → w.cell? ((a.add (i * sz)).add j) = y.2[j]? := fun i hi => by
   obtain ⟨cs', h2, h3⟩ := hel i (by omega)
   rw [hc] at h2
   obtain ⟨z, hz, hr⟩ := ho _ _ _ h3 (hwt i hi)
   obtain ⟨k1, k2⟩ := CV h2
   exact ⟨(z, cs'), hz, hr, k1, k2⟩
  obtain ⟨y0, _⟩ := each 0 hpos
  haveI : Inhabited (α × List Value) := ⟨y0⟩
  obtain ⟨f, hf⟩ := choose_lt each
  have hspot : a.spot = none := by
   obtain ⟨_, _, k1, k2⟩ := hf 0 hpos
   have := k2 0 (by omega)
   rw [List.getElem?_eq_getElem (by omega)] at this
   obtain ⟨b, off, spot⟩ := a
   simpa [Addr.add] using World.cell?_spot this
  obtain ⟨b, off, spot⟩ := a
  simp only at hspot
  subst hspot
  have hcell : ∀ i, i < len → ∀ j, j < sz → w.cell? ⟨b, off + i * sz + j, none⟩ = (f i).2[j]? := fun i hi j hj => by
   have := (hf i hi).2.2.2 j hj
   rw [cB, cB] at this
   exact this
  have hblk : ∃ cs e' fr, w.heap[b]? = some (.cells cs e' fr) ∧ off + (len - 1) * sz + (sz - 1) < cs.size := by
   have c2 := hcell (len - 1) (by omega) (sz - 1) (by omega)
   rw [List.getElem?_eq_getElem (by have := (hf (len - 1) (by omega)).2.2.1; omega)] at c2
   unfold World.cell? at c2
   split at c2
   ·rename_i cs e' fr hb'
    exact ⟨cs, e', fr, hb', (Array.getElem?_eq_some_iff.1 c2).1⟩
   all_goals cases c2
  obtain ⟨cs, e', fr, hb', hsz⟩ := hblk
  have hg : (pW w).g b = some cs.size := by simp only [pW, hb']
  have hsum : (len - 1) * sz + sz = len * sz := by rw [← Nat.succ_mul]; congr 1; omega
  refine ⟨(List.range len).map fun i => (f i).1, ⟨by simpa using hlr, fun z hz => ?_⟩, one _ _ ?_⟩
  ·obtain ⟨i, hi, rfl⟩ := List.mem_map.1 hz
   exact (hf i (List.mem_range.1 hi)).1
  ·have hL : (((List.range len).map fun i => (f i).1).map ec).length = len := by simp
   have hrow : ∀ (i : Nat) r, (((List.range len).map fun i => (f i).1).map ec)[i]? = some r → i < len ∧ r = ec (f i).1 := fun i r hr => by
    have hi : i < len := by have := (List.getElem?_eq_some_iff.1 hr).1; simpa using this
    refine ⟨hi, ?_⟩
    simp [hi] at hr
    exact hr.symm
   have := Rel.sl (X := pW w) false sz (((List.range len).map fun i => (f i).1).map ec) b off cap cs.size (fun i j => ((f i).2[j]?).getD undef) hg (by rw [hL]; omega) (by rw [hL]; exact hl) (fun i r hr => by rw [(hrow i r hr).2]; exact hlen _) (fun i j r u hr hu => by
    obtain ⟨hi, rfl⟩ := hrow i r hr
    have hj : j < sz := by have := (List.getElem?_eq_some_iff.1 hu).1; rw [hlen] at this; exact this
    have hjl : j < (f i).2.length := by rw [(hf i hi).2.2.1]; exact hj
    show w.cell? _ = _
    rw [hcell i hi j hj, List.getElem?_eq_getElem hjl]; rfl) (fun i j r u hr hu => by
    obtain ⟨hi, rfl⟩ := hrow i r hr
    have hj : j < sz := by have := (List.getElem?_eq_some_iff.1 hu).1; rw [hlen] at this; exact this
    have hjl : j < (f i).2.length := by rw [(hf i hi).2.2.1]; exact hj
    refine (hf i hi).2.1.2 j u _ hu ?_
    rw [List.getElem?_eq_getElem hjl]; rfl)
   rw [hL] at this
   exact this
theorem Kj {t : TypeId} {fs : Array Field} {xs : List (DataW H × List MemPlace)} {n : Nat} {cs : List Value} {α : Type} {ec : α → List AV} {Wf : α → Prop} (ht : Pr.underlying t = some (.struct fs)) (hlen : xs.length = fs.size)
  (hf : ∀ (i : Nat) (f : Field), fs[i]? = some f → DataW.trod enc Pr w base spare held n f.type ((cs.drop f.offset).take (Pr.cellsOf f.type)) = xs[i]?) (hw : ∀ n ∈ (DataW.agg (xs.map (·.1))).weights Pr t, n ≤ reachBytes)
  (i : Nat) (f : Field) (hi : fs[i]? = some f) (ho : sP enc Pr w base spare held f.type ec Wf) : ∃ z, Wf z ∧ jW w (ec z) f.offset cs := by
 have h1 := hf i f hi
 have hil : i < xs.length := by rw [hlen]; exact (Array.getElem?_eq_some_iff.1 hi).1
 rw [List.getElem?_eq_getElem hil] at h1
 obtain ⟨z, hz, hr⟩ := ho _ _ _ h1 fun k hk => hw k (by
  simp only [DataW.weights, ht]
  exact jF (j := i) (t := f.type) (by
   have hi' : fs.toList[i]? = some f := by simpa using hi
   simp [hi']) (by simp [List.getElem?_eq_getElem hil]) k hk)
 exact ⟨z, hz, .of_piece hr⟩
theorem L3 {r : Reach} {b0 : Nat} {t e : TypeId} {v : Value} {d : DataW H} {ps : List MemPlace} {α : Type} {u : α → AV} {Wf : α → Prop} (ho : sP enc Pr w base spare held t (fun z => [u z]) Wf) (ht : Pr.underlying t = some (.slice e)) (hval : Value.okWide Pr w r b0 t v) (hd : DataW.Trod enc Pr w base spare held t v d ps) (hw : ∀ n ∈ d.weights Pr t, n ≤ reachBytes) :
  ∃ z, Wf z ∧ Rel (pW w) (u z) v := by
 obtain ⟨oa, ln, cp, rfl⟩ := okWide_slice ht hval
 obtain ⟨fuel, hf⟩ := hd
 obtain ⟨z, hz, hr⟩ := ho _ _ _ hf hw
 exact ⟨z, hz, hr.2 0 _ _ rfl (by simp [Value.cells])⟩
end
end Go.Proofs.YtmjpdbbjiipnfaaGreat
namespace Go.Proofs.YtmjpdbbjiipnfaaGreat
open Go.RowKit Go.Deep Go.ChangeShapes Go.WideShapes Go.ChangeAt P
set_option linter.unusedVariables false
set_option linter.unusedSimpArgs false
theorem Tryz.own : ownKnob Tryz.prog.godebug = none := by kernel_rfl
theorem Tryz.laidOut : laidOutB Tryz.prog = true := by kernel_rfl
def j0 (z : VLabel) : Prop := (z.Name.length ≤ reachBytes) ∧ (z.Value.length ≤ reachBytes)
theorem zh {H : Type} {enc : TypeId × Value → H} {w : World} {base : Nat} {spare : Nat → Bool} {held : Bool} : sP enc Tryz.prog w base spare held 40 bR j0 := by
 intro fuel cs x h hw
 obtain ⟨xs, n, _, rfl, hl, hlen, hf⟩ := DataW.trod_struct Tryz.underlying40 h
 obtain ⟨z0, w0, r0⟩ := Kj Tryz.underlying40 hlen hf hw 0 _ rfl (uN Tryz.underlying9)
 obtain ⟨z1, w1, r1⟩ := Kj Tryz.underlying40 hlen hf hw 1 _ rfl (uN Tryz.underlying9)
 have hcs : Tryz.prog.cellsOf 40 = 2 := by kernel_rfl
 exact ⟨⟨z0, z1⟩, ⟨w0, w1⟩, jW.whole (jW.cat r0 r1 (by rfl)) (by rw [hl, hcs]; rfl)⟩
theorem oJ {H : Type} {enc : TypeId × Value → H} {w : World} {base : Nat} {spare : Nat → Bool} {held : Bool} : sP enc Tryz.prog w base spare held 22 (fun l : List VLabel => [AV.sl false 2 (l.map bR)]) (fun l => l.length ≤ reachBytes ∧ ∀ y ∈ l, j0 y) :=
 wN Tryz.underlying22 (by kernel_rfl) (by decide) (of_decide_eq_true (by kernel_rfl)) (fun z => by rfl) zh
end Go.Proofs.YtmjpdbbjiipnfaaGreat
namespace Go.Proofs.YtmjpdbbjiipnfaaGreat
open Go.ChangeShapes Go.WideShapes Go.ChangeAt Go.RowKit Go.ChangeMaps P
set_option linter.unusedSimpArgs false
set_option linter.unusedVariables false
theorem Hx {l : List VLabel} (h1 : l.length ≤ reachBytes) (h2 : ∀ y ∈ l, j0 y) : ze l := ⟨by unfold reachBytes at h1; omega, fun z hz => by
 have := h2 z hz
 unfold j0 at this
 unfold reachBytes at this
 exact ⟨by omega, by omega⟩⟩
set_option maxRecDepth 100000 in
theorem sS (M : Nat) : cz (M + 300) = some true := by kernel_rfl
theorem rX : Ev cz true := ⟨300, fun N hN => by
 obtain ⟨M, rfl⟩ : ∃ M, N = M + 300 := ⟨N - 300, by omega⟩
 exact sS M⟩
theorem ye {f : FuncId} {z : List VLabel} {v : Value} {w : World} (h : ak Tryz.prog f [.sl false 2 (z.map bR)] [] (fun out H => out = .ret (.v (.bool true)) ∧ H = [])) (hr : Rel (pW w) (.sl false 2 (z.map bR)) v) : Calls Tryz.prog f #[v] w fun e w' => e = .returned (.bool true) ∧ Below w.heap.size w w' := by
 refine qR (vs := [v]) h rfl fun i u x hu hx => ?_
 match i, hu, hx with
 | 0, hu, hx => simp at hu hx; subst hu hx; exact ⟨hr, rfl⟩
 | i + 1, hu, hx => simp at hu
end Go.Proofs.YtmjpdbbjiipnfaaGreat
namespace Go.Proofs.YtmjpdbbjiipnfaaGreat
open Go.RowKit P
set_option linter.unusedVariables false
set_option linter.unusedSimpArgs false
theorem uY {α : Type} (by_ : Nat) (l m : List α) (h : l.length + m.length ≤ 1048577) (hb : by_ ≤ 1000000) : jY by_ l m = some (l ++ m) := by
 unfold jY; rw [if_pos]
 exact Nat.le_trans (Nat.mul_le_mul h hb) (by omega)
abbrev Lt (a b : List UInt8) : Prop := Op.bytesLess a b = true
abbrev SS (l : List VLabel) : Prop := l.Pairwise fun x y => Lt x.Name y.Name
theorem vS {a : List UInt8} : ¬ Lt a a := fun h => by unfold Lt at h; rw [lY] at h; cases h
theorem mf {a b : List UInt8} (h : Lt a b) : ¬ Lt b a := fun h2 => vS (jc h h2)
theorem Ah (a b : List UInt8) : Lt a b ∨ a = b ∨ Lt b a := by
 unfold Lt
 cases h1 : Op.bytesLess a b with
 | true => exact .inl rfl
 | false =>
   cases h2 : Op.bytesLess b a with
   | true => exact .inr (.inr rfl)
   | false => exact .inr (.inl (wv h1 h2))
def lo (nm : List UInt8) (l : List VLabel) : List VLabel := l.filter fun z => Op.bytesLess z.Name nm
def hi (nm : List UInt8) (l : List VLabel) : List VLabel := l.filter fun z => Op.bytesLess nm z.Name
def Cb (nm v : List UInt8) : List VLabel := if v = [] then [] else [⟨nm, v⟩]
def yW (l : List VLabel) (nm v : List UInt8) : List VLabel := lo nm l ++ (Cb nm v ++ hi nm l)
theorem Lw {nm : List UInt8} {l : List VLabel} (h : ∀ z ∈ l, Lt nm z.Name) : lo nm l = [] ∧ hi nm l = l :=
 ⟨List.filter_eq_nil_iff.2 fun z hz e => mf (h z hz) e, List.filter_eq_self.2 h⟩
theorem P0 {nm : List UInt8} {z : VLabel} (h : z.Name = nm) (l : List VLabel) : lo nm (z :: l) = lo nm l ∧ hi nm (z :: l) = hi nm l := by
 unfold lo hi
 rw [List.filter_cons, List.filter_cons, h, lY]
 exact ⟨rfl, rfl⟩
def putR (nm v : List UInt8) : Bool → List VLabel → List VLabel
 | true, l => l.filter fun z => !decide (z.Name = nm)
 | false, [] => [⟨nm, v⟩]
 | false, z :: l => if Op.bytesLess z.Name nm then z :: putR nm v false l else ⟨nm, v⟩ :: (z :: l).filter fun z => !decide (z.Name = nm)
theorem qv (N : Nat) (nm v : List UInt8) : ∀ (r p o : List VLabel) (b : Bool) (n : Nat), r.length < n → (p ++ r).length + o.length + 2 * r.length < 400000 → aW N n (p ++ r) nm v o b (p.length : Int) = some (o ++ putR nm v b r)
 | r, p, o, b, 0, h, _ => by omega
 | [], p, o, b, n + 1, h, hl => by
   unfold aW
   rw [kq, cond_false]
   cases b with
   | true => simp [putR]
   | false =>
     rw [Bool.not_false, cond_true, uY 32 o _ (by simp at hl ⊢; omega) (by omega)]
     rfl
 | z :: r, p, o, b, n + 1, h, hl => by
   have hp : p.length + 1 < 9223372036854775808 := by simp at hl; omega
   simp only [List.length_append, List.length_cons] at hl h
   have hnx : ∀ (o' : List VLabel) (b' : Bool), o'.length ≤ o.length + 2 → cy N (aW N n) n (p ++ z :: r) nm v o' b' (p.length : Int) = some (o' ++ putR nm v b' r) := fun o' b' ho => by
    unfold cy
    rw [eo p z hp, bX, qv N nm v r (p ++ [z]) o' b' n (by omega) (by simp; omega)]
   have h9 : ∀ (o' : List VLabel) (b' : Bool), o'.length ≤ o.length + 1 → bM N (aW N n) n (p ++ z :: r) nm v o' b' (p.length : Int) = some (if z.Name = nm then o' ++ putR nm v b' r else o' ++ z :: putR nm v b' r) := fun o' b' ho => by
    unfold bM
    rw [fx, Option.bind_some]
    by_cases hz : z.Name = nm
    ·rw [decide_eq_true hz, Bool.not_true, cond_false, hnx o' b' (by omega), if_pos hz]
    ·rw [decide_eq_false hz, Bool.not_false, cond_true, Option.bind_some, uY 32 o' _ (by simp; omega) (by omega), Option.bind_some, hnx _ b' (by simp; omega), if_neg hz, List.append_assoc]; rfl
   unfold aW
   rw [jA, cond_true]
   cases b with
   | true =>
     rw [Bool.not_true, cond_false, h9 o true (by omega)]
     simp only [putR, List.filter_cons]
     by_cases hz : z.Name = nm <;> simp [hz]
   | false =>
     rw [Bool.not_false, cond_true, fx, Option.bind_some]
     cases hb : Op.bytesLess z.Name nm with
     | true =>
       have hz : ¬ z.Name = nm := fun e => by rw [e, lY] at hb; cases hb
       rw [Bool.not_true, cond_false, h9 o false (by omega), if_neg hz, putR, if_pos hb]
     | false =>
       rw [Bool.not_false, cond_true, uY 32 o _ (by simp; omega) (by omega), Option.bind_some, h9 _ true (by simp)]
       have e3 : putR nm v false (z :: r) = ⟨nm, v⟩ :: (z :: r).filter (fun z => !decide (z.Name = nm)) := by rw [putR, hb, if_neg (by decide)]
       rw [e3, List.filter_cons]
       by_cases hz : z.Name = nm <;> simp [hz, putR]
theorem uJ {l : List VLabel} {nm : List UInt8} (hs : SS l) : (l.filter fun z => !decide (z.Name = nm)) = lo nm l ++ hi nm l := by
 induction l with
 | nil => rfl
 | cons z l ih =>
   obtain ⟨h1, h2⟩ := List.pairwise_cons.1 hs
   have ih := ih h2
   rcases Ah z.Name nm with h | h | h
   ·have hn : ¬ z.Name = nm := fun e => by rw [e] at h; exact vS h
    unfold lo hi at ih ⊢
    rw [List.filter_cons, List.filter_cons, List.filter_cons, if_pos (by simpa using hn), if_pos h, if_neg (fun e => mf h e), ih]
    rfl
   ·have e := P0 h l
    rw [List.filter_cons, if_neg (by simpa using h), e.1, e.2, ih]
   ·have hn : ¬ z.Name = nm := fun e => by rw [e] at h; exact vS h
    have hg := Lw (nm := nm) (l := z :: l) (fun y hy => by
     rcases List.mem_cons.1 hy with rfl | hy
     ·exact h
     ·exact jc h (h1 y hy))
    rw [hg.1, hg.2, List.nil_append, List.filter_eq_self]
    intro y hy
    have : Lt nm y.Name := by
     rcases List.mem_cons.1 hy with rfl | hy
     ·exact h
     ·exact jc h (h1 y hy)
    have : ¬ y.Name = nm := fun e => by rw [e] at this; exact vS this
    simpa using this
theorem HJ {l : List VLabel} {nm v : List UInt8} (hs : SS l) : putR nm v false l = lo nm l ++ ⟨nm, v⟩ :: hi nm l := by
 induction l with
 | nil => rfl
 | cons z l ih =>
   obtain ⟨h1, h2⟩ := List.pairwise_cons.1 hs
   unfold putR
   cases hb : Op.bytesLess z.Name nm with
   | true =>
     rw [if_pos rfl, ih h2]
     unfold lo hi
     rw [List.filter_cons, List.filter_cons, if_pos hb, if_neg (fun e => mf hb e)]
     rfl
   | false =>
     rw [if_neg (by decide), uJ hs]
     have : lo nm (z :: l) = [] := by
      unfold lo
      rw [List.filter_eq_nil_iff]
      intro y hy e
      rcases List.mem_cons.1 hy with rfl | hy
      ·rw [hb] at e; cases e
      ·have := jc (h1 y hy) e; rw [hb] at this; cases this
     rw [this]; rfl
theorem CP (l : List VLabel) (hs : SS l) (hl : l.length < 100000) (nm v : List UInt8) : Ev (fun N => de N l nm v) (yW l nm v) := ⟨l.length + 1, fun N hN => by
 show de N l nm v = _
 unfold de
 have := qv N nm v l [] [] (decide (v = [])) N (by omega) (by simp; omega)
 simp only [List.nil_append, List.length_nil] at this
 rw [show (0 : Int) = ((0 : Nat) : Int) from rfl, this]
 unfold yW Cb
 by_cases hv : v = []
 ·rw [decide_eq_true hv, if_pos hv, putR, uJ hs]; rfl
 ·rw [decide_eq_false hv, if_neg hv, HJ hs]; rfl⟩
end Go.Proofs.YtmjpdbbjiipnfaaGreat
namespace Go.Proofs.YtmjpdbbjiipnfaaGreat
open Go.RowKit P Go.Sort
set_option linter.unusedVariables false
set_option linter.unusedSimpArgs false
theorem ud : ∀ {l p : List VLabel}, rv p l = false → (∀ y ∈ p, ∀ z ∈ l, y.Name ≠ z.Name) ∧ l.Pairwise fun x y => x.Name ≠ y.Name
 | [], p, _ => ⟨fun _ _ z hz => (by cases hz), .nil⟩
 | z :: r, p, h => by
   unfold rv at h
   rw [Bool.or_eq_false_iff] at h
   obtain ⟨q1, q2⟩ := ud h.2
   have h3 : ∀ y ∈ p, y.Name ≠ z.Name := fun y hy e => by
    have := List.any_eq_false.1 h.1 y hy
    simp [e] at this
   refine ⟨fun y hy w hw => ?_, ?_⟩
   ·rcases List.mem_cons.1 hw with rfl | hw
    ·exact h3 y hy
    ·exact q1 y (by simp [hy]) w hw
   ·exact List.pairwise_cons.2 ⟨fun w hw => q1 z (by simp) w hw, q2⟩
theorem la (N : Nat) : ∀ (r p : List VLabel) (n : Nat), r.length < n → (p ++ r).length < 140737488355328 → bE N n (p ++ r) (p ++ r) (p.length : Int) = some true
 | r, p, 0, h, _ => by omega
 | [], p, n + 1, h, hl => by
   unfold bE
   rw [kq, cond_false]
 | z :: r, p, n + 1, h, hl => by
   have hp : p.length + 1 < 9223372036854775808 := by simp at hl; omega
   have ih := la N r (p ++ [z]) n (by simp only [List.length_cons] at h; omega) (by rw [← bX]; exact hl)
   rw [← bX] at ih
   unfold bE
   rw [jA, cond_true, fx, Option.bind_some, Option.bind_some, eo p z hp, ih]
   simp [uU]
theorem yL (N : Nat) (l : List VLabel) (hl : l.length < 140737488355328) (hN : l.length < N) : cQ N l l = some true := by
 unfold cQ
 have := la N l [] N hN (by simpa using hl)
 simp only [List.nil_append, List.length_nil] at this
 simp only [bne_self_eq_false, cond_false]
 exact this
theorem xL : ∀ {e : Bool} {l : List VLabel} {x : Int}, lg e l = some x → x ≠ 0
 | _, [], _, h => by cases h
 | e, z :: r, x, h => by
   unfold lg at h
   split at h
   ·cases h; decide
   ·split at h
    ·cases h; decide
    ·split at h
     ·cases h; decide
     ·exact xL h
def keepV (l : List VLabel) : List VLabel := l.filter fun z => !decide (z.Value = [])
theorem vc {n i : Nat} (h : i < n) : mD n (i : Int) = some i := by
 unfold mD; rw [if_pos (by omega)]; simp
theorem yH {α : Type} (p : List α) (z : α) (r : List α) : (p ++ z :: r)[p.length]? = some z := by
 simp
theorem uH (N : Nat) : ∀ (r p : List VLabel) (n : Nat), r.length < n → (p ++ r).length < 140737488355328 → ∃ x : Int, ao N n 0 (p ++ r).length ((p ++ r).length : Int) (p.length : Int) (p ++ r) = some (.ok (x, p ++ r)) ∧ ((x = -1 ∧ keepV r = r) ∨ ∃ a z b, r = a ++ z :: b ∧ z.Value = [] ∧ keepV a = a ∧ x = ((p ++ a).length : Int))
 | r, p, 0, h, _ => by omega
 | [], p, n + 1, h, hl => ⟨-1, by
   unfold ao
   rw [kq, cond_false], .inl ⟨rfl, rfl⟩⟩
 | z :: r, p, n + 1, h, hl => by
   have hp : p.length + 1 < 9223372036854775808 := by simp at hl; omega
   unfold ao
   rw [jA, cond_true, vc (by simp), Option.bind_some, Nat.zero_add, yH, Option.bind_some]
   unfold cr
   rw [Option.bind_some]
   by_cases hv : z.Value = []
   ·rw [decide_eq_true hv, cond_true]
    exact ⟨_, rfl, .inr ⟨[], z, r, rfl, hv, rfl, by simp⟩⟩
   ·rw [decide_eq_false hv, cond_false, eo p z hp]
    obtain ⟨x, h1, h2⟩ := uH N r (p ++ [z]) n (by simp only [List.length_cons] at h; omega) (by rw [← bX]; exact hl)
    rw [← bX] at h1
    refine ⟨x, h1, ?_⟩
    have hk : ∀ a, keepV (z :: a) = z :: keepV a := fun a => by unfold keepV; rw [List.filter_cons, if_pos (by simpa using hv)]
    rcases h2 with ⟨rfl, h2⟩ | ⟨a, y, b, rfl, h3, h4, h5⟩
    ·exact .inl ⟨rfl, by rw [hk, h2]⟩
    ·exact .inr ⟨z :: a, y, b, rfl, h3, by rw [hk, h4], by rw [h5]; simp⟩
theorem rK (N : Nat) : ∀ (r k g : List VLabel) (n : Nat), r.length < n → (k ++ (g ++ r)).length < 140737488355328 → g ≠ [] → aj N n (k ++ (g ++ r)).length (k.length : Int) ((k ++ g).length : Int) (k ++ (g ++ r)) = some (.ok ((k ++ keepV r).length, k ++ keepV r))
 | r, k, g, 0, h, _, _ => by omega
 | [], k, g, n + 1, h, hl, hg => by
   have hgl : 0 < g.length := List.length_pos_iff.2 hg
   unfold aj
   have e1 : decide (((k ++ g).length : Int) < ((k ++ (g ++ [])).length : Int)) = false := by simp
   rw [e1, cond_false]
   have e2 : u9 (k ++ (g ++ [])).length (k.length : Int) ((k ++ (g ++ [])).length : Int) = some (k.length, (k ++ (g ++ [])).length) := by
    unfold u9; rw [if_pos (by simp; omega)]; simp; omega
   rw [e2, Option.bind_some]
   have e3 : ∀ z : VLabel, zC k.length ((k ++ (g ++ [])).length - k.length) (k ++ (g ++ [])) z = some (k ++ List.replicate g.length z) := fun z => by
    unfold zC
    rw [if_pos (by simp; omega)]
    simp
   simp only [e3, Option.bind_some]
   have e4 : ∀ z : VLabel, zK (k ++ (g ++ [])).length (k ++ List.replicate g.length z) (k.length : Int) = some k := fun z => by
    unfold zK
    rw [if_pos (by simp; omega)]
    simp
   rw [e4, Option.bind_some]
   simp [keepV]
 | z :: r, k, g, n + 1, h, hl, hg => by
   have hgl : 0 < g.length := List.length_pos_iff.2 hg
   have hl2 : k.length + (g.length + (r.length + 1)) < 140737488355328 := by simpa using hl
   have hr : r.length < n := by simp only [List.length_cons] at h; omega
   unfold aj
   have e0 : k ++ (g ++ z :: r) = (k ++ g) ++ z :: r := by simp
   have e1 : decide (((k ++ g).length : Int) < ((k ++ (g ++ z :: r)).length : Int)) = true := decide_eq_true (by simp only [List.length_append, List.length_cons]; omega)
   rw [e1, cond_true, vc (by simp only [List.length_append, List.length_cons]; omega), Option.bind_some]
   have e2 : (k ++ (g ++ z :: r))[(k ++ g).length]? = some z := by rw [e0, yH]
   rw [e2, Option.bind_some]
   unfold cr
   rw [Option.bind_some]
   have e3 : w64 (((k ++ g).length : Int) + 1) = ((k ++ (g ++ [z])).length : Int) := by
    rw [As (by omega) (by simp only [List.length_append]; omega)]; simp only [List.length_append, List.length_cons, List.length_nil]; omega
   by_cases hv : z.Value = []
   ·rw [decide_eq_true hv, Bool.not_true, cond_false]
    unfold aq
    rw [e3]
    have ih := rK N r k (g ++ [z]) n hr (by simp; omega) (by simp)
    have e4 : k ++ (g ++ [z] ++ r) = k ++ (g ++ z :: r) := by simp
    rw [e4] at ih
    rw [ih]
    have : keepV (z :: r) = keepV r := by unfold keepV; rw [List.filter_cons, if_neg (by simpa using hv)]
    rw [this]
   ·rw [decide_eq_false hv, Bool.not_false, cond_true]
    obtain ⟨g0, g', rfl⟩ : ∃ g0 g', g = g0 :: g' := by
     cases g with
     | nil => exact absurd rfl hg
     | cons a b => exact ⟨a, b, rfl⟩
    have e5 : mD (k ++ (g0 :: g' ++ z :: r)).length (k.length : Int) = some k.length := vc (by simp)
    rw [e5, Option.bind_some]
    have e6 : (k ++ (g0 :: g' ++ z :: r))[k.length]? = some g0 := by simp
    rw [e6, Option.bind_some]
    unfold aq
    have e7 : List.set (k ++ (g0 :: g' ++ z :: r)) k.length z = (k ++ [z]) ++ ((g' ++ [z]) ++ r) := by simp
    have e8 : w64 ((k.length : Int) + 1) = ((k ++ [z]).length : Int) := eo k z (by omega)
    have e9 : ((k ++ (g0 :: g' ++ [z])).length : Int) = (((k ++ [z]) ++ (g' ++ [z])).length : Int) := by simp only [List.length_append, List.length_cons, List.length_nil]; omega
    have e10 : (k ++ (g0 :: g' ++ z :: r)).length = ((k ++ [z]) ++ ((g' ++ [z]) ++ r)).length := by simp only [List.length_append, List.length_cons, List.length_nil]; omega
    rw [e3, e7, e8, e9, e10]
    have ih := rK N r (k ++ [z]) (g' ++ [z]) n hr (by simp only [List.length_append, List.length_cons, List.length_nil] at hl ⊢; omega) (by simp)
    rw [ih]
    have : keepV (z :: r) = z :: keepV r := by unfold keepV; rw [List.filter_cons, if_pos (by simpa using hv)]
    rw [this]; simp
theorem Cp (N : Nat) (l : List VLabel) (hl : l.length < 140737488355328) (hN : l.length < N) : aw N l.length l = some (.ok ((keepV l).length, keepV l)) := by
 unfold aw aB
 obtain ⟨x, h1, h2⟩ := uH N l [] N hN (by simpa using hl)
 simp only [List.nil_append, List.length_nil] at h1 h2
 rw [show (0 : Int) = ((0 : Nat) : Int) from rfl, h1, Option.bind_some]
 rcases h2 with ⟨rfl, h2⟩ | ⟨a, z, b, rfl, h3, h4, rfl⟩
 ·simp only [beq_self_eq_true, cond_true, h2]
 ·have hne : ((a.length : Int) == (-1)) = false := by simp
  have hl2 : a.length + (b.length + 1) < 140737488355328 := by simpa using hl
  simp only [hne, cond_false]
  have e1 : w64 ((a.length : Int) + 1) = ((a ++ [z]).length : Int) := eo a z (by omega)
  rw [e1]
  have := rK N b a [z] N (by simp at hN; omega) (by simp only [List.length_append, List.length_cons, List.length_nil]; omega) (by simp)
  simp only [List.singleton_append] at this
  rw [this]
  have hk : keepV (a ++ z :: b) = a ++ keepV b := by
   unfold keepV
   rw [List.filter_append, List.filter_cons, if_neg (by simpa using h3)]
   exact congrArg (· ++ _) h4
  rw [hk]
abbrev NN (l : List VLabel) : Prop := l.Pairwise fun x y => x.Name ≠ y.Name
theorem AP : ∀ {a b : List VLabel}, SS a → SS b → a.Perm b → a = b
 | [], b, _, _, h => h.nil_eq
 | x :: a, [], _, _, h => absurd h.length_eq (by simp)
 | x :: a, y :: b, ha, hb, h => by
   obtain ⟨h1, h2⟩ := List.pairwise_cons.1 ha
   obtain ⟨k1, k2⟩ := List.pairwise_cons.1 hb
   have hxy : x = y := by
    have hx : x ∈ y :: b := h.subset List.mem_cons_self
    have hy : y ∈ x :: a := h.symm.subset List.mem_cons_self
    rcases List.mem_cons.1 hx with e | hx
    ·exact e
    ·rcases List.mem_cons.1 hy with e | hy
     ·exact e.symm
     ·exact absurd (h1 y hy) (mf (k1 x hx))
   subst hxy
   rw [AP h2 k2 (List.Perm.cons_inv h)]
theorem uL {α : Type} [Inhabited α] (l : List α) (i : Nat) (h : i < l.length) : l.toArray[i]! = l[i] := by
 rw [getElem!_pos l.toArray i (by simpa using h)]; simp
theorem HA {l : List VLabel} (hn : NN l) : SS (d5 dc l) := by
 have hp := iV fF l
 have hs := vu fF l
 have hn2 : NN (d5 dc l) := hp.symm.pairwise hn fun h e => h e.symm
 have hlen : (d5 dc l).length = l.length := hp.length_eq
 rw [SS, List.pairwise_iff_getElem]
 intro i j hi hj hij
 have hne := List.pairwise_iff_getElem.1 hn2 i j hi hj hij
 have hle : Op.bytesLess (d5 dc l)[j].Name (d5 dc l)[i].Name = false := by
  have := hs i j (Nat.zero_le _) hij (by omega)
  rw [uL _ i hi, uL _ j hj, uS] at this
  exact this
 rcases Ah (d5 dc l)[i].Name (d5 dc l)[j].Name with h | h | h
 ·exact h
 ·exact absurd h hne
 ·unfold Lt at h; rw [hle] at h; cases h
theorem Gv {l : List VLabel} {nm v : List UInt8} (hv : v ≠ []) (hn : ∀ z ∈ l, z.Name ≠ nm) : (yW l nm v).Perm (l ++ [⟨nm, v⟩]) := by
 unfold yW Cb
 rw [if_neg hv]
 have h1 : (lo nm l ++ hi nm l).Perm l := by
  unfold lo hi
  have h2 : l.filter (fun z => Op.bytesLess nm z.Name) = l.filter (fun z => !Op.bytesLess z.Name nm) := by
   apply List.filter_congr
   intro z hz
   rcases Ah z.Name nm with h | h | h
   ·have h3 : Op.bytesLess nm z.Name = false := by
     cases e : Op.bytesLess nm z.Name with
     | false => rfl
     | true => exact absurd e (mf h)
    unfold Lt at h
    rw [h3, h]; rfl
   ·exact absurd h (hn z hz)
   ·have h3 : Op.bytesLess z.Name nm = false := by
     cases e : Op.bytesLess z.Name nm with
     | false => rfl
     | true => exact absurd e (mf h)
    unfold Lt at h
    rw [h3, h]; rfl
  rw [h2]
  exact List.filter_append_perm _ l
 have h3 : (lo nm l ++ ([(⟨nm, v⟩ : VLabel)] ++ hi nm l)).Perm ((lo nm l ++ hi nm l) ++ [(⟨nm, v⟩ : VLabel)]) := by
  rw [List.append_assoc]
  exact List.Perm.append_left _ List.perm_append_comm
 exact h3.trans (h1.append_right _)
theorem L5 {l : List VLabel} (hs : SS l) (nm v : List UInt8) : SS (yW l nm v) := by
 unfold yW
 have hlo : ∀ z ∈ lo nm l, Lt z.Name nm := fun z hz => (List.mem_filter.1 hz).2
 have hhi : ∀ z ∈ hi nm l, Lt nm z.Name := fun z hz => (List.mem_filter.1 hz).2
 have h1 : SS (Cb nm v ++ hi nm l) := by
  unfold Cb
  split
  ·exact hs.filter _
  ·exact List.pairwise_cons.2 ⟨hhi, hs.filter _⟩
 refine List.pairwise_append.2 ⟨hs.filter _, h1, fun x hx y hy => ?_⟩
 rcases List.mem_append.1 hy with hy | hy
 ·unfold Cb at hy
  split at hy
  ·cases hy
  ·rw [List.mem_singleton.1 hy]; exact hlo x hx
 ·exact jc (hlo x hx) (hhi y hy)
theorem kv : ∀ (r p o : List VLabel), (p ++ r).length ≤ 1000 → NN (o ++ r) → SS o → o.length + r.length ≤ 1000 → ∃ N0, ∀ N n, N0 ≤ N → r.length < n → ∃ q, a7 N n (p ++ r) o (p.length : Int) = some q ∧ SS q ∧ q.Perm (o ++ keepV r)
 | [], p, o, hl, hn, hs, ho => ⟨0, fun N n _ hn' => by
   cases n with
   | zero => omega
   | succ n =>
     refine ⟨o, ?_, hs, by simp [keepV]⟩
     unfold a7
     rw [kq, cond_false]⟩
 | z :: r, p, o, hl, hn, hs, ho => by
   have hl2 : p.length + (r.length + 1) ≤ 1000 := by simpa using hl
   have ho2 : o.length + (r.length + 1) ≤ 1000 := by simpa using ho
   by_cases hv : z.Value = []
   ·obtain ⟨N0, h0⟩ := kv r (p ++ [z]) o (by rw [← bX]; exact hl) (by
     have : (o ++ r).Sublist (o ++ z :: r) := List.Sublist.append_left (List.sublist_cons_self _ _) _
     exact hn.sublist this) hs (by omega)
    refine ⟨N0, fun N n hN hn' => ?_⟩
    cases n with
    | zero => omega
    | succ n =>
      obtain ⟨q, q1, q2, q3⟩ := h0 N n hN (by simp only [List.length_cons] at hn'; omega)
      rw [← bX] at q1
      refine ⟨q, ?_, q2, ?_⟩
      ·unfold a7
       rw [jA, cond_true, fx, Option.bind_some, decide_eq_true hv, Bool.not_true, cond_false]
       unfold bT
       rw [eo p z (by omega), q1]
      ·have : keepV (z :: r) = keepV r := by unfold keepV; rw [List.filter_cons, if_neg (by simpa using hv)]
       rw [this]; exact q3
   ·have hno : ∀ y ∈ o, y.Name ≠ z.Name := fun y hy => (List.pairwise_append.1 hn).2.2 y hy z List.mem_cons_self
    have hperm := Gv (l := o) (nm := z.Name) hv hno
    obtain ⟨N1, h1⟩ := CP o hs (by omega) z.Name z.Value
    obtain ⟨N0, h0⟩ := kv r (p ++ [z]) (yW o z.Name z.Value) (by rw [← bX]; exact hl) (by
     have h2 : NN (o ++ [z] ++ r) := by simpa using hn
     exact ((hperm.append_right r).symm.pairwise h2 fun h e => h e.symm)) (L5 hs _ _) (by
     rw [hperm.length_eq]; simp; omega)
    refine ⟨max N0 N1, fun N n hN hn' => ?_⟩
    cases n with
    | zero => omega
    | succ n =>
      obtain ⟨q, q1, q2, q3⟩ := h0 N n (by omega) (by simp only [List.length_cons] at hn'; omega)
      rw [← bX] at q1
      refine ⟨q, ?_, q2, ?_⟩
      ·unfold a7
       rw [jA, cond_true, fx]
       simp only [Option.bind_some]
       have h1 := h1 N (by omega)
       simp only at h1
       rw [decide_eq_false hv, Bool.not_false, cond_true, h1, Option.bind_some]
       unfold bT
       rw [eo p z (by omega), q1]
      ·have hk : keepV (z :: r) = z :: keepV r := by unfold keepV; rw [List.filter_cons, if_pos (by simpa using hv)]
       rw [hk]
       refine q3.trans ?_
       have := hperm.append_right (keepV r)
       simpa using this
theorem m9 {l : List VLabel} (h : ir true l = 0) : l.length ≤ 20 ∧ NN l := by
 unfold ir at h
 split at h
 ·cases h
 ·rename_i h20
  refine ⟨by omega, ?_⟩
  cases hf : lg true l with
  | some e =>
    rw [hf, Option.getD_some] at h
    exact absurd h (xL hf)
  | none =>
    rw [hf, Option.getD_none] at h
    cases hd : rv [] l with
    | true => rw [hd] at h; cases h
    | false => exact (ud hd).2
theorem Jj (l : List VLabel) (hw : ze l) : Ev (fun N => dO N l) (.ok (if ir true l = 0 then (d5 dc (keepV l), 0) else ([], ir true l))) := by
 obtain ⟨N1, h1⟩ := FR true l hw
 refine ⟨max N1 100, fun N hN => ?_⟩
 have h1 := h1 N (by omega)
 simp only at h1
 show dO N l = _
 unfold dO
 rw [h1, Option.bind_some]
 by_cases hc : ir true l = 0
 ·obtain ⟨h20, hn⟩ := m9 hc
  rw [if_pos hc, hc]
  simp only [bne_self_eq_false, cond_false]
  have e1 : em N l = some (.ok (l.length, l)) := by unfold em; rw [if_pos (by omega)]
  have hk : (keepV l).length ≤ l.length := List.length_filter_le _ _
  have e2 : cg N (keepV l).length (keepV l) = some (.ok (d5 dc (keepV l))) := by unfold cg; rw [if_pos ⟨rfl, by omega⟩]
  have e3 : w9 (keepV l).length (d5 dc (keepV l)) = some (d5 dc (keepV l)) := by
   unfold w9; rw [if_pos (iV fF _).length_eq.symm]
  rw [e1, Option.bind_some]
  simp only [Cp N l (by omega) (by omega), Option.bind_some, e2, e3]
 ·have : (ir true l != 0) = true := by simpa using hc
  rw [if_neg hc, this, cond_true]
theorem yM (l : List VLabel) (hc : ir true l = 0) : Ev (fun N => b8 N l) (d5 dc (keepV l)) := by
 obtain ⟨h20, hn⟩ := m9 hc
 obtain ⟨N0, h0⟩ := kv l [] [] (by simp; omega) (by simpa using hn) .nil (by simp; omega)
 refine ⟨max N0 21, fun N hN => ?_⟩
 obtain ⟨q, q1, q2, q3⟩ := h0 N N (by omega) (by omega)
 show b8 N l = _
 unfold b8
 simp only [List.nil_append, List.length_nil] at q1 q3
 rw [show (0 : Int) = ((0 : Nat) : Int) from rfl, q1]
 have hnk : NN (keepV l) := hn.filter _
 rw [AP q2 (HA hnk) (q3.trans (iV fF _).symm)]
end Go.Proofs.YtmjpdbbjiipnfaaGreat
