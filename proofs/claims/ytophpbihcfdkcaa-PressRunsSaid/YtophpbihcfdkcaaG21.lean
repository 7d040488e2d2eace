/- The layer of abstract values: maps. -/
import Derived.Test.YtophpbihcfdkcaaG20
import Derived.MapKept
namespace Go.Proofs.Ytophpbihcfdkcaa
open Go.RowKit P
set_option linter.unusedSimpArgs false
set_option linter.unusedVariables false
section
variable {P : Program} {T : Tys P} {σ : AS} {F : Nat → Prop} {X : GW} {t yt ty e : TypeId} {x y z : Operand} {pos : String} {af : Array Edge} {g : Option (Nat × Bool)}

/-- What becomes of the state where a map turns. -/
theorem SimE.setm {tm : Array Value} {k : Nat} {l l' : List (Value × AV)} {w' : World} (h : SimE F X σ tm) (hb : look σ.h k = some [.mp l]) (hheap : ∀ c, c ≠ k → w'.heap[c]? = X.w.heap[c]?) (hsz : w'.heap.size = X.w.heap.size) (ho : w'.os = X.w.os) (ht : w'.tape = X.w.tape) (hu : w'.output = X.w.output)
    (hnew : ∃ (es : Array MapEntry) (clock : Nat), w'.heap[k]? = some (.map es clock) ∧ es.size = l'.length ∧ ∀ (i : Nat) (e : MapEntry) p, l'[i]? = some p → es[i]? = some e → e.key = p.1 ∧ Rel X p.2 e.val) : SimE F ⟨w', X.g⟩ (σ.setc k [.mp l']) tm ∧ Ext F X ⟨w', X.g⟩ := by
  have hbk := (h.box k _ hb)
  have hpres : Pres X ⟨w', X.g⟩ := by
    intro b n hbn
    have hne : b ≠ k := fun e1 => by rw [e1, hbk.gn] at hbn; cases hbn
    exact ⟨n, Nat.le_refl _, hbn, fun j _ => cell_of_heap (hheap b hne)⟩
  have hext : Ext F X ⟨w', X.g⟩ := ⟨ho, ht, hu, by show _ ≤ w'.heap.size; rw [hsz]; exact Nat.le_refl _, fun b hF => ⟨hheap b (fun e1 => hbk.nF (by rw [← e1]; exact hF)), rfl⟩, hpres⟩
  refine ⟨?_, hext⟩
  have howns : ∀ r sz q, (σ.setc k [.mp l']).own r = some (sz, q) → σ.own r = some (sz, q) ∧ rootV tm w' r = rootV tm X.w r := by
    intro r sz q hr
    cases r with
    | s t => exact ⟨hr, rfl⟩
    | c k' o' =>
      simp only [AS.own, AS.setc, look_cons] at hr
      by_cases e1 : k' = k
      · rw [if_pos e1] at hr
        cases o' with
        | zero => simp [own1] at hr
        | succ o' => simp [own1] at hr
      · rw [if_neg e1] at hr
        exact ⟨hr, by simp only [rootV]; exact cell_of_heap (hheap k' e1)⟩
  have toX' : ∀ {sz l y}, OwnOk F X sz l y → OwnOk F ⟨w', X.g⟩ sz l y := by
    intro sz l y hk
    refine hk.keep fun b n c hy => ?_
    have hne : b ≠ k := fun e1 => by
      rcases hk with ⟨hk, _⟩ | ⟨b', cap, cs', e', fr', m1, m2, _⟩
      · rw [hk] at hy; cases hy
      · rw [m1] at hy; cases hy; rw [e1, hbk.gn] at m2; cases m2
    exact ⟨hheap b hne, rfl, (hk.lt hy).2⟩
  have heq : EqsOk σ.dropC.e tm w' := by
    intro p hp
    have h1 := h.eqm p (List.mem_filter.1 hp).1
    cases hr2 : p.2 with
    | s t => rw [hr2] at h1; exact h1
    | c b q => exact absurd hr2 (dropC_no p hp q)
  refine ⟨⟨h.size, fun b n hbn => by show b < w'.heap.size; rw [hsz]; exact h.gb b n hbn, fun b hF => by show b < w'.heap.size; rw [hsz]; exact h.fb b hF, fun t u hu => (h.slot t u hu).mono hpres, fun k' cs' hk => ?_, heq.look, fun r sz l ho => ?_, fun r r' sz l sz' l' a n c a' n' c' hne ho ho' hr1 hr2 => ?_⟩, heq⟩
  · simp only [AS.setc, look_cons] at hk
    by_cases e1 : k' = k
    · subst e1
      rw [if_pos rfl] at hk
      cases hk
      obtain ⟨es, ck, n1, n2, n3⟩ := hnew
      exact .inr ⟨l', rfl, hbk.gn, hbk.nF, es, ck, n1, n2, fun i e p hp he => ⟨(n3 i e p hp he).1, (n3 i e p hp he).2.mono hpres⟩⟩
    · rw [if_neg e1] at hk
      have hbx := h.box k' cs' hk
      exact hbx.keep ⟨hheap k' e1, rfl, hbx.nF⟩ hpres
  · obtain ⟨h1, h2⟩ := howns r sz l ho
    obtain ⟨y, m1, m2⟩ := h.own r sz l h1
    exact ⟨y, by rw [h2]; exact m1, toX' m2⟩
  · obtain ⟨h1, h2⟩ := howns r sz l ho
    obtain ⟨g1, g2⟩ := howns r' sz' l' ho'
    rw [h2] at hr1; rw [g2] at hr2
    exact h.disj r r' sz l sz' l' a n c a' n' c' hne h1 g1 hr1 hr2

/-- A new map. -/
theorem eff_makemap {d : Nat} {o : Oper} (ho : o = ⟨some d, .makeMap t none, ty, pos, af, g⟩) (hd : Nat.ble (d + 1) σ.n = true) {R : AS → Prop} (hR : ∀ k, FreshK k σ.h → R ((σ.box k [.mp []]).put d (.v (.map (some k))))) : EffOp P o σ R := by
  subst ho
  intro F X a hs
  have hn : New X ⟨X.w.alloc (.map #[] 0), X.g⟩ := ⟨rfl, rfl, rfl, by show X.w.heap.size ≤ (X.w.heap.push _).size; simp, fun b hb => ⟨by show (X.w.heap.push _)[b]? = _; rw [Array.getElem?_push, if_neg (by omega)], rfl⟩⟩
  have hgb : ∀ b n, X.g b = some n → b < (X.w.alloc (.map #[] 0)).heap.size := fun b n hb => by have := hs.gb b n hb; show b < (X.w.heap.push _).size; simp; omega
  have hnew := hs.new hn hgb
  have hgk : X.g X.w.heap.size = none := by
    cases hg : X.g X.w.heap.size with
    | none => rfl
    | some n => have := hs.gb _ _ hg; omega
  have hhk : (X.w.alloc (.map #[] 0)).heap[X.w.heap.size]? = some (.map #[] 0) := by show (X.w.heap.push _)[_]? = _; simp
  have hb : BoxOk F ⟨X.w.alloc (.map #[] 0), X.g⟩ X.w.heap.size [.mp []] := .inr ⟨[], rfl, hgk, fun hF => Nat.lt_irrefl _ (hs.fb _ hF), #[], 0, hhk, rfl, fun i e p hp => by simp at hp⟩
  have h1 : (execOp a.eval ⟨some d, .makeMap t none, ty, pos, af, g⟩).run P X.w = .ok (.value (.map (some X.w.heap.size))) (X.w.alloc (.map #[] 0)) := by
    simp [execOp, Instr.makeMap, newObj, Sem.run]
  refine runs_value h1 ⟨⟨X.w.alloc (.map #[] 0), X.g⟩, _, rfl, hR X.w.heap.size (fun q hq e1 => ?_), ?_, hn.ext hs.gb hs.fb⟩
  · obtain ⟨k, cs'⟩ := q
    simp only at e1
    subst e1
    have : ∀ {l : List (Nat × List AV)} {k : Nat} {c : List AV}, (k, c) ∈ l → ∃ c', look l k = some c' := by
      intro l
      induction l with
      | nil => intro k c h; cases h
      | cons p l ih =>
        intro k c h
        obtain ⟨k0, c0⟩ := p
        by_cases e2 : k = k0
        · exact ⟨c0, by rw [look_cons, if_pos e2]⟩
        · rcases List.mem_cons.1 h with h | h
          · cases h; exact absurd rfl e2
          · obtain ⟨c', h'⟩ := ih h
            exact ⟨c', by rw [look_cons, if_neg e2]; exact h'⟩
    obtain ⟨c', h'⟩ := this hq
    exact Nat.lt_irrefl _ (hs.box _ _ h').lt
  · exact (hnew.box1 hb (by intro u hu; simp at hu; subst hu; rfl)).put_new (lt_of_ble hd) (New.refl _) hgb (.v _) (FreshOk.plain rfl)

/-! ### Keys that are texts -/
def smap (l : List (List UInt8 × AV)) : AV := .mp (l.map fun p => (.string (mkB p.1), p.2))
def lget (l : List (List UInt8 × AV)) (k : List UInt8) : Option AV := match l with
  | [] => none
  | (k', u) :: r => if k = k' then some u else lget r k
def lset (l : List (List UInt8 × AV)) (k : List UInt8) (u : AV) : List (List UInt8 × AV) := match l with
  | [] => [(k, u)]
  | (k', u') :: r => if k = k' then (k, u) :: r else (k', u') :: lset r k u
theorem beq_mkB (a b : List UInt8) : (mkB a == mkB b) = decide (a = b) := by
  by_cases e : a = b
  · subst e; rw [(MapKept.bytes_beq _ _).2 rfl]; simp
  · have : mkB a ≠ mkB b := fun h => e (by have := congrArg bsOf h; simpa [bsOf_mkB] using this)
    cases hb : (mkB a == mkB b) with
    | false => simp [e]
    | true => exact absurd ((MapKept.bytes_beq _ _).1 hb) this
theorem findNow_s (k : List UInt8) : ∀ (l : List (List UInt8 × AV)) (es : List MapEntry) (i : Nat), es.length = l.length → (∀ (j : Nat) (e : MapEntry) p, l[j]? = some p → es[j]? = some e → e.key = .string (mkB p.1)) →
    (lget l k = none ∧ Instr.findNow .string (.string (mkB k)) es i = some none ∧ ∀ u, lset l k u = l ++ [(k, u)]) ∨ ∃ (j : Nat) (e : MapEntry) (u : AV), l[j]? = some (k, u) ∧ es[j]? = some e ∧ lget l k = some u ∧ Instr.findNow .string (.string (mkB k)) es i = some (some (i + j, e.val)) ∧ ∀ u', lset l k u' = l.set j (k, u')
  | [], es, i, hl, hk => by
    have : es = [] := List.length_eq_zero_iff.1 hl
    subst this
    exact .inl ⟨rfl, rfl, fun u => rfl⟩
  | (k', u0) :: l, [], i, hl, hk => by simp at hl
  | (k', u0) :: l, e :: es, i, hl, hk => by
    have h0 := hk 0 e (k', u0) rfl rfl
    simp only at h0
    by_cases e1 : k = k'
    · subst e1
      refine .inr ⟨0, e, u0, rfl, rfl, by simp [lget], ?_, fun u' => by simp [lset]⟩
      have hbb : (mkB k == mkB k) = true := by rw [beq_mkB]; simp
      simp [Instr.findNow, Instr.sameNow, h0, hbb]
    · have hs : Instr.sameNow .string (.string (mkB k)) e.key = some false := by rw [h0]; simp [Instr.sameNow, beq_mkB, e1]
      rcases findNow_s k l es (i + 1) (by simpa using hl) (fun j e' p hp he => hk (j + 1) e' p (by simpa using hp) (by simpa using he)) with ⟨h1, h2, h3⟩ | ⟨j, e', u, h1, h2, h3, h4, h5⟩
      · exact .inl ⟨by simp [lget, e1, h1], by simp [Instr.findNow, hs, h2], fun u => by simp [lset, e1, h3]⟩
      · exact .inr ⟨j + 1, e', u, by simpa using h1, by simpa using h2, by simp [lget, e1, h3], by simp [Instr.findNow, hs, h4]; omega, fun u' => by simp [lset, e1, h5]⟩
theorem run_checkKey_s {w : World} {kt : TypeId} {b : Bool} {s : ByteArray} (hk : P.underlying kt = some .string) : (Instr.checkKey b 10000 kt (.string s)).run P w = .ok () w := MapKept.run_checkKey (k := .string s) hk trivial b 9999
theorem smap_get (l : List (List UInt8 × AV)) (j : Nat) (q : Value × AV) (h : (l.map fun p => (Value.string (mkB p.1), p.2))[j]? = some q) : ∃ p, l[j]? = some p ∧ q = (.string (mkB p.1), p.2) := by
  simp only [List.getElem?_map, Option.map_eq_some_iff] at h
  obtain ⟨p, h1, h2⟩ := h
  exact ⟨p, h1, h2.symm⟩
theorem opv_lookup_s {d : Option Tmp} {kt et : TypeId} {zv : Value} {k : Nat} {l : List (List UInt8 × AV)} {key : List UInt8} (hx : opV σ x = some (.v (.map (some k)))) (hb : look σ.h k = some [smap l]) (hy : opV σ y = some (.v (.string (mkB key)))) (ht : look T.ty t = some (.map kt et)) (hk : look T.ty kt = some .string) (hz : look T.zr et = some zv) :
    OpV P ⟨d, .lookup t x y true, ty, pos, af, g⟩ σ (.tu [match lget l key with | some u => u.rd | none => cst zv, .v (.bool (lget l key).isSome)]) := by
  refine opv_same (plain_tu _) fun F X a hs => ?_
  have e1 := opV_val hs (by simp [Op.operands]) hx
  have e2 := opV_val hs (by simp [Op.operands]) hy
  obtain ⟨g1, g2, es, ck, g3, g4, g5⟩ := (hs.box k _ hb).map
  have hut := T.tyOk _ _ ht
  have huk := T.tyOk _ _ hk
  obtain ⟨iz, hz1, hz2⟩ := T.zrOk _ _ hz
  have hfind := findNow_s key l es.toList 0 (by simpa using g4) (fun j e p hp he => (g5 j e (.string (mkB p.1), p.2) (by simp [hp]) (by simpa using he)).1)
  have hck := run_checkKey_s (P := P) (w := X.w) (b := es.isEmpty) (s := mkB key) huk
  rcases hfind with ⟨h1, h2, _⟩ | ⟨j, e, u, h1, h2, h3, h4, _⟩
  · refine ⟨.tuple #[zv, .bool false], ?_, ?_⟩
    · simp only [execOp, e1, e2]
      refine run_val ?_
      simp [Instr.lookup, run_underlying hut, MapKept.run_getObj_map g3, hck, Instr.findKey, run_underlying huk, h2, zeroValue, typeInfo, hz1, hz2]
    · rw [h1]
      refine .tu _ _ rfl fun i u x hu hx => ?_
      match i, hu, hx with
      | 0, hu, hx => simp at hu hx; subst hu hx; exact cst_rel X zv
      | 1, hu, hx => simp at hu hx; subst hu hx; exact .v _
      | n + 2, hu, hx => simp at hu
  · refine ⟨.tuple #[e.val, .bool true], ?_, ?_⟩
    · simp only [execOp, e1, e2]
      refine run_val ?_
      simp [Instr.lookup, run_underlying hut, MapKept.run_getObj_map g3, hck, Instr.findKey, run_underlying huk, h4]
    · rw [h3]
      refine .tu _ _ rfl fun i u' x hu hx => ?_
      match i, hu, hx with
      | 0, hu, hx =>
        simp at hu hx; subst hu hx
        exact (g5 j e (.string (mkB key), u) (by simp [h1]) (by simpa using h2)).2.rd
      | 1, hu, hx => simp at hu hx; subst hu hx; exact .v _
      | n + 2, hu, hx => simp at hu
theorem opv_lookup_hit {d : Option Tmp} {kt et : TypeId} {zv : Value} {k : Nat} {l : List (List UInt8 × AV)} {key : List UInt8} {u : AV} (hx : opV σ x = some (.v (.map (some k)))) (hb : look σ.h k = some [smap l]) (hy : opV σ y = some (.v (.string (mkB key)))) (ht : look T.ty t = some (.map kt et)) (hk : look T.ty kt = some .string) (hz : look T.zr et = some zv) (hg : lget l key = some u) :
    OpV P ⟨d, .lookup t x y true, ty, pos, af, g⟩ σ (.tu [u.rd, .v (.bool true)]) := opv_eq (opv_lookup_s (T := T) hx hb hy ht hk hz) (by rw [hg]; rfl)
theorem opv_lookup_miss {d : Option Tmp} {kt et : TypeId} {zv : Value} {k : Nat} {l : List (List UInt8 × AV)} {key : List UInt8} (hx : opV σ x = some (.v (.map (some k)))) (hb : look σ.h k = some [smap l]) (hy : opV σ y = some (.v (.string (mkB key)))) (ht : look T.ty t = some (.map kt et)) (hk : look T.ty kt = some .string) (hz : look T.zr et = some zv) (hg : lget l key = none) :
    OpV P ⟨d, .lookup t x y true, ty, pos, af, g⟩ σ (.tu [cst zv, .v (.bool false)]) := opv_eq (opv_lookup_s (T := T) hx hb hy ht hk hz) (by rw [hg]; rfl)
/-- m[k], by itself -/
theorem opv_lookup1_s {d : Option Tmp} {kt et : TypeId} {zv : Value} {k : Nat} {l : List (List UInt8 × AV)} {key : List UInt8} (hx : opV σ x = some (.v (.map (some k)))) (hb : look σ.h k = some [smap l]) (hy : opV σ y = some (.v (.string (mkB key)))) (ht : look T.ty t = some (.map kt et)) (hk : look T.ty kt = some .string) (hz : look T.zr et = some zv) (hpz : (cst zv).isSl = false) :
    OpV P ⟨d, .lookup t x y false, ty, pos, af, g⟩ σ (match lget l key with | some u => u.rd | none => cst zv) := by
  refine opv_same (by cases lget l key with
    | none => exact cst_plain zv
    | some u => exact plain_rd u) fun F X a hs => ?_
  have e1 := opV_val hs (by simp [Op.operands]) hx
  have e2 := opV_val hs (by simp [Op.operands]) hy
  obtain ⟨g1, g2, es, ck, g3, g4, g5⟩ := (hs.box k _ hb).map
  have hut := T.tyOk _ _ ht
  have huk := T.tyOk _ _ hk
  obtain ⟨iz, hz1, hz2⟩ := T.zrOk _ _ hz
  have hfind := findNow_s key l es.toList 0 (by simpa using g4) (fun j e p hp he => (g5 j e (.string (mkB p.1), p.2) (by simp [hp]) (by simpa using he)).1)
  have hck := run_checkKey_s (P := P) (w := X.w) (b := es.isEmpty) (s := mkB key) huk
  rcases hfind with ⟨h1, h2, _⟩ | ⟨j, e, u, h1, h2, h3, h4, _⟩
  · refine ⟨zv, ?_, by rw [h1]; exact cst_rel X zv⟩
    simp only [execOp, e1, e2]
    refine run_val ?_
    simp [Instr.lookup, run_underlying hut, MapKept.run_getObj_map g3, hck, Instr.findKey, run_underlying huk, h2, zeroValue, typeInfo, hz1, hz2]
  · refine ⟨e.val, ?_, by rw [h3]; exact (g5 j e (.string (mkB key), u) (by simp [h1]) (by simpa using h2)).2.rd⟩
    simp only [execOp, e1, e2]
    refine run_val ?_
    simp [Instr.lookup, run_underlying hut, MapKept.run_getObj_map g3, hck, Instr.findKey, run_underlying huk, h4]
theorem eff_makemap_s {d : Nat} {o : Oper} {kt et : TypeId} (ho : o = ⟨some d, .makeMap t none, ty, pos, af, g⟩) (ht : look T.ty t = some (.map kt et)) (hk : look T.ty kt = some .string) (hd : Nat.ble (d + 1) σ.n = true) {R : AS → Prop} (hR : ∀ k, FreshK k σ.h → R ((σ.box k [smap []]).put d (.v (.map (some k))))) : EffOp P o σ R := eff_makemap ho hd hR
/-- m[k] = v -/
theorem eff_mapset_s {kt et : TypeId} {k : Nat} {l : List (List UInt8 × AV)} {key : List UInt8} {u : AV} (hx : opV σ x = some (.v (.map (some k)))) (hb : look σ.h k = some [smap l]) (hy : opV σ y = some (.v (.string (mkB key)))) (hz : opV σ z = some u) (ht : look T.ty t = some (.map kt et)) (hk : look T.ty kt = some .string) {R : AS → Prop} (hR : R (σ.setc k [smap (lset l key u.rd)])) :
    EffOp P ⟨none, .mapUpdate t x y z, ty, pos, af, g⟩ σ R := by
  intro F X a hs
  have e1 := rel_v (opV_rel' hs hx)
  have e2 := rel_v (opV_rel' hs hy)
  have e3 := (opV_rel' hs hz).rd
  obtain ⟨g1, g2, es, ck, g3, g4, g5⟩ := (hs.box k _ hb).map
  have hut := T.tyOk _ _ ht
  have huk := T.tyOk _ _ hk
  have hfind := findNow_s key l es.toList 0 (by simpa using g4) (fun j e p hp he => (g5 j e (.string (mkB p.1), p.2) (by simp [hp]) (by simpa using he)).1)
  have hck := run_checkKey_s (P := P) (w := X.w) (b := false) (s := mkB key) huk
  have hkl : k < X.w.heap.size := (Array.getElem?_eq_some_iff.1 g3).1
  have fin : ∀ (es' : Array MapEntry) (ck' : Nat), (execOp a.eval ⟨none, .mapUpdate t x y z, ty, pos, af, g⟩).run P X.w = .ok .skip { X.w with heap := X.w.heap.setIfInBounds k (.map es' ck') } → es'.size = (lset l key u.rd).length →
      (∀ (i : Nat) (e : MapEntry) p, ((lset l key u.rd).map fun p => (Value.string (mkB p.1), p.2))[i]? = some p → es'[i]? = some e → e.key = p.1 ∧ Rel X p.2 e.val) → Runs P ⟨none, .mapUpdate t x y z, ty, pos, af, g⟩ a X.w fun x w' => ∃ (X' : GW) (σ' : AS), X'.w = w' ∧ R σ' ∧ SimE F X' σ' (a.put none x).tmps ∧ Ext F X X' := by
    intro es' ck' hrun hsz hen
    obtain ⟨s1, s2⟩ := SimE.setm (l := l.map fun p => (Value.string (mkB p.1), p.2)) (l' := (lset l key u.rd).map fun p => (Value.string (mkB p.1), p.2)) (w' := { X.w with heap := X.w.heap.setIfInBounds k (.map es' ck') }) hs hb (fun c hc => by simp [Array.getElem?_setIfInBounds, Ne.symm hc]) (by simp) rfl rfl rfl ⟨es', ck', by simp [hkl], by simpa using hsz, hen⟩
    unfold Runs
    rw [hrun]
    exact ⟨_, _, rfl, hR, s1, s2⟩
  rcases hfind with ⟨h1, h2, h3⟩ | ⟨j, e, u0, h1, h2, h3, h4, h5⟩
  · refine fin (es.push { key := .string (mkB key), val := a.eval z, born := ck }) (ck + 1) ?_ (by rw [h3]; simp [g4]) (fun i e' p hp he => ?_)
    · simp only [execOp, e1, e2]
      simp [Instr.mapUpdate, run_underlying hut, MapKept.run_getObj_map g3, hck, Instr.findKey, run_underlying huk, h2, MapKept.run_setObj_map _ g3]
    · rw [h3, List.map_append] at hp
      by_cases hi : i < es.size
      · rw [List.getElem?_append_left (by simp at g4; simp; omega)] at hp
        rw [Array.getElem?_push, if_neg (by omega)] at he
        exact g5 i e' p hp he
      · have hie : i = es.size := by
          have := (Array.getElem?_eq_some_iff.1 he).1
          simp at this; omega
        rw [List.getElem?_append_right (by simp at g4; simp; omega)] at hp
        rw [hie] at hp he
        simp at g4 hp he
        rw [g4] at hp
        simp at hp
        subst hp he
        exact ⟨rfl, e3⟩
  · have hje : es.toList[j]? = some e := h2
    have hke := (g5 j e (.string (mkB key), u0) (by simp [h1]) (by simpa using h2)).1
    have hjl : j < es.size := by
      have := (List.getElem?_eq_some_iff.1 h2).1
      simpa using this
    refine fin (es.modify j fun e => { e with key := .string (mkB key), val := a.eval z }) ck ?_ (by rw [h5]; simp at g4 ⊢; exact g4) (fun i e' p hp he => ?_)
    · have hst : (Instr.keyThatStays (.string (mkB key)) (.string (mkB key))).run P X.w = .ok (.string (mkB key)) X.w := by
        exact MapKept.run_keyThatStays (d := .string) trivial
      have hkk : ((es[j]?).map (·.key)).getD (.string (mkB key)) = .string (mkB key) := by
        have : es[j]? = some e := by simpa using h2
        rw [this]; simpa using hke
      simp only [execOp, e1, e2]
      simp only [Nat.zero_add] at h4
      simp [Instr.mapUpdate, run_underlying hut, MapKept.run_getObj_map g3, hck, Instr.findKey, run_underlying huk, h4, hkk, hst, MapKept.run_setObj_map _ g3]
    · rw [h5, List.map_set] at hp
      rw [Array.getElem?_modify] at he
      by_cases hij : j = i
      · subst hij
        rw [if_pos rfl] at he
        rw [List.getElem?_set_self (by simp at g4; simp; omega)] at hp
        have h2' : es[j]? = some e := by simpa using h2
        rw [h2'] at he
        simp at he hp
        subst hp he
        exact ⟨rfl, e3⟩
      · rw [if_neg hij] at he
        rw [List.getElem?_set_ne hij] at hp
        exact g5 i e' p hp he
end
end Go.Proofs.Ytophpbihcfdkcaa
