/- The layer of abstract values: appending, reckoned; stores and loads whose box is looked for by a tactic; the set of rules that tells a state anew. -/
import Derived.Test.YtophpbihcfdkcaaG24
namespace Go.Proofs.Ytophpbihcfdkcaa
open Go.RowKit P
set_option linter.unusedSimpArgs false
set_option linter.unusedVariables false
section
variable {P : Program} {T : Tys P} {σ : AS} {d : Nat} {t t2 u yt ty e : TypeId} {x y z : Operand} {pos : String} {af : Array Edge} {g : Option (Nat × Bool)}

/-- What is appended, as rows. -/
def addE (sz : Nat) (v : AV) : Option (List (List AV) × Prop) :=
  match v with
  | .v (.string s) => if sz = 1 then some (byteA (bsOf s), True) else none
  | .v (.slice none 0 0) => some ([], True)
  | .sl _ sz' m => match Nat.beq sz' sz with
    | true => some (m, RowsOne m)
    | false => none
  | _ => none
theorem addE_ok {sz : Nat} {v : AV} {m : List (List AV)} {S : Prop} (hy : opV σ y = some v) (h : addE sz v = some (m, S)) (hS : S) : ∀ F X (a : Act), SimE F X σ a.tmps → ∃ c, AddsA P X sz m (a.eval y) c := by
  unfold addE at h
  split at h
  · split at h
    · rename_i hs; cases h; subst hs; exact adds_str hy
    · cases h
  · cases h; exact adds_nil hy
  · split at h
    · rename_i hb
      cases h
      have := Nat.eq_of_beq_eq_true hb
      subst this
      exact adds_sl hy hS
    · cases h
  · cases h
/-- append to a row that is owned. -/
theorem effTo_append {s : Nat} {r : Root} {sz by_ : Nat} {L m : List (List AV)} {du : TypeDesc} {v : AV} {S : Prop} (hr : rootOf σ s = some r) (ho : σ.own r = some (sz, L)) (ht : look T.ty t = some (.slice e)) (hu : look T.ty u = some du) (hnz : (match du with | .string => true | .slice _ => true | _ => false) = true) (hz : look T.sz e = some (sz, by_)) (hb : Nat.ble 1 by_ = true)
    (hy : opV σ y = some v) (hm : addE sz v = some (m, S)) (hd : Nat.ble (d + 1) σ.n = true) (hS : S) (hfit : (L.length + m.length) * by_ ≤ 140737488355328) :
    EffTo P ⟨some d, .call { callee := .builtin .append, args := #[.tmp s, y], argTypes := #[t, u] }, ty, pos, af, g⟩ σ ((σ.lay r).dropC.put d (.sl true sz (L ++ m))) := fun R hR =>
  eff_append (T := T) hr ho ht hu (by cases du <;> first | exact .inl rfl | exact .inr ⟨_, rfl⟩ | cases hnz) hz hb (addE_ok hy hm hS) hfit hd hR
theorem effTo_append_nil {sz by_ : Nat} {m : List (List AV)} {du : TypeDesc} {v : AV} {S : Prop} (hx : opV σ x = some (.v (.slice none 0 0))) (ht : look T.ty t = some (.slice e)) (hu : look T.ty u = some du) (hnz : (match du with | .string => true | .slice _ => true | _ => false) = true) (hz : look T.sz e = some (sz, by_)) (hb : Nat.ble 1 by_ = true)
    (hy : opV σ y = some v) (hm : addE sz v = some (m, S)) (hd : Nat.ble (d + 1) σ.n = true) (hS : S) (hfit : m.length * by_ ≤ 140737488355328) :
    EffTo P ⟨some d, .call { callee := .builtin .append, args := #[x, y], argTypes := #[t, u] }, ty, pos, af, g⟩ σ (σ.dropC.put d (.sl true sz m)) := fun R hR =>
  eff_append_nil (T := T) hx ht hu (by cases du <;> first | exact .inl rfl | exact .inr ⟨_, rfl⟩ | cases hnz) hz hb (addE_ok hy hm hS) hfit hd hR
/-- *p = v, of what owns nothing. -/
theorem effTo_store {k o n by_ : Nat} {cs : List AV} {u0 : AV} (hx : opV σ x = some (.v (.pointer (some ⟨k, o, none⟩)))) (hb : look σ.h k = some cs) (hy : opV σ y = some u0) (hok : u0.okc = true) (hz : look T.sz t = some (n, by_)) (hn : Nat.beq u0.rd.cells.length n = true) (h1 : u0.rd.cells.all AV.one = true) (hp : (u0.rd.cells.all fun u => (own1 (some u)).isNone) = true) (hl : Nat.ble (o + n) cs.length = true) (hm : isMpB cs = false) :
    EffTo P ⟨none, .store t x y, ty, pos, af, g⟩ σ (σ.setc k (splice cs o u0.rd.cells)) := fun R hR => eff_store (T := T) hx hb hy hok hz hn h1 (fun u hu => by have := List.all_eq_true.1 hp u hu; simpa using this) hl hR hm
end
attribute [go_sem] AS.keep AS.save keepT AS.put AS.mv AS.free AS.hand AS.alias AS.lay AS.dropC AS.box AS.setc splice rootOf firstAl AS.own own1 look_cons look_nil AV.rd cst List.filter_cons List.filter_nil List.filterMap_cons List.filterMap_nil Root.in Root.keepB List.contains_cons List.contains_nil List.elem_eq_contains Nat.beq_eq_true_eq Bool.and_true Bool.true_and Bool.false_and Bool.and_false Bool.or_true Bool.or_false Bool.true_or Bool.false_or Bool.not_true Bool.not_false Bool.false_eq_true if_true if_false ite_true ite_false beq_self_eq_true callSt layAll List.nil_append List.cons_append List.map_cons List.map_nil AV.cells List.take_succ_cons List.take_zero List.drop_succ_cons List.drop_zero List.length_cons List.length_nil Nat.zero_add List.take_nil List.drop_nil List.append_nil List.getElem?_cons_zero List.getElem?_cons_succ List.set_cons_zero List.set_cons_succ Value.cells bsOf_mkB bsOf_list bsOf_arr bsOf_nil Int.toNat_natCast Int.toNat_zero List.take_length List.drop_length List.take_take Nat.min_self decide_true decide_false List.length_append byteA_length List.getElem_toArray List.getElem_cons_zero List.getElem_cons_succ Nat.add_zero List.getD_cons_zero AppIn.r
end Go.Proofs.Ytophpbihcfdkcaa
