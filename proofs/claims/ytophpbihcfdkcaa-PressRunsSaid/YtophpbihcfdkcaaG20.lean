/- The layer of abstract values: quotients, bytes of a text, structs by value. -/
import Derived.Test.YtophpbihcfdkcaaG19
import Derived.Laws.Tables
import Derived.Laws.AppendOwn
namespace Go.Proofs.Ytophpbihcfdkcaa
open Go.RowKit P
set_option linter.unusedSimpArgs false
set_option linter.unusedVariables false
section
variable {P : Program} {T : Tys P} {σ : AS} {d : Option Tmp} {t yt ty e : TypeId} {x y z : Operand} {pos : String} {af : Array Edge} {g : Option (Nat × Bool)}
theorem opv_quo_nn {op : BinOp} {k : IntKind} {a b : Int} (hx : opV σ x = some (.v (.int k a))) (hy : opV σ y = some (.v (.int k b))) (hop : op = .quo) (hk : k = .i64 ∨ k = .u64) (h : 0 ≤ a ∧ a ≤ 9223372036854775807 ∧ 0 < b) : OpV P ⟨d, .binOp op t x y yt, ty, pos, af, g⟩ σ (.v (.int k (a / b))) := by
  have hq := opv_quo (P := P) (d := d) (t := t) (yt := yt) (ty := ty) (pos := pos) (af := af) (g := g) hx hy hop (by omega)
  rw [Int.tdiv_eq_ediv_of_nonneg h.1] at hq
  have h1 : 0 ≤ a / b := Int.ediv_nonneg h.1 (by omega)
  have h2 : a / b ≤ a := Int.ediv_le_self b h.1
  have hw : k.wrap (a / b) = a / b := by
    rcases hk with rfl | rfl
    · rw [IntKind.wrap_i64]; omega
    · rw [IntKind.wrap_u64]; omega
  rwa [hw] at hq
theorem opv_quo_u {op : BinOp} {a b : Int} (hx : opV σ x = some (.v (.int .u64 a))) (hy : opV σ y = some (.v (.int .u64 b))) (hop : op = .quo) (h : 0 ≤ a ∧ a ≤ 18446744073709551615 ∧ 0 < b) : OpV P ⟨d, .binOp op t x y yt, ty, pos, af, g⟩ σ (.v (.int .u64 (a / b))) := by
  have hq := opv_quo (P := P) (d := d) (t := t) (yt := yt) (ty := ty) (pos := pos) (af := af) (g := g) hx hy hop (by omega)
  rw [Int.tdiv_eq_ediv_of_nonneg h.1] at hq
  have h1 : 0 ≤ a / b := Int.ediv_nonneg h.1 (by omega)
  have h2 : a / b ≤ a := Int.ediv_le_self b h.1
  have hw : IntKind.u64.wrap (a / b) = a / b := by rw [IntKind.wrap_u64]; omega
  rwa [hw] at hq
theorem opv_rem_nn {op : BinOp} {k : IntKind} {a b : Int} (hx : opV σ x = some (.v (.int k a))) (hy : opV σ y = some (.v (.int k b))) (hop : op = .rem) (h : 0 ≤ a ∧ 0 < b) : OpV P ⟨d, .binOp op t x y yt, ty, pos, af, g⟩ σ (.v (.int k (a % b))) := by
  have hq := opv_rem (P := P) (d := d) (t := t) (yt := yt) (ty := ty) (pos := pos) (af := af) (g := g) hx hy hop (by omega)
  rwa [Int.tmod_eq_emod_of_nonneg h.1] at hq
theorem opv_convu64 {t2 : TypeId} {k0 : IntKind} {n : Int} {d0 : TypeDesc} (hx : opV σ x = some (.v (.int k0 n))) (h0 : look T.ty t = some d0) (ht : look T.ty t2 = some (.int .u64)) (h : 0 ≤ n ∧ n ≤ 18446744073709551615) : OpV P ⟨d, .convert t t2 x, ty, pos, af, g⟩ σ (.v (.int .u64 n)) := by
  have hw : IntKind.u64.wrap n = n := by rw [IntKind.wrap_u64]; omega
  have := opv_conv_int (P := P) (T := T) (d := d) (ty := ty) (pos := pos) (af := af) (g := g) hx h0 ht
  rwa [hw] at this

/-- []byte(s) -/
theorem opv_str_bytes {t2 : TypeId} {s : ByteArray} (hx : opV σ x = some (.v (.string s))) (h0 : look T.ty t = some .string) (ht : look T.ty t2 = some (.slice e)) (he : look T.ty e = some (.int .u8)) : OpV P ⟨d, .convert t t2 x, ty, pos, af, g⟩ σ (.sl true 1 (byteA (bsOf s))) := by
  intro F X a hs
  have h1 := opV_val hs (by simp [Op.operands]) hx
  have hrun := run_bytes_of_string (P := P) X.w t t2 e s (T.tyOk _ _ h0) (T.tyOk _ _ ht) (T.tyOk _ _ he)
  have hge := grownCap_ge X.w s.size 0 e
  generalize hcap : grownCap X.w s.size 0 e = cap at hrun hge
  have hsz : (bytesRow s cap).size = cap := by
    have : s.data.size = s.size := rfl
    simp [bytesRow, this]; omega
  have hlen : (byteA (bsOf s)).length = s.size := by rw [byteA_length, ← size_bsOf]
  obtain ⟨X', k1, k2, k3, k4, k5⟩ := new_row (X := X) (F := F) (w' := X.w.drew.alloc (.cells (bytesRow s cap) e ((bytesRow s cap).size, (bytesRow s cap).size + 1))) (cells := bytesRow s cap) (el := e) (fr := ((bytesRow s cap).size, (bytesRow s cap).size + 1)) (sz := 1) (cap := cap) (rows := byteA (bsOf s)) rfl rfl rfl rfl hs.gb hs.fb
    (fun r hr => by obtain ⟨b, _, rfl⟩ := List.mem_map.1 hr; rfl) (by rw [hsz, Nat.mul_one]) (by rw [hlen]; exact hge) (fun i j r u hr hu => by
      simp only [byteA, List.getElem?_map, Option.map_eq_some_iff] at hr
      obtain ⟨b, hb, rfl⟩ := hr
      cases j with
      | succ j => simp at hu
      | zero =>
        simp at hu; subst hu
        refine ⟨_, ?_, .v _⟩
        have hi : i < s.data.size := by
          have := (List.getElem?_eq_some_iff.1 hb).1
          simpa [bsOf] using this
        simp only [Nat.mul_one, Nat.add_zero, bytesRow]
        rw [Array.getElem?_append_left (by simpa using hi), Array.getElem?_map]
        have hb' : s.data[i]? = some b := by
          have : (s.data.toList)[i]? = some b := hb
          rw [← this]; simp
        rw [hb']; rfl) (fun j _ h2 => by simp; omega)
  refine runs_value (x := .slice (some ⟨X.w.heap.size, 0, none⟩) s.size cap) (w' := X.w.drew.alloc (.cells (bytesRow s cap) e ((bytesRow s cap).size, (bytesRow s cap).size + 1))) ?_ ⟨X', k1, k2, k3, ?_, ?_⟩
  · simp only [execOp, h1]; exact run_val hrun
  · rw [hlen] at k4; exact k4
  · rw [hlen] at k5; exact k5

/-! ### Structs by value -/
def placesA (T : Tys P) : List Field → Option (List (Nat × Nat))
  | [] => some []
  | f :: fs => match look T.sz f.type with
    | some (n, _) => match placesA T fs with
      | some r => some ((f.offset, n) :: r)
      | none => none
    | none => none
def buildA (T : Tys P) (pl : List (Nat × Nat)) : List AV → List Nat → List AV → Option (List AV)
  | cs, [], [] => some cs
  | cs, i :: is, u :: us => match pl[i]? with
    | some (off, n) => match u.okc && Nat.beq u.cells.length n && Nat.ble (off + n) cs.length with
      | true => buildA T pl (splice cs off u.cells) is us
      | false => none
    | none => none
  | _, _, _ => none
theorem placesA_run : ∀ (fs : List Field) (pl : List (Nat × Nat)), placesA T fs = some pl → fs.mapM (fun f => (P.info? f.type).map fun i => (f.offset, i.size)) = some pl
  | [], pl, h => by simp only [placesA, Option.some.injEq] at h; subst h; rfl
  | f :: fs, pl, h => by
    simp only [placesA] at h
    split at h
    · rename_i n b hn
      split at h
      · rename_i r hr
        cases h
        obtain ⟨i, h1, h2, _⟩ := T.szOk _ _ _ hn
        simp [List.mapM_cons, h1, h2, placesA_run fs r hr]
      · cases h
    · cases h
theorem splice_get {cs us : List AV} {o j : Nat} (ho : o + us.length ≤ cs.length) : (splice cs o us)[j]? = if o ≤ j ∧ j < o + us.length then us[j - o]? else cs[j]? := by
  unfold splice
  by_cases h1 : j < o
  · rw [if_neg (by omega), List.append_assoc, List.getElem?_append_left (by simp; omega), List.getElem?_take_of_lt h1]
  · by_cases h2 : j < o + us.length
    · rw [if_pos ⟨by omega, h2⟩, List.append_assoc, List.getElem?_append_right (by simp; omega), List.getElem?_append_left (by simp; omega)]
      congr 1; simp; omega
    · rw [if_neg (by omega), List.getElem?_append_right (by simp; omega), List.getElem?_drop]
      congr 1; simp; omega
theorem splice_len {cs us : List AV} {o : Nat} (ho : o + us.length ≤ cs.length) : (splice cs o us).length = cs.length := by
  unfold splice; simp; omega
theorem fill_build {X : GW} (pl : List (Nat × Nat)) : ∀ (is : List Nat) (us : List AV) (xs : List Value) (cs cs' : List AV) (arr : Array Value), arr.size = cs.length → (∀ (j : Nat) u x, cs[j]? = some u → arr[j]? = some x → Rel X u x) →
    us.length = xs.length → (∀ (i : Nat) u x, us[i]? = some u → xs[i]? = some x → Rel X u x) → buildA T pl cs is us = some cs' → ∃ arr', Instr.fill (pl[·]?) arr (is.zip xs) = some arr' ∧ arr'.size = cs'.length ∧ ∀ (j : Nat) u x, cs'[j]? = some u → arr'[j]? = some x → Rel X u x
  | [], [], xs, cs, cs', arr, ha, hr, hl, hx, hb => by
    simp only [buildA, Option.some.injEq] at hb
    subst hb
    exact ⟨arr, by simp [Instr.fill], ha, hr⟩
  | [], u :: us, xs, cs, cs', arr, ha, hr, hl, hx, hb => by simp [buildA] at hb
  | i :: is, [], xs, cs, cs', arr, ha, hr, hl, hx, hb => by simp [buildA] at hb
  | i :: is, u :: us, [], cs, cs', arr, ha, hr, hl, hx, hb => by simp at hl
  | i :: is, u :: us, x :: xs, cs, cs', arr, ha, hr, hl, hx, hb => by
    simp only [buildA] at hb
    split at hb
    · rename_i off n hpl
      split at hb
      · rename_i hc
        simp only [Bool.and_eq_true] at hc
        have hn := Nat.eq_of_beq_eq_true hc.1.2
        have hle := Nat.le_of_ble_eq_true hc.2
        have hrx := hx 0 u x rfl rfl
        obtain ⟨g1, g2⟩ := rel_cells hrx (okc_agg hrx hc.1.1)
        obtain ⟨f1, f2, f3⟩ := foldl_set off x.cells.toList 0 arr (by simp; omega)
        have hfold : x.cells.zipIdx.foldl (fun cs (c, j) => cs.setIfInBounds (off + j) c) arr = (x.cells.toList.zipIdx 0).foldl (fun a p => a.setIfInBounds (off + p.2) p.1) arr := by
          rw [← Array.foldl_toList, Array.toList_zipIdx]
        obtain ⟨arr', k1, k2, k3⟩ := fill_build pl is us xs (splice cs off u.cells) cs' ((x.cells.toList.zipIdx 0).foldl (fun a p => a.setIfInBounds (off + p.2) p.1) arr) (by rw [f1, ha, splice_len (by omega)]) (fun j u' x' hu' hx' => by
            rw [splice_get (by omega)] at hu'
            split at hu'
            · rename_i hj
              have h2 := f2 (j - off) (by simp; omega)
              rw [show off + 0 + (j - off) = j by omega] at h2
              rw [h2] at hx'
              exact g2 (j - off) u' x' hu' (by simpa using hx')
            · rename_i hj
              rw [f3 j (by simp; omega)] at hx'
              exact hr j u' x' hu' hx') (by simpa using hl) (fun q u' x' hu' hx' => hx (q + 1) u' x' (by simpa using hu') (by simpa using hx')) hb
        refine ⟨arr', ?_, k2, k3⟩
        simp only [List.zip_cons_cons, Instr.fill, hpl]
        rw [if_neg (by simp; omega), hfold]
        exact k1
      · cases hb
    · cases hb
/-- A struct, by value. -/
theorem opv_build {ps : Array (Nat × Operand)} {fs : Array Field} {pl : List (Nat × Nat)} {zv : Value} {us cs : List AV} (ht : look T.ty t = some (.struct fs)) (hz : look T.zr t = some zv) (hp : placesA T fs.toList = some pl) (hx : opVs σ (ps.toList.map (·.2)) = some us) (hb : buildA T pl (zv.cells.toList.map .v) (ps.toList.map (·.1)) us = some cs) : OpV P ⟨d, .build t ps, ty, pos, af, g⟩ σ (.ag cs) := by
  refine opv_same (plain_ag cs) fun F X a hs => ?_
  obtain ⟨it, hi1, hi2⟩ := T.zrOk _ _ hz
  obtain ⟨g1, g2⟩ := opVs_get hx
  simp only [List.length_map] at g1
  have hmem : ∀ p ∈ ps.toList, p.2 ∈ (Op.build t ps).operands.toList := fun p hp => by simp only [Op.operands]; exact List.mem_map.2 ⟨p, hp, rfl⟩
  obtain ⟨arr', k1, k2, k3⟩ := fill_build (T := T) (X := X) pl (ps.toList.map (·.1)) us (ps.toList.map fun p => a.eval p.2) (zv.cells.toList.map .v) cs zv.cells (by simp) (fun j u x hu hx => by
      simp only [List.getElem?_map, Option.map_eq_some_iff] at hu
      obtain ⟨y, hy, rfl⟩ := hu
      have : some y = some x := hy.symm.trans (by simpa using hx)
      cases this; exact .v _) (by simp [g1]) (fun i u x hu hx => by
      simp only [List.getElem?_map, Option.map_eq_some_iff] at hx
      obtain ⟨p, hpq, rfl⟩ := hx
      obtain ⟨u', h1, h2⟩ := g2 i p.2 (by simp [List.getElem?_map, hpq])
      rw [hu] at h1; cases h1
      exact opV_rel hs (hmem p (List.mem_of_getElem? hpq)) h2) hb
  refine ⟨.agg arr', ?_, .ag cs arr' k2.symm k3⟩
  have hz2 : (ps.toList.map (·.1)).zip (ps.toList.map fun p => a.eval p.2) = (ps.map fun (i, x) => (i, a.eval x)).toList := by
    rw [Array.toList_map, List.zip_map']
  rw [hz2] at k1
  have hbt : P.built t (ps.map fun (i, x) => (i, a.eval x)).toList = some arr' := by
    simp only [Program.built, hi1, T.tyOk _ _ ht, hi2, placesA_run _ _ hp]
    simpa using k1
  simp only [execOp]
  exact run_val (run_build X.w t _ _ hbt)
/-! ### The state, told anew -/
theorem ar_norm {Q : Exit → AS → Prop} {ks : List It} {σ' : AS} (h : σ = σ') (hn : ARun P Q ks σ') : ARun P Q ks σ := h ▸ hn
theorem ar_endN {Q : Exit → AS → Prop} {ks : List It} {l : List Oper} {k : Nat} {σ' : AS} (K : List Nat) (hk : k = l.length) (hs : σ.keep K = σ') (h : ARun P Q ks σ') : ARun P Q (.o l k [] :: ks) σ := ar_endK K hk (hs ▸ h)
theorem ar_retN {Q : Exit → AS → Prop} {ks : List It} {σ' : AS} (K : List Nat) (hs : σ.keep K = σ') (h : Stk P Q ks .ret σ') : ARun P Q (.c .ret :: ks) σ := ar_retK K (hs ▸ h)
theorem ar_retN0 {Q : Exit → AS → Prop} {ks : List It} {σ' : AS} (K : List Nat) (hs : (σ.keep K) = σ') (h : Stk P Q ks .ret ⟨σ'.n, σ'.t, [], []⟩) : ARun P Q (.c .ret :: ks) σ := ar_retK0 K (hs ▸ h)
theorem arE {Q : Exit → AS → Prop} {ks : List It} {l : List Oper} {k : Nat} (h : ARun P Q (.o l k [] :: ks) σ) : ARun P Q (.o l k [] :: ks) σ := h
theorem eff_boxB {d : Nat} {el : TypeId} {u0 : AV} (hx : opV σ x = some u0) (hok : u0.okc = true) (hp : (u0.rd.cells.all fun u => (own1 (some u)).isNone) = true) (hd : Nat.ble (d + 1) σ.n = true) {R : AS → Prop} (hR : ∀ k, FreshK k σ.h → R ((σ.box k u0.rd.cells).put d (.v (.pointer (some ⟨k, 0, none⟩))))) : EffOp P ⟨some d, .box el x, ty, pos, af, g⟩ σ R :=
  eff_box hx hok (fun u hu => by have := List.all_eq_true.1 hp u hu; simpa using this) hd hR
/-- A piece of code by itself, that comes to its end in one of the states st y. -/
theorem ar_cutL {Q : Exit → AS → Prop} {ks : List It} {α : Type} {c c2 : Code} (st : α → AS) (Pr : α → Prop) (h1 : ARun P (fun e σ' => e = .normal ∧ ∃ y, Le σ' (st y) ∧ Pr y) [.c c] σ) (h2 : ∀ y, Pr y → ARun P Q (.c c2 :: ks) (st y)) : ARun P Q (.c c :: .c c2 :: ks) σ := by
  intro F X a hs hd
  refine wp_mono (h1 F X a hs hd) fun e a' w' hp => ?_
  obtain ⟨k1, X', σ', k2, ⟨k3, y, k4, k5⟩, k6, k7⟩ := hp
  subst k3
  exact ⟨k1, X', σ', k2, ar_le k4 (h2 y k5), k6, k7⟩
theorem ar_cutB {Q : Exit → AS → Prop} {ks : List It} {α : Type} {c c2 : Code} {b : Nat} (st : α → AS) (Pr : α → Prop) (h1 : ARun P (fun e σ' => e = .normal ∧ ∃ y, Le σ' (st y) ∧ Pr y) [.c c] σ) (h2 : ∀ y, Pr y → ARun P Q (.c c2 :: ks) (st y)) : ARun P Q (.c c :: .b b :: .c c2 :: ks) σ := by
  intro F X a hs hd
  refine wp_mono (h1 F X a hs hd) fun e a' w' hp => ?_
  obtain ⟨k1, X', σ', k2, ⟨k3, y, k4, k5⟩, k6, k7⟩ := hp
  subst k3
  exact ⟨k1, X', σ', k2, ar_le k4 (h2 y k5), k6, k7⟩
theorem cut_end {α : Type} {st : α → AS} {Pr : α → Prop} (y : α) (h : Le σ (st y)) (hp : Pr y) : ARun P (fun e σ' => e = .normal ∧ ∃ y, Le σ' (st y) ∧ Pr y) [] σ := ar_nil ⟨rfl, y, h, hp⟩
theorem freshK_ne {k a : Nat} {cs : List AV} {H : List (Nat × List AV)} (h : FreshK k ((a, cs) :: H)) : a ≠ k ∧ FreshK k H := ⟨h (a, cs) List.mem_cons_self, fun q hq => h q (List.mem_cons_of_mem _ hq)⟩
/-- An operation that leads from one state to another. -/
def EffTo (P : Program) (o : Oper) (σ σ' : AS) : Prop := ∀ R : AS → Prop, R σ' → EffOp P o σ R
theorem effTo_store_own {k o s sz by_ : Nat} {cs : List AV} {r : Root} {L : List (List AV)} (hx : opV σ x = some (.v (.pointer (some ⟨k, o, none⟩)))) (hr : rootOf σ s = some r) (ho : σ.own r = some (sz, L)) (hb : look (σ.lay r).h k = some cs) (hz : look T.sz t = some (1, by_)) (hl : Nat.ble (o + 1) cs.length = true) (hm : isMpB cs = false) :
    EffTo P ⟨none, .store t x (.tmp s), ty, pos, af, g⟩ σ ((σ.lay r).setc k (splice cs o [.sl true sz L])) := fun _ hR => eff_store_own (T := T) hx hr ho hb hz hl hR hm
theorem effk (o : Oper) {σ' : AS} (h : EffTo P o σ σ') : EffTo P o σ σ' := h
end
end Go.Proofs.Ytophpbihcfdkcaa
