/- The contract of strings.Join. The first part is laid by the kit's own tools (lay-shelf.mjs, lay-plain.mjs) over this seat's program. -/
import Derived.Shelf.Strings.OnBuilder
import Derived.Test.YtgmlkhfjhogdbaaRPA
namespace Go.Proofs.Ytgmlkhfjhogdbaa
open Go.Shelf
def Try.lays156_ren : Go.Shelf.Ren := ⟨fun | 156 => 18 | 165 => 28 | 166 => 29 | 169 => 30 | 240 => 44 | 241 => 45 | 276 => 55 | 277 => 56 | n => n, fun | 31 => 38 | 9 => 9 | 3 => 3 | 4 => 4 | 0 => 0 | 20 => 20 | 72 => 73 | 76 => 77 | 70 => 70 | 37 => 71 | 75 => 76 | 127 => 90 | 164 => 110 | 5 => 5 | 80 => 79 | n => n, fun | n => n⟩
theorem Try.lays156 : Go.Proofs.Lays.n156 Try.prog Try.lays156_ren := {
  mixed := by kernel_rfl
  f156 := Try.func18.trans (congrArg some (by kernel_rfl))
  f165 := Try.func28.trans (congrArg some (by kernel_rfl))
  f166 := Try.func29.trans (congrArg some (by kernel_rfl))
  f169 := Try.func30.trans (congrArg some (by kernel_rfl))
  f240 := Try.func44.trans (congrArg some (by kernel_rfl))
  f241 := Try.func45.trans (congrArg some (by kernel_rfl))
  f276 := Try.func55.trans (congrArg some (by kernel_rfl))
  f277 := Try.func56.trans (congrArg some (by kernel_rfl))
  t0 := Try.underlying0
  a0 := Try.isAgg0
  z0 := Try.sizeOf0
  v0 := Try.zeroValue0
  t3 := Try.underlying3
  a3 := Try.isAgg3
  z3 := Try.sizeOf3
  v3 := Try.zeroValue3
  t4 := Try.underlying4
  a4 := Try.isAgg4
  z4 := Try.sizeOf4
  v4 := Try.zeroValue4
  t9 := Try.underlying9
  a9 := Try.isAgg9
  z9 := Try.sizeOf9
  v9 := Try.zeroValue9
  t20 := Try.underlying20
  a20 := Try.isAgg20
  z20 := Try.sizeOf20
  v20 := Try.zeroValue20
  t31 := Try.underlying38
  a31 := Try.isAgg38
  z31 := Try.sizeOf38
  v31 := Try.zeroValue38
  t37 := Try.underlying71
  a37 := Try.isAgg71
  z37 := Try.sizeOf71
  v37 := Try.zeroValue71
  t70 := Try.underlying70
  a70 := Try.isAgg70
  z70 := Try.sizeOf70
  v70 := Try.zeroValue70
  t72 := Try.underlying73
  a72 := Try.isAgg73
  z72 := Try.sizeOf73
  v72 := Try.zeroValue73
  t75 := Try.underlying76
  a75 := Try.isAgg76
  z75 := Try.sizeOf76
  v75 := Try.zeroValue76
  t76 := Try.underlying77
  a76 := Try.isAgg77
  z76 := Try.sizeOf77
  v76 := Try.zeroValue77
  t127 := Try.underlying90
  a127 := Try.isAgg90
  z127 := Try.sizeOf90
  v127 := Try.zeroValue90
  t164 := Try.underlying110
  a164 := Try.isAgg110
  z164 := Try.sizeOf110
  v164 := Try.zeroValue110 }
theorem Try.Builder_Extra_156 : Builder.Extra Try.prog Try.lays156_ren := {
  sizeBuilder := by kernel_rfl
  liesBuilder := by kernel_rfl
  t5 := Try.underlying5
  a5 := Try.isAgg5
  z5 := Try.sizeOf5
  v5 := Try.zeroValue5
  infoByte := by kernel_rfl
  cellsByte := by kernel_rfl
  sizeByte := by kernel_rfl
  neB5 := by decide }
open Go.RowKit in
/-- No element: the empty string; the world is as it was. (Whatever the slice's address and capacity: a nil slice too.) (LAID: no walk: one application.) -/
theorem Try.strings_Join_none (a : Option Addr) (c : Nat) (sep : ByteArray) (w : World) :
    Calls Try.prog 18 #[.slice a 0 c, .string sep] w fun e w' => e = .returned (.string ⟨#[]⟩) ∧ w' = w := Any.strings_Join_none Try.lays156 Try.Builder_Extra_156 a c sep w
open Go.RowKit in
/-- strings.Join: "Join concatenates the elements of its first argument to create a single string. The separator string sep is placed between elements in the resulting string.": HOWEVER MANY ELEMENTS. Below the heap's end the world is as it was. (LAID: no walk: one application.) -/
theorem Try.strings_Join (bk o c : Nat) (xs : List ByteArray) (sep : ByteArray) (w : World) (hcells : ∀ (j : Nat) x, xs[j]? = some x → w.cell? ⟨bk, o + j, none⟩ = some (.string x)) (hbk : bk < w.heap.size) (hN : xs.length ≤ 140737488355328) (hcap : xs.length ≤ c) (hlen : (Lib.join (xs.map (·.data.toList)) sep.data.toList).length ≤ 140737488355328) :
    Calls Try.prog 18 #[.slice (some ⟨bk, o, none⟩) xs.length c, .string sep] w fun e w' => e = .returned (.string ⟨(Lib.join (xs.map (·.data.toList)) sep.data.toList).toArray⟩) ∧ Below w.heap.size w w' := Any.strings_Join Try.lays156 Try.Builder_Extra_156 bk o c xs sep w hcells hbk hN hcap hlen
set_option linter.unusedVariables false
set_option linter.unusedSimpArgs false
open Go.RowKit P in
/-- A contract over worlds that hands back a plain value, of arguments as they are read. -/
theorem acalls_quiet {P : Program} {f : FuncId} {us : List AV} {v : Value} (hf : FnOk P f) (h : ∀ F X xs, SimE F X ⟨us.length, slotsOf 0 us, [], []⟩ xs → Calls P f xs X.w fun e w' => e = .returned v ∧ Below X.w.heap.size X.w w') : ACalls P f us [] (fun out H => out = .ret (.v v) ∧ H = []) := by
  refine ⟨hf, fun F X xs hs => ?_⟩
  refine (h F X xs hs).mono fun e w' ⟨he, hb⟩ => ?_
  have hn : New X ⟨w', X.g⟩ := ⟨hb.os, hb.tape, hb.output, hb.size, fun b hlt => ⟨hb.block b hlt, rfl⟩⟩
  have hgb : ∀ b n, X.g b = some n → b < w'.heap.size := fun b n hg => Nat.lt_of_lt_of_le (hs.gb b n hg) hb.size
  refine ⟨⟨w', X.g⟩, .ret (.v v), [], rfl, ⟨rfl, rfl⟩, ⟨v, he, ?_⟩, hn.ext hs.gb hs.fb⟩
  refine ⟨⟨rfl, hgb, fun b hF => Nat.lt_of_lt_of_le (hs.fb b hF) hb.size, fun t u hu => ?_, fun k cs hk => by simp [look_nil] at hk, fun x r hx => by simp [look_nil] at hx, fun r sz l ho => ?_, fun r r' sz l sz' l' a n c a' n' c' _ ho => ?_⟩, fun p hp => by cases hp⟩
  · simp only [look_cons, look_nil] at hu
    split at hu
    · rename_i e1; subst e1; cases hu; exact .v _
    · cases hu
  · cases r with
    | s t => obtain ⟨_, h2⟩ := own_one ho; cases h2
    | c k o => simp [AS.own, look_nil] at ho
  · cases r with
    | s t => obtain ⟨_, h2⟩ := own_one ho; cases h2
    | c k o => simp [AS.own, look_nil] at ho
open Go.RowKit P in
theorem join_a (l : List (List UInt8)) (sep : List UInt8) (hN : l.length ≤ 140737488355328) (hl : (Lib.join l sep).length ≤ 140737488355328) : ACalls Try.prog 18 [.sl false 1 (l.map fun s => [AV.v (.string (mkB s))]), .v (.string (mkB sep))] [] (fun out H => out = .ret (.v (.string (mkB (Lib.join l sep)))) ∧ H = []) := by
  refine acalls_quiet ⟨_, Try.func18, by kernel_rfl, by kernel_rfl⟩ fun F X xs hs => ?_
  have h2 : xs.size = 2 := hs.size
  have h0 := hs.slot 0 (.sl false 1 (l.map fun s => [AV.v (.string (mkB s))])) rfl
  have h1 := rel_v (hs.slot 1 (.v (.string (mkB sep))) rfl)
  have hx : xs = #[xs.getD 0 undef, .string (mkB sep)] := by
    apply Array.ext
    · simp [h2]
    · intro i hi _
      have : i = 0 ∨ i = 1 := by omega
      rcases this with rfl | rfl
      · simp [Array.getD_eq_getD_getElem?, hi]
      · simpa [Array.getD_eq_getD_getElem?, hi] using h1
  have hmb : ∀ z : List UInt8, (mkB z).data.toList = z := fun z => rfl
  generalize xs.getD 0 undef = v0 at h0 hx
  subst hx
  generalize hL : (l.map fun s => [AV.v (.string (mkB s))]) = L at h0
  cases h0 with
  | nl o sz a c =>
    have : l = [] := List.map_eq_nil_iff.1 hL
    subst this
    refine (Try.strings_Join_none a c (mkB sep) X.w).mono fun e w' ⟨h1, h2⟩ => ⟨h1, ?_⟩
    subst h2; exact Below.refl _ _
  | sl o sz l' b off cap n c hg hn hc hs2 hm hr =>
    have hlen : L.length = l.length := by rw [← hL]; simp
    have hmm : ((l.map mkB).map fun z : ByteArray => z.data.toList) = l := by
      rw [List.map_map]; exact (List.map_congr_left fun z _ => hmb z).trans (List.map_id _)
    have hcalls := Try.strings_Join b off cap (l.map mkB) (mkB sep) X.w (fun j x hj => by
      rw [List.getElem?_map] at hj
      cases hq : l[j]? with
      | none => rw [hq] at hj; cases hj
      | some z =>
        rw [hq] at hj; cases hj
        have h3 : L[j]? = some [AV.v (.string (mkB z))] := by rw [← hL]; simp [hq]
        have h4 := hm j 0 _ _ h3 rfl
        rw [rel_v (hr j 0 _ _ h3 rfl)] at h4
        simpa using h4) (hs.gb b n hg) (by simpa using hN) (by simpa [hlen] using hc) (by rw [hmm]; exact hl)
    rw [hmm] at hcalls
    have e1 : (l.map mkB).length = L.length := by rw [hlen, List.length_map]
    rw [e1] at hcalls
    exact hcalls
end Go.Proofs.Ytgmlkhfjhogdbaa
