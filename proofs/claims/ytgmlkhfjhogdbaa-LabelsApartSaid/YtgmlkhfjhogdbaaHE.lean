/- Typed abstract values: every operation that turns nothing. -/
import Derived.Test.YtgmlkhfjhogdbaaHD
import Derived.Test.YtgmlkhfjhogdbaaMK
import Derived.Laws.StructEq
namespace Go.Proofs.Ytgmlkhfjhogdbaa
open Go.RowKit P
set_option linter.unusedSimpArgs false
set_option linter.unusedVariables false

/-! ### Structs, compared -/
def tyB : Option TypeDesc → Ty → Bool
  | some (.int k), .int k' => k == k' && notU8 k
  | some (.int .u8), .byte => true
  | some .bool, .bool => true
  | some .string, .str => true
  | _, _ => false
def fieldsB {P : Program} (Y : Tys P) : List Field → Nat → List Ty → Bool
  | [], _, [] => true
  | f :: fs, k, t :: ts => f.name != "_" && Nat.beq f.offset k && tyB (look Y.ty f.type) t && fieldsB Y fs (k + 1) ts
  | _, _, _ => false
structure EqOk (P : Program) (Y : Tys P) (t : TypeId) (ts : List Ty) : Prop where
  ht : P.underlying t = some (.struct (P.fieldsOf t))
  hp : P.stoodInHeld t = false
  hg : P.eqGuardType P.depth t = false
  hf : fieldsB Y (P.fieldsOf t).toList 0 ts = true
theorem rel_atom {E : Enc} {ρ : Nat → Nat} {t : Ty} {x : TA E.T} {a : Den E.T t} {X : GW} {v : Value} (h : asD t x = some a) (hr : Rel X (x.to E ρ) v) : Rel X (one E t a) v := by
  have h1 := hr.rd
  rw [← TA.rd_to] at h1
  exact (asD_to E ρ h).rel h1
theorem run_eqS {P : Program} (d : Nat) (ft : TypeId) (a b : List UInt8) (w : World) (hu : P.underlying ft = some .string) : (Op.equalIn (d + 1) ft (.string (mkB a)) (.string (mkB b))).run P w = .ok (beqS a b) w := by
  have := run_equalIn_string (P := P) w d ft (mkB a) (mkB b) hu
  rw [toList_bs, toList_bs, bsOf_mkB, bsOf_mkB] at this
  have e : (a == b) = beqS a b := by
    unfold beqS
    by_cases e : a = b <;> simp [e]
  rw [e] at this
  exact this
theorem eqA_run {P : Program} {Y : Tys P} {E : Enc} {ρ : Nat → Nat} {t : Ty} {ft : TypeId} {x y : TA E.T} {p : Bool} {X : GW} {v v' : Value} (d : Nat) (w : World) (ht : tyB (look Y.ty ft) t = true) (h : eqA t x y = some p) (hx : Rel X (x.to E ρ) v) (hy : Rel X (y.to E ρ) v') : (Op.equalIn (d + 1) ft v v').run P w = .ok p w ∧ oneB ((look Y.ty ft).getD .bool) = true := by
  cases hft : look Y.ty ft with
  | none => rw [hft] at ht; cases t <;> cases ht
  | some ds =>
    rw [hft] at ht
    have hu := Y.tyOk _ _ hft
    cases t with
    | int k =>
      cases ds with
      | int k' =>
        simp only [eqA] at h
        split at h
        · rename_i a b ha hb
          cases h
          obtain rfl := rel_v (rel_atom ha hx)
          obtain rfl := rel_v (rel_atom hb hy)
          exact ⟨run_equalIn_int w d ft k k' a b hu, rfl⟩
        · cases h
      | _ => cases ht
    | byte =>
      cases ds with
      | int k' =>
        simp only [eqA] at h
        split at h
        · rename_i a b ha hb
          cases h
          obtain rfl := rel_v (rel_atom ha hx)
          obtain rfl := rel_v (rel_atom hb hy)
          exact ⟨run_equalIn_int w d ft .u8 k' _ _ hu, rfl⟩
        · cases h
      | _ => cases ht
    | bool =>
      cases ds with
      | bool =>
        simp only [eqA] at h
        split at h
        · rename_i a b ha hb
          cases h
          obtain rfl := rel_v (rel_atom ha hx)
          obtain rfl := rel_v (rel_atom hb hy)
          exact ⟨run_equalIn_bool' w d ft a b hu, rfl⟩
        · cases h
      | _ => cases ht
    | str =>
      cases ds with
      | string =>
        simp only [eqA] at h
        split at h
        · rename_i a b ha hb
          cases h
          obtain rfl := rel_v (rel_atom ha hx)
          obtain rfl := rel_v (rel_atom hb hy)
          exact ⟨run_eqS d ft a b w hu, rfl⟩
        · cases h
      | _ => cases ht
    | _ => cases ds <;> cases ht
theorem run_partB {P : Program} {t : TypeId} {ds : TypeDesc} {cs : Array Value} {o : Nat} {v : Value} {w : World} (hu : P.underlying t = some ds) (h1 : oneB ds = true) (hv : cs[o]? = some v) : (part t cs o).run P w = .ok v w := by
  cases ds <;> simp [oneB] at h1 <;> simp [part, isAgg, run_underlying hu, hv]
theorem eqT_run {P : Program} {Y : Tys P} {E : Enc} {ρ : Nat → Nat} {X : GW} {xs ys : Array Value} (d : Nat) (w : World) : ∀ (fs : List Field) (k : Nat) (ts : List Ty) (a b : List (TA E.T)) (r : Bool), fieldsB Y fs k ts = true → eqT ts a b = some r → (∀ (i : Nat) u v, a[i]? = some u → xs[k + i]? = some v → Rel X (u.to E ρ) v) → (∀ (i : Nat) u v, b[i]? = some u → ys[k + i]? = some v → Rel X (u.to E ρ) v) → k + a.length ≤ xs.size → k + b.length ≤ ys.size →
    (Op.eqFields (d + 1) xs ys fs).run P w = .ok r w
  | [], k, ts, a, b, r, hf, h, hx, hy, h1, h2 => by
    cases ts with
    | nil => cases a with
      | nil => cases b with
        | nil => cases h; simp [Op.eqFields]
        | cons _ _ => cases h
      | cons _ _ => cases h
    | cons _ _ => cases hf
  | f :: fs, k, ts, a, b, r, hf, h, hx, hy, h1, h2 => by
    cases ts with
    | nil => cases hf
    | cons t ts =>
      cases a with
      | nil => cases h
      | cons u a =>
        cases b with
        | nil => cases h
        | cons u' b =>
          simp only [fieldsB, Bool.and_eq_true] at hf
          obtain ⟨⟨⟨f1, f2⟩, f3⟩, f4⟩ := hf
          simp only [eqT] at h
          split at h
          · rename_i p q hp hq
            cases h
            have hk1 : k < xs.size := by simp at h1; omega
            have hk2 : k < ys.size := by simp at h2; omega
            have e1 : xs[k]? = some xs[k] := Array.getElem?_eq_getElem hk1
            have e2 : ys[k]? = some ys[k] := Array.getElem?_eq_getElem hk2
            have r1 := hx 0 u xs[k] rfl e1
            have r2 := hy 0 u' ys[k] rfl e2
            have key := fun w => eqA_run (P := P) (Y := Y) d w f3 hp r1 r2
            cases hft : look Y.ty f.type with
            | none => rw [hft] at f3; cases t <;> cases f3
            | some ds =>
              have ho : oneB ds = true := by have := (key w).2; rw [hft] at this; exact this
              have hu := Y.tyOk _ _ hft
              have hoff := beq_of f2
              have hn : f.name ≠ "_" := by simpa using f1
              have ih := eqT_run (P := P) (Y := Y) (E := E) (ρ := ρ) (X := X) (xs := xs) (ys := ys) d w fs (k + 1) ts a b q f4 hq (fun i v x hv hx' => hx (i + 1) v x (by simpa using hv) (by rw [← hx']; congr 1; omega)) (fun i v x hv hx' => hy (i + 1) v x (by simpa using hv) (by rw [← hx']; congr 1; omega)) (by simp at h1; omega) (by simp at h2; omega)
              have p1 := fun w => run_partB (P := P) (w := w) hu ho e1
              have p2 := fun w => run_partB (P := P) (w := w) hu ho e2
              simp only [Op.eqFields, hn, ne_eq, not_false_eq_true, if_true, Sem.run_bind, hoff, p1, p2, Result.andThen_ok, (key w).1]
              cases p with
              | true => simp [ih]
              | false => simp
          · cases h
theorem opv_eqs {P : Program} {Y : Tys P} {E : Enc} {ρ : Nat → Nat} {σ : AS} {dd : Option Tmp} {t yt ty : TypeId} {x y : Operand} {pos : String} {af : Array Edge} {g : Option (Nat × Bool)} {ts : List Ty} {a b : List (TA E.T)} {r : Bool} (hq : EqOk P Y t ts) (hx : opV σ x = some (.ag (a.map (TA.to E ρ)))) (hy : opV σ y = some (.ag (b.map (TA.to E ρ)))) (h : eqT ts a b = some r) :
    OpV P ⟨dd, .binOp .neq t x y yt, ty, pos, af, g⟩ σ (.v (.bool (!r))) ∧ OpV P ⟨dd, .binOp .eql t x y yt, ty, pos, af, g⟩ σ (.v (.bool r)) := by
  have key : ∀ {X : GW} {v v' : Value} (w : World), Rel X (.ag (a.map (TA.to E ρ))) v → Rel X (.ag (b.map (TA.to E ρ))) v' → ∃ xs ys, v = .agg xs ∧ v' = .agg ys ∧ (Op.equalIn 10000 t (.agg xs) (.agg ys)).run P w = .ok r w := by
    intro X v v' w h1 h2
    cases h1 with
    | ag _ xs hl hr =>
      cases h2 with
      | ag _ ys hl' hr' =>
        refine ⟨xs, ys, rfl, rfl, ?_⟩
        rw [run_equalIn_agg w 9999 t xs ys hq.ht hq.hp]
        refine eqT_run (Y := Y) (E := E) (ρ := ρ) (X := X) 9998 w _ 0 ts a b r hq.hf h (fun i u v hu hv => hr i _ v (by simp [hu]) (by simpa using hv)) (fun i u v hu hv => hr' i _ v (by simp [hu]) (by simpa using hv)) (by simp at hl; omega) (by simp at hl'; omega)
  constructor
  · refine opv_same rfl fun F X ac hs => ⟨_, ?_, .v _⟩
    obtain ⟨xs, ys, e1, e2, e3⟩ := key X.w (opV_rel hs (by simp [Op.operands]) hx) (opV_rel hs (by simp [Op.operands]) hy)
    simp only [execOp, e1, e2]
    refine run_val ?_
    simp [run_eqGuard_agg, hq.hg, run_neq_struct, e3]
  · refine opv_same rfl fun F X ac hs => ⟨_, ?_, .v _⟩
    obtain ⟨xs, ys, e1, e2, e3⟩ := key X.w (opV_rel hs (by simp [Op.operands]) hx) (opV_rel hs (by simp [Op.operands]) hy)
    simp only [execOp, e1, e2]
    refine run_val ?_
    simp [run_eqGuard_agg, hq.hg, run_eql_struct, e3]
/-- A callee that is handed boxes does as is told of it. -/
def XR.ok {E : Env} (P : Program) (f : FuncId) (us : List (TV E.T)) (hs : List (Nat × TB E.T)) : XR E.T → Prop
  | .bad => True
  | .ret o ids u h => ∀ z, o = some z → (h z).map (·.1) = ids ∧ ∀ ρ, Inj ρ hs → ACalls P f (us.map (TV.to E.toEnc ρ)) (hTo E.toEnc ρ (keepHH hs ids)) fun out H => out = .ret ((u z).to E.toEnc ρ) ∧ H = hTo E.toEnc ρ (h z)
  | .may o ids u h => ∀ p, o = some p → (∀ z, p = .ok z → (h z).map (·.1) = ids) ∧ ∀ ρ, Inj ρ hs → ACalls P f (us.map (TV.to E.toEnc ρ)) (hTo E.toEnc ρ (keepHH hs ids)) fun out H => match p with
    | .ok z => out = .ret ((u z).to E.toEnc ρ) ∧ H = hTo E.toEnc ρ (h z)
    | .pan v => out = .pan v
def XOk (P : Program) (E : Env) (f : FuncId) (hd : List (TV E.T) → List (Nat × TB E.T) → XR E.T) : Prop := ∀ us hs, (hd us hs).ok P f us hs
/-- Callees do as is told of them. -/
structure GOk (P : Program) (Y : Tys P) (E : Env) (G : Gam E) : Prop where
  f : ∀ p ∈ G.f, ∀ us, (p.2 us).ok fun u => ∀ ρ, ACalls P p.1 (us.map (TV.to E.toEnc ρ)) [] (fun out H => out = .ret (u.to E.toEnc ρ) ∧ H = [])
  q : ∀ p ∈ G.q, EqOk P Y p.1 p.2
  x : ∀ p ∈ G.x, XOk P E p.1 p.2
theorem GOk.nil {P : Program} {Y : Tys P} {E : Env} {q : List (Nat × List Ty)} {mu : List Nat} (hq : ∀ p ∈ q, EqOk P Y p.1 p.2) : GOk P Y E ⟨[], q, [], mu⟩ := ⟨(fun p hp => by cases hp), hq, (fun p hp => by cases hp)⟩
theorem GOk.cons {P : Program} {Y : Tys P} {E : Env} {G : List ((_ : Nat) × (List (TV E.T) → PV E.T))} {q : List (Nat × List Ty)} {x : List ((_ : Nat) × (List (TV E.T) → List (Nat × TB E.T) → XR E.T))} {f : Nat} {h : List (TV E.T) → PV E.T} (hf : ∀ us, (h us).ok fun u => ∀ ρ, ACalls P f (us.map (TV.to E.toEnc ρ)) [] (fun out H => out = .ret (u.to E.toEnc ρ) ∧ H = [])) {mu : List Nat} (hG : GOk P Y E ⟨G, q, x, mu⟩) : GOk P Y E ⟨⟨f, h⟩ :: G, q, x, mu⟩ := ⟨fun p hp => by
  rcases List.mem_cons.1 hp with rfl | hp
  · exact hf
  · exact hG.f p hp, hG.q, hG.x⟩
theorem GOk.consx {P : Program} {Y : Tys P} {E : Env} {G : List ((_ : Nat) × (List (TV E.T) → PV E.T))} {q : List (Nat × List Ty)} {x : List ((_ : Nat) × (List (TV E.T) → List (Nat × TB E.T) → XR E.T))} {f : Nat} {h : List (TV E.T) → List (Nat × TB E.T) → XR E.T} (hf : XOk P E f h) {mu : List Nat} (hG : GOk P Y E ⟨G, q, x, mu⟩) : GOk P Y E ⟨G, q, ⟨f, h⟩ :: x, mu⟩ := ⟨hG.f, hG.q, fun p hp => by
  rcases List.mem_cons.1 hp with rfl | hp
  · exact hf
  · exact hG.x p hp⟩
theorem xRun_ok {P : Program} {E : Env} : ∀ {l : List ((_ : Nat) × (List (TV E.T) → List (Nat × TB E.T) → XR E.T))}, (∀ p ∈ l, XOk P E p.1 p.2) → ∀ f us hs, (xRun l f us hs).ok P f us hs
  | [], _, _, _, _ => trivial
  | ⟨k, h⟩ :: r, hl, f, us, hs => by
    simp only [xRun]
    have ih := xRun_ok (fun p hp => hl p (List.mem_cons_of_mem _ hp)) f us hs
    split
    · rename_i e
      have e' := Nat.eq_of_beq_eq_true e
      subst e'
      have h1 := hl _ List.mem_cons_self us hs
      split
      · exact ih
      · exact h1
    · exact ih
section
variable {P : Program} {Y : Tys P} {E : Env} {G : Gam E} {ρ : Nat → Nat} {σ : TS E.T} {d : Option Tmp} {t t2 yt ty e : TypeId} {x y z : Operand} {pos : String} {af : Array Edge} {g : Option (Nat × Bool)}
theorem look_box (hi : Inj ρ σ.h) {k : Nat} {cs : List (TA E.T)} (h : look σ.h k = some (.cs cs)) : look (σ.to E.toEnc ρ).h (ρ k) = some (cs.map (TA.to E.toEnc ρ)) := look_hTo E.toEnc hi h
theorem opv_load_c (hi : Inj ρ σ.h) {k o : Nat} {cs : List (TA E.T)} {c : TA E.T} {dsc : TypeDesc} (hx : opT σ x = some (.a (.box k o))) (h0 : look Y.ty t = some dsc) (h1 : oneB dsc = true) (hb : look σ.h k = some (.cs cs)) (hc : cs[o]? = some c) :
    OpV P ⟨d, .load t x, ty, pos, af, g⟩ (σ.to E.toEnc ρ) ((TV.a c.rd).to E.toEnc ρ) := by
  have hx' := opT_to (ρ := ρ) hx
  simp only [TV.to, TA.rd_to]
  exact opv_load_box (T := Y) hx' (look_box hi hb) (by simp [hc]) h0 h1 (TA.to_notMp _ _ _)
theorem opv_fnv {σ : AS} {o : Oper} {f : FuncId} (h : OpV P o σ (.v (.func (.func f) #[] #[]))) : OpV P o σ (.fn f []) := fun F X a hs => (h F X a hs).mono fun x w' ⟨X', h1, h2, h3, h4, h5⟩ => by
  have := rel_v h4
  subst this
  exact ⟨X', h1, h2, h3, .fn f [] #[] rfl (fun i u x hu hx => by simp at hu), FreshOk.plain rfl⟩
theorem opv_field {P : Program} {T : Tys P} {σ : AS} {d : Option Tmp} {t ty : TypeId} {x : Operand} {pos : String} {af : Array Edge} {g : Option (Nat × Bool)} {fs : Array Field} {f : Field} {i : Nat} {cs : List AV} {dsc : TypeDesc} {c : AV} (hx : opV σ x = some (.ag cs)) (h0 : look T.ty t = some (.struct fs)) (hf : fs[i]? = some f) (h1 : look T.ty f.type = some dsc) (ho : oneB dsc = true) (hc : cs[f.offset]? = some c) : OpV P ⟨d, .field t x i, ty, pos, af, g⟩ σ c.rd := by
  refine opv_same (plain_rd c) fun F X ac hs => ?_
  have e1 := opV_rel hs (by simp [Op.operands]) hx
  have hu := T.tyOk _ _ h0
  have hu1 := T.tyOk _ _ h1
  generalize hv : ac.eval x = v at e1
  cases e1 with
  | ag _ xs hl hr =>
    have hlt : f.offset < xs.size := by rw [← hl]; exact (List.getElem?_eq_some_iff.1 hc).1
    have hxs : xs[f.offset]? = some xs[f.offset] := Array.getElem?_eq_getElem hlt
    refine ⟨xs[f.offset], ?_, (hr _ _ _ hc hxs).rd⟩
    simp only [execOp, hv]
    refine run_val ?_
    simp [Instr.field, run_underlying hu, hf, asAgg, run_partB hu1 ho hxs]
theorem zeroM_to {E : Enc} {t : Ty} {v : Value} {z : Den E.T t} (h : zeroM t v = some z) : cst v = one E t z ∧ (cst v).isSl = false := by
  unfold zeroM at h
  split at h
  · rename_i k k' n
    split at h
    · rename_i hk
      have := of_decide_eq_true hk
      subst this
      cases h
      exact ⟨rfl, rfl⟩
    · cases h
  · cases h; exact ⟨rfl, rfl⟩
  · rename_i s
    cases h
    refine ⟨?_, rfl⟩
    show AV.v (.string s) = AV.v (.string (mkB s.data.toList))
    rw [show s.data.toList = bsOf s from rfl, mkB_bsOf]
  · cases h
theorem evP0_ok (hi : Inj ρ σ.h) (hG : GOk P Y E G) (op : Op) : (evP0 Y E G σ op ty).ok fun u => OpV P ⟨d, op, ty, pos, af, g⟩ (σ.to E.toEnc ρ) (u.to E.toEnc ρ) := by
  unfold evP0
  split
  · rename_i f
    exact opv_fnv (opv_move_rd (u := .v (.func (.func f) #[] #[])) rfl (.inl rfl))
  · rename_i f
    exact opv_fnv (opv_move_rd (u := .v (.func (.func f) #[] #[])) rfl (.inr rfl))
  · split
    · rename_i u hu
      refine opv_le (u := (u.to E.toEnc ρ).rd) (opv_move_rd (opT_to hu) (.inl rfl)) ?_
      rw [← TV.rd_to]; exact nilFix_to _ _
    · trivial
  · split
    · rename_i u hu
      refine opv_le (u := (u.to E.toEnc ρ).rd) (opv_move_rd (opT_to hu) (.inr rfl)) ?_
      rw [← TV.rd_to]; exact nilFix_to _ _
    · trivial
  · rename_i op t x y yt
    split
    · rename_i a b hx hy
      unfold evEq
      split
      · rename_i ts hts
        have hq := hG.q _ (look_mem hts)
        split
        · rename_i r hr; exact (opv_eqs hq (opT_to (ρ := ρ) hx) (opT_to (ρ := ρ) hy) hr).2
        · rename_i r hr; exact (opv_eqs hq (opT_to (ρ := ρ) hx) (opT_to (ρ := ρ) hy) hr).1
        · trivial
      · trivial
    · exact evBin_ok
  · split
    · rename_i b hb; exact opv_not (opT_to hb) rfl
    · rename_i hb; exact opv_not (b := true) (opT_to hb) rfl
    · rename_i hb; exact opv_not (b := false) (opT_to hb) rfl
    · trivial
  · split
    · rename_i k n hn
      simp only [PV.ok, mkI_wrap]
      exact opv_neg (asI_to hn) rfl
    · trivial
  · split
    · rename_i k n hn
      simp only [PV.ok]
      rw [mkI_to _ _ (fun h => by subst h; exact bits8 _ (.inr (.inr rfl)) _ _)]
      exact opv_uxor (asI_to hn) rfl
    · trivial
  · exact evConv_ok
  · split
    · rename_i us hu
      split
      · rename_i u hq
        simp only [PV.ok, TV.to, TA.rd_to]
        exact opv_extract (opT_to (ρ := ρ) hu) (u := u.to E.toEnc ρ) (by simp only [List.getElem?_map, hq]; rfl)
      · rename_i l hq
        exact opv_extract (opT_to (ρ := ρ) hu) (u := .ag (l.map (TA.to E.toEnc ρ))) (by simp only [List.getElem?_map, hq]; rfl)
      · trivial
    · trivial
  · split
    · rename_i s k i h0 hs hk
      intro b hb
      obtain ⟨h1, h2, h3⟩ := idxC_some hb
      have := opv_index_str (P := P) (T := Y) (d := d) (ty := ty) (pos := pos) (af := af) (g := g) (asS_to (ρ := ρ) hs) (asI_to hk) h0 h1 h2
      have e : (bsOf (mkB s)).getD i.toNat 0 = b := by rw [bsOf_mkB, List.getD_eq_getElem?_getD, h3]; rfl
      rw [e] at this
      exact this
    · trivial
  · split
    · rename_i h0
      split
      · rename_i s hs
        split
        · rename_i i j hl hh
          intro r hr
          obtain ⟨h1, h2, h3, rfl⟩ := subC_some hr
          exact opv_slice_str (T := Y) (k1 := .i64) (k2 := .i64) (asS_to hs) h0 (bndT_to hl) (bndT_to hh) h1 h2 h3
        · trivial
      · trivial
    · rename_i e h0
      split
      · rename_i ty' l hs
        split
        · rename_i sz by_ i j hsz hl hh
          split
          · rename_i hb
            intro r hr
            obtain ⟨h1, h2, h3, rfl⟩ := subC_some hr
            obtain ⟨o, ho⟩ := asL_to (ρ := ρ) hs
            have hsz' := beq_of hb
            subst hsz'
            have := opv_slice_sl (P := P) (T := Y) (k1 := .i64) (k2 := .i64) (d := d) (ty := ty) (pos := pos) (af := af) (g := g) ho h0 hsz (bndT_to hl) (by have := bndT_to (ρ := ρ) hh; simpa using this) h1 h2 (by simpa using h3)
            rw [← List.map_take, ← List.map_drop] at this
            exact this
          · trivial
        · trivial
      · trivial
    · trivial
  · split
    · rename_i e h0
      split
      · rename_i ty' l hs
        split
        · rename_i sz by_ i k2 j k3 m hsz hl hh hm
          split
          · rename_i hb
            intro r hr
            obtain ⟨h1, h2, h3, h4, rfl⟩ := sub3C_some hr
            obtain ⟨o, ho⟩ := asL_to (ρ := ρ) hs
            have hsz' := beq_of hb
            subst hsz'
            have := opv_slice3 (P := P) (T := Y) (k1 := .i64) (d := d) (ty := ty) (pos := pos) (af := af) (g := g) ho h0 hsz (bndT_to hl) (asI_to hh) (asI_to hm) h1 h2 h3 (by simpa using h4)
            rw [← List.map_take, ← List.map_drop] at this
            exact this
          · trivial
        · trivial
      · trivial
    · trivial
  · split
    · rename_i e ty' l k i h0 hs hk
      split
      · rename_i sz by_ hsz
        split
        · rename_i hb
          intro z hz
          obtain ⟨h1, h2, h3⟩ := idxC_some hz
          obtain ⟨o, ho⟩ := asL_to (ρ := ρ) hs
          have hsz' := beq_of hb
          subst hsz'
          have := opv_indexaddr (P := P) (T := Y) (d := d) (ty := ty) (pos := pos) (af := af) (g := g) ho (asI_to hk) h0 hsz h1 (by simpa using h2)
          have e : (l.map (cells E.toEnc ty')).getD i.toNat [] = (unpT E ty' z).map (TA.to E.toEnc ρ) := by
            rw [unpT_to, List.getD_eq_getElem?_getD, List.getElem?_map, h3]; rfl
          simp only [e] at this
          exact this
        · trivial
      · trivial
    · trivial
  · split
    · rename_i fs h0
      split
      · rename_i f hf
        split
        · rename_i fsz hz
          split
          · rename_i hp
            split
            · rename_i cs hx
              split
              · rename_i hl
                have := opv_field_el (P := P) (T := Y) (d := d) (ty := ty) (pos := pos) (af := af) (g := g) (cs := cs.map (TA.to E.toEnc ρ)) (opT_to (ρ := ρ) hx) h0 hf hz hp (by simpa using hl)
                rw [← List.map_drop] at this
                exact this
              · trivial
            · rename_i k o hx
              exact opv_field_box (T := Y) (opT_to hx) h0 hf hz hp
            · trivial
          · trivial
        · trivial
      · trivial
    · trivial
  · split
    · rename_i cs fs hx h0
      split
      · rename_i n by_ hz
        split
        · rename_i hl
          have := opv_load_els (P := P) (T := Y) (d := d) (ty := ty) (pos := pos) (af := af) (g := g) (cs := cs.map (TA.to E.toEnc ρ)) (opT_to (ρ := ρ) hx) h0 hz (by simpa using hl)
          rw [← List.map_take] at this
          exact this
        · trivial
      · trivial
    · rename_i c cs dsc hn hx h0
      split
      · rename_i h1
        have := opv_load_el (P := P) (T := Y) (d := d) (ty := ty) (pos := pos) (af := af) (g := g) (opT_to (ρ := ρ) hx) h0 h1
        simp only [PV.ok, TV.to, TA.rd_to]
        exact this
      · trivial
    · rename_i k o fs hx h0
      split
      · rename_i cs n by_ hb hz
        split
        · rename_i hl
          have := opv_load_boxr (P := P) (T := Y) (dd := d) (ty := ty) (pos := pos) (af := af) (g := g) (opT_to (ρ := ρ) hx) (look_box hi hb) h0 hz (by simpa using hl) (notMpB cs)
          have e : List.map AV.rd (((cs.map (TA.to E.toEnc ρ)).drop o).take n) = (((cs.drop o).take n).map TA.rd).map (TA.to E.toEnc ρ) := by
            rw [← List.map_drop, ← List.map_take, List.map_map, List.map_map]
            apply List.map_congr_left
            intro c _
            exact (TA.rd_to _ _ c).symm
          rw [e] at this
          exact this
        · trivial
      · trivial
    · rename_i k o dsc hn hx h0
      split
      · rename_i cs h1 hb
        split
        · rename_i c hc
          exact opv_load_c hi hx h0 h1 hb hc
        · trivial
      · trivial
    · trivial
  · split
    · rename_i fs zv h0 hz
      split
      · rename_i pl us hp hx
        split
        · rename_i cs hb
          have hb' := buildT_to (Y := Y) (ρ := ρ) hb
          have e : (zv.cells.toList.map atomT).map (TA.to E.toEnc ρ) = zv.cells.toList.map AV.v := by
            rw [List.map_map]; apply List.map_congr_left; intro c _; exact atomT_to _ _ c
          rw [e] at hb'
          have := opv_build (P := P) (T := Y) (d := d) (ty := ty) (pos := pos) (af := af) (g := g) h0 hz hp (opTs_to hx) hb'
          refine opv_ag_le this ?_
          have := map_rd_le (ρ := ρ) cs
          simp only [TV.to, List.map_map]; exact this
        · trivial
      · trivial
    · trivial
  · split
    · rename_i e ty' h0 het
      split
      · rename_i sz by_ us hz hx
        split
        · rename_i xs hp
          split
          · rename_i hc
            simp only [Bool.and_eq_true] at hc
            have hsz := beq_of hc.1.1.1
            subst hsz
            obtain ⟨m1, m2⟩ := packAll_to (ρ := ρ) hp
            exact opv_rows_le (opv_build_slice (T := Y) h0 hz hc.1.1.2 hc.1.2 (opTs_to hx) m2 hc.2) m1
          · trivial
        · trivial
      · trivial
    · trivial
  · split
    · rename_i k o hx; exact opv_nil (opT_to hx)
    · rename_i cs hx; exact opv_nil_el (opT_to hx)
    · trivial
  · rename_i f first caps
    split
    · rename_i hf
      split
      · rename_i us hx
        split
        · rename_i xs hxs
          have : first = #[] := Array.eq_empty_of_size_eq_zero (by have := congrArg List.length hf; simpa using this)
          subst this
          have hx' := opTs_to (ρ := ρ) hx
          rw [atoms_to hxs] at hx'
          exact opv_mkfunc hx'
        · trivial
      · trivial
    · trivial
  · rename_i xs ats
    split
    · rename_i x t hxs ha
      have hxs' : xs = #[x] := by cases xs; simp at hxs; subst hxs; rfl
      subst hxs'
      split
      · rename_i h0
        split
        · rename_i s hs; exact opv_len_str (T := Y) (asS_to hs) ha h0
        · trivial
      · rename_i e h0
        split
        · rename_i ty' l hs
          obtain ⟨o, ho⟩ := asL_to (ρ := ρ) hs
          have := opv_len_sl (P := P) (T := Y) (d := d) (ty := ty) (pos := pos) (af := af) (g := g) ho ha h0
          simp only [List.length_map] at this
          exact this
        · trivial
      · trivial
    · trivial
  · rename_i xs ats
    split
    · rename_i x y hxs
      have hxs' : xs = #[x, y] := by cases xs; simp at hxs; subst hxs; rfl
      subst hxs'
      split
      · rename_i a b ha hb; exact opv_min (asI_to ha) (asI_to hb)
      · trivial
    · trivial
  · rename_i xs ats
    split
    · rename_i x y hxs
      have hxs' : xs = #[x, y] := by cases xs; simp at hxs; subst hxs; rfl
      subst hxs'
      split
      · rename_i a b ha hb; exact opv_max (asI_to ha) (asI_to hb)
      · trivial
    · trivial
  · rename_i f xs ats
    split
    · rename_i h us hf hx
      refine (hG.f _ (gLook_mem hf) (fixArgs E ats.toList us)).mono fun u hu => ?_
      exact opv_call (hu ρ) (opTs_to hx) (fixArgs_le _ _ (fixArgs_len _ _)) (fixArgs_plain _ _)
    · trivial
  · rename_i s xs ats
    split
    · rename_i f hs
      split
      · rename_i h us hf hx
        refine (hG.f _ (gLook_mem hf) (fixArgs E ats.toList us)).mono fun u hu => ?_
        exact opv_call_fn (by simp only [TS.to, look_tTo, hs]; rfl) (hu ρ) (opTs_to hx) (fixArgs_le _ _ (fixArgs_len _ _)) (fixArgs_plain _ _)
      · trivial
    · trivial
  · rename_i t x i
    split
    · rename_i cs fs hx h0
      split
      · rename_i f hf
        split
        · rename_i dsc c h1 hc
          split
          · rename_i ho
            have h2 := opv_field (P := P) (T := Y) (d := d) (ty := ty) (pos := pos) (af := af) (g := g) (opT_to (ρ := ρ) hx) h0 hf h1 ho (c := c.to E.toEnc ρ) (by simp [hc])
            rw [← TA.rd_to] at h2
            exact h2
          · trivial
        · trivial
      · trivial
    · trivial
  · rename_i t x y ok
    split
    · rename_i kt et k key h0 hx hy
      split
      · rename_i zv ty' l hk hz hb
        have hb' : look (σ.to E.toEnc ρ).h (ρ k) = some [smap (l.map fun p => (p.1, one E.toEnc ty' p.2))] := look_hTo E.toEnc hi hb
        split
        · rename_i z hzm
          have h1 := opv_lookup_s (P := P) (T := Y) (d := d) (ty := ty) (pos := pos) (af := af) (g := g) (opT_to (ρ := ρ) hx) hb' (asS_to hy) h0 hk hz
          rw [lget_map] at h1
          refine opv_eq h1 ?_
          cases hm : mget l key with
          | none =>
            show AV.tu [cst zv, _] = AV.tu [one E.toEnc ty' z, _]
            rw [(zeroM_to (E := E.toEnc) hzm).1]; rfl
          | some x =>
            show AV.tu [(one E.toEnc ty' x).rd, _] = AV.tu [one E.toEnc ty' x, _]
            rw [one_rd]; rfl
        · rename_i z hzm
          have h1 := opv_lookup1_s (P := P) (T := Y) (d := d) (ty := ty) (pos := pos) (af := af) (g := g) (opT_to (ρ := ρ) hx) hb' (asS_to hy) h0 hk hz (zeroM_to (E := E.toEnc) hzm).2
          rw [lget_map] at h1
          refine opv_eq h1 ?_
          cases hm : mget l key with
          | none => exact (zeroM_to (E := E.toEnc) hzm).1
          | some x => exact one_rd _ _ _
        · trivial
      · trivial
    · trivial
  · rename_i t x
    split
    · rename_i u dsc hx h0
      split
      · rename_i c hc hn
        have hv := opv_mkif (P := P) (T := Y) (d := d) (ty := ty) (pos := pos) (af := af) (g := g) (opT_to (ρ := ρ) hx) h0 (by cases dsc <;> first | rfl | cases hn)
        have e : (TV.ifc t c : TV E.T).to E.toEnc ρ = .ifc t (u.to E.toEnc ρ) := by
          unfold ifT at hc
          split at hc
          · split at hc
            · cases hc; rfl
            · cases hc
          · cases hc; rfl
          · cases hc
        show OpV P _ _ ((TV.ifc t c : TV E.T).to E.toEnc ρ)
        rw [e]
        exact hv
      · trivial
    · trivial
  · trivial
/-! ### Slices and arrays that lie in boxes of their own -/
theorem flat_lone {ty : Ty} (h : ty.lone = true) (l : List (Den E.T ty)) : (TB.row ty l : TB E.T).to E.toEnc ρ = l.map (one E.toEnc ty) := by
  show (l.map (cells E.toEnc ty)).flatten = _
  induction l with
  | nil => rfl
  | cons x l ih => rw [List.map_cons, List.flatten_cons, ih, cells_lone E.toEnc h]; rfl
theorem look_row (hi : Inj ρ σ.h) {k : Nat} {ty : Ty} {l : List (Den E.T ty)} (hl : ty.lone = true) (h : look σ.h k = some (.row ty l)) : look (σ.to E.toEnc ρ).h (ρ k) = some (l.map (one E.toEnc ty)) := by
  have := look_hTo E.toEnc hi h
  rw [flat_lone hl] at this
  exact this
theorem one_notMp (ty : Ty) (z : Den E.T ty) : (one E.toEnc ty z).isMp = false := TA.to_notMp E.toEnc id (.d ty z)
theorem sz1_of {e : TypeId} (h : sz1 Y e = true) : ∃ by_, look Y.sz e = some (1, by_) := by
  unfold sz1 at h
  split at h
  · rename_i b hb; exact ⟨b, hb⟩
  · cases h
theorem idxN_some {n : Nat} {i : Int} {j : Nat} (h : idxN n i = some j) : 0 ≤ i ∧ i < n ∧ (j : Int) = i ∧ j < n := by
  unfold idxN at h
  split at h
  · rename_i hc; cases h; omega
  · cases h
theorem subN_some {c : Nat} {i j : Int} {p : Nat × Nat} (h : subN c i j = some p) : i = (p.1 : Int) ∧ j = (p.2 : Int) ∧ p.1 ≤ p.2 ∧ p.2 ≤ c := by
  unfold subN at h
  split at h
  · rename_i hc; cases h; simp only; omega
  · cases h
/-- The place of an element of an array in a box. -/
theorem opv_index_arr {σ : AS} {dd : Option Tmp} {k o n : Nat} {i : Int} {ki : IntKind} {by_ : Nat} (hx : opV σ x = some (.v (.pointer (some ⟨k, o, none⟩)))) (hy : opV σ y = some (.v (.int ki i))) (ht : look Y.ty t = some (.array n e)) (hz : look Y.sz e = some (1, by_)) (h0 : 0 ≤ i) (h1 : i < n) :
    OpV P ⟨dd, .indexAddr t x y, ty, pos, af, g⟩ σ (.v (.pointer (some ⟨k, o + i.toNat, none⟩))) := by
  refine opv_same rfl fun F X a hs => ?_
  obtain ⟨it, hi1, hi2, hi3, _⟩ := Y.szOk _ _ _ hz
  have e1 := opV_val hs (by simp [Op.operands]) hx
  have e2 := opV_val hs (by simp [Op.operands]) hy
  refine ⟨_, ?_, .v _⟩
  simp only [execOp, e1, e2]
  have hu := Y.tyOk _ _ ht
  refine run_val ?_
  simp [Instr.indexAt, asIntOf, run_underlying hu, sizeOf, typeInfo, hi1, hi2, h0, h1, add_off, Instr.sureAddr]
theorem opv_slice_bsl {σ : AS} {dd : Option Tmp} {lo hi : Option Operand} {k o n c : Nat} {i j : Nat} {by_ : Nat} (hx : opV σ x = some (.v (.slice (some ⟨k, o, none⟩) n c))) (ht : look Y.ty t = some (.slice e)) (hz : look Y.sz e = some (1, by_)) (hl : optIs σ lo .i64 (i : Int) 0) (hh : optIs σ hi .i64 (j : Int) (n : Int)) (h1 : i ≤ j) (h2 : j ≤ c) :
    OpV P ⟨dd, .slice t x lo hi none, ty, pos, af, g⟩ σ (.v (.slice (some ⟨k, offN o c i, none⟩) (j - i) (c - i))) := by
  refine opv_same rfl fun F X a hs => ?_
  obtain ⟨it, hi1, hi2, hi3, _⟩ := Y.szOk _ _ _ hz
  have e1 := opV_val hs (by simp [Op.operands]) hx
  have hlo := opt_val (q := lo) hs (fun p hp => by subst hp; simp [Op.operands]) hl
  have hhi := opt_val (q := hi) hs (fun p hp => by subst hp; simp [Op.operands]) hh
  refine ⟨_, ?_, .v _⟩
  have hu := Y.tyOk _ _ ht
  have hb := run_bounds (P := P) (isS := true) (w := X.w) hlo hhi (by omega) (by omega) (cap := c) (by omega)
  simp only [execOp, e1]
  refine run_val ?_
  simp only [Option.map_none, Instr.sliceAt, Sem.run_bind, run_underlying hu, Result.andThen_ok]
  simp only [Instr.slice, Sem.run_bind, run_underlying hu, Result.andThen_ok, hb]
  by_cases hci : c = i
  · simp [sizeOf, typeInfo, hi1, hi2, offN, hci]
  · simp [sizeOf, typeInfo, hi1, hi2, offN, hci, add_off]
theorem opv_slice_arr {σ : AS} {dd : Option Tmp} {lo hi : Option Operand} {k o n : Nat} {i j : Nat} {by_ : Nat} (hx : opV σ x = some (.v (.pointer (some ⟨k, o, none⟩)))) (ht : look Y.ty t = some (.array n e)) (hz : look Y.sz e = some (1, by_)) (hl : optIs σ lo .i64 (i : Int) 0) (hh : optIs σ hi .i64 (j : Int) (n : Int)) (h1 : i ≤ j) (h2 : j ≤ n) :
    OpV P ⟨dd, .slice t x lo hi none, ty, pos, af, g⟩ σ (.v (.slice (some ⟨k, offN o n i, none⟩) (j - i) (n - i))) := by
  refine opv_same rfl fun F X a hs => ?_
  obtain ⟨it, hi1, hi2, hi3, _⟩ := Y.szOk _ _ _ hz
  have e1 := opV_val hs (by simp [Op.operands]) hx
  have hlo := opt_val (q := lo) hs (fun p hp => by subst hp; simp [Op.operands]) hl
  have hhi := opt_val (q := hi) hs (fun p hp => by subst hp; simp [Op.operands]) hh
  refine ⟨_, ?_, .v _⟩
  have hu := Y.tyOk _ _ ht
  have hb := run_bounds (P := P) (isS := false) (w := X.w) hlo hhi (by omega) (by omega) (cap := n) (by omega)
  simp only [execOp, e1]
  refine run_val ?_
  simp only [Option.map_none, Instr.sliceAt, Sem.run_bind, run_underlying hu, Result.andThen_ok, Instr.sureAddr, Sem.run_pure, hb]
  by_cases hci : n = i
  · simp [sizeOf, typeInfo, hi1, hi2, offN, hci]
  · simp [sizeOf, typeInfo, hi1, hi2, offN, hci, add_off]
theorem opv_nilnil {σ : AS} {dd : Option Tmp} {op : BinOp} (hx : opV σ x = some (.v (.slice none 0 0))) (hy : opV σ y = some (.v (.slice none 0 0))) (ht : look Y.ty t = some (.slice e)) (neg : Bool) (hop : (op = .eql ∧ neg = false) ∨ (op = .neq ∧ neg = true)) : OpV P ⟨dd, .binOp op t x y yt, ty, pos, af, g⟩ σ (.v (.bool (true != neg))) := by
  refine opv_same rfl fun F X a hs => ⟨_, ?_, .v _⟩
  have e1 := opV_val hs (by simp [Op.operands]) hx
  have h2 := opV_val hs (by simp [Op.operands]) hy
  have ht := Y.tyOk _ _ ht
  simp only [execOp, e1, h2]
  refine run_val ?_
  have q := Lib.run_eql_slice_nil X.w t e none 0 0 0 0 ht
  rcases hop with ⟨rfl, rfl⟩ | ⟨rfl, rfl⟩
  · simp [eqGuard, q, go_sem]
  · have q' : (Op.equal t (.slice none 0 0) (.slice none 0 0)).run P X.w = .ok true X.w := by
      simp [Op.equal, Op.maxDepth, Lib.run_equalIn_slice_nil X.w 9999 t e none 0 0 0 0 ht]
    simp [eqGuard, binOp, go_sem, q']
theorem evPB_ok (hi : Inj ρ σ.h) (op : Op) : (evPB Y E σ op).ok fun u => OpV P ⟨d, op, ty, pos, af, g⟩ (σ.to E.toEnc ρ) (u.to E.toEnc ρ) := by
  unfold evPB
  split
  · split
    · rename_i k off n c ki i e hx hy ht
      split
      · rename_i hs
        obtain ⟨by_, hz⟩ := sz1_of hs
        intro j hj
        obtain ⟨h1, h2, h3, h4⟩ := idxN_some hj
        have := opv_index_box (P := P) (T := Y) (dd := d) (ty := ty) (pos := pos) (af := af) (g := g) (i := j) (opT_to (ρ := ρ) hx) (by rw [h3]; exact asI_to hy) ht hz h4
        rw [Nat.mul_one] at this
        exact this
      · trivial
    · rename_i k off ki i n e hx hy ht
      split
      · rename_i hs
        obtain ⟨by_, hz⟩ := sz1_of hs
        intro j hj
        obtain ⟨h1, h2, h3, h4⟩ := idxN_some hj
        have := opv_index_arr (P := P) (Y := Y) (dd := d) (ty := ty) (pos := pos) (af := af) (g := g) (opT_to (ρ := ρ) hx) (asI_to hy) ht hz h1 h2
        rw [show i.toNat = j by omega] at this
        exact this
      · trivial
    · trivial
  · split
    · rename_i k o dsc hx ht
      split
      · rename_i ty' l h1 hb
        split
        · rename_i hl
          intro z hz
          have := opv_load_box (P := P) (T := Y) (d := d) (ty := ty) (pos := pos) (af := af) (g := g) (opT_to (ρ := ρ) hx) (look_row hi hl hb) (u := one E.toEnc ty' z) (by simp [hz]) ht h1 (one_notMp ty' z)
          rw [one_rd] at this
          exact this
        · trivial
      · trivial
    · trivial
  · split
    · rename_i k off n c e hx ht
      split
      · rename_i i j hs hl hh
        obtain ⟨by_, hz⟩ := sz1_of hs
        intro p hp
        obtain ⟨h1, h2, h3, h4⟩ := subN_some hp
        subst h1 h2
        exact opv_slice_bsl (P := P) (Y := Y) (opT_to (ρ := ρ) hx) ht hz (bndT_to hl) (bndT_to hh) h3 h4
      · trivial
    · rename_i k off n e hx ht
      split
      · rename_i i j hs hl hh
        obtain ⟨by_, hz⟩ := sz1_of hs
        intro p hp
        obtain ⟨h1, h2, h3, h4⟩ := subN_some hp
        subst h1 h2
        exact opv_slice_arr (P := P) (Y := Y) (opT_to (ρ := ρ) hx) ht hz (bndT_to hl) (bndT_to hh) h3 h4
      · trivial
    · trivial
  · split
    · rename_i e k off n c ht ht2 hx
      split
      · rename_i l he hb
        intro s hs
        unfold fullC at hs
        split at hs
        · rename_i hn
          cases hs
          obtain ⟨hn0, hn⟩ := hn
          subst hn0 hn
          have hb' := look_row (ty := .byte) hi rfl hb
          exact opv_box_str (P := P) (T := Y) (L := l) (opT_to (ρ := ρ) hx) hb' ht he ht2
        · cases hs
      · trivial
    · trivial
  · rename_i xs ats
    split
    · rename_i x t hxs ha
      have hxs' : xs = #[x] := by cases xs; simp at hxs; subst hxs; rfl
      subst hxs'
      split
      · rename_i e k off n c ht hx
        exact opv_len_nil (T := Y) (opT_to (ρ := ρ) hx) ha ht
      · trivial
    · trivial
  · split
    · rename_i hx hy
      split
      · rename_i e ht; exact opv_nilnil (opT_to (ρ := ρ) hx) (opT_to (ρ := ρ) hy) ht false (.inl ⟨rfl, rfl⟩)
      · rename_i e ht; exact opv_nilnil (opT_to (ρ := ρ) hx) (opT_to (ρ := ρ) hy) ht true (.inr ⟨rfl, rfl⟩)
      · trivial
    · trivial
  · trivial
theorem evP_ok (hi : Inj ρ σ.h) (hG : GOk P Y E G) (op : Op) : (evP Y E G σ op ty).ok fun u => OpV P ⟨d, op, ty, pos, af, g⟩ (σ.to E.toEnc ρ) (u.to E.toEnc ρ) := by
  have h := evPB_ok (Y := Y) (E := E) (d := d) (ty := ty) (pos := pos) (af := af) (g := g) hi op
  unfold evP
  split
  · exact evP0_ok hi hG op
  · exact h
end
end Go.Proofs.Ytgmlkhfjhogdbaa
