/-
  Vx, part e: what an environment promises, and the operations that write nothing.
-/
import Derived.Test.YthdjomfkechfoaaVd
import Derived.Laws.Entries
namespace Go.Proofs.Ythdjomfkechfoaa.Vx
open Go Go.RowKit
set_option linter.unusedSimpArgs false
set_option linter.unusedVariables false

/-! ### contracts -/
def DenRep (w : World) (F : Nat → Nat → Prop) : (ts : List TY) → Den ts → List Value → Prop
  | [], _, vs => vs = []
  | t :: ts, x, vs => ∃ v us, vs = v :: us ∧ t.rep w F x.1 v ∧ DenRep w F ts x.2 us

def retVal (vs : List Value) : Value := match vs with
  | [v] => v
  | vs => .tuple vs.toArray

def CallOk (P : Program) (f : FuncId) : Prop := ∃ fn, P.funcs[f]? = some fn ∧ (fn.name == "runtime.NumGoroutine") = false ∧ fn.body.isSome = true

def Contract (P : Program) (f : FuncId) (s : Summ) : Prop :=
  CallOk P f ∧ ∀ (x : Den s.ps) (r : Den s.rs), s.F x = some r → ∀ (w : World) (F0 : Nat → Nat → Prop) (vs : List Value), DenRep w F0 s.ps x vs →
    Calls P f vs.toArray w fun e w' => ∃ us, e = .returned (retVal us) ∧ (∀ g h, AVs.rep w' (fun B o => B < w.heap.size → F0 B o) g h (s.out r) us) ∧ Below w.heap.size w w'

/-! ### types -/
def CT.desc : CT → TypeDesc → Bool
  | .int k, .int k' => kbeq k k'
  | .bool, .bool => true
  | .str, .string => true
  | .sl _, .slice _ => true
  | _, _ => false

def TY.desc : TY → TypeDesc → Bool
  | .sc c, d => c.desc d
  | .st _, .struct _ => true
  | .st _, _ => false

def CT.zeroB : CT → Value → Bool
  | .int k, .int k' n => kbeq k k' && decide (n = 0)
  | .bool, .bool false => true
  | .str, .string s => decide (s.size = 0)
  | .sl _, .slice none 0 0 => true
  | _, _ => false

def Lay.zeroB : Lay → List Value → Bool
  | .one c, [v] => c.zeroB v
  | .cons c l, v :: vs => c.zeroB v && l.zeroB vs
  | _, _ => false

def TY.zeroB : TY → Value → Bool
  | .sc c, v => c.zeroB v
  | .st l, .agg cs => l.zeroB cs.toList
  | .st _, _ => false

theorem CT.zeroB_of : (c : CT) → (v : Value) → c.zeroB v = true → c.ofConst v = some c.zero
  | .int k, v, h => by
    cases v <;> simp [CT.zeroB] at h
    simp [CT.ofConst, h.1, h.2, CT.zero]
  | .bool, v, h => by
    cases v <;> simp [CT.zeroB] at h
    rename_i b
    cases b <;> simp at h
    rfl
  | .str, v, h => by
    cases v <;> simp [CT.zeroB] at h
    rename_i s
    simp only [CT.ofConst, CT.zero, Option.some.injEq]
    exact h
  | .sl l, v, h => by
    cases v <;> simp [CT.zeroB] at h
    rename_i a n m
    cases a <;> cases n <;> cases m <;> simp at h
    rfl

theorem Lay.zeroB_of : (l : Lay) → (vs : List Value) → l.zeroB vs = true → l.ofConst vs = some l.zero
  | .one c, vs, h => by
    match vs, h with
    | [v], h => exact CT.zeroB_of c v h
  | .cons c l, vs, h => by
    match vs, h with
    | v :: us, h =>
      have h' : c.zeroB v = true ∧ l.zeroB us = true := by simpa [Lay.zeroB] using h
      simp [Lay.ofConst, CT.zeroB_of c v h'.1, Lay.zeroB_of l us h'.2, Lay.zero]

theorem TY.zeroB_of : (t : TY) → (v : Value) → t.zeroB v = true → t.ofConst v = some t.lay.zero
  | .sc c, v, h => CT.zeroB_of c v h
  | .st l, v, h => by
    cases v <;> simp [TY.zeroB] at h
    exact Lay.zeroB_of l _ h

structure TyOk (P : Program) (t : TypeId) (y : TY) : Prop where
  info : ∃ i z, P.info? t = some i ∧ i.size = y.lay.size ∧ i.zero = some z ∧ y.ofConst z = some y.lay.zero
  desc : ∃ d, P.underlying t = some d ∧ y.desc d = true

def tyOkB (P : Program) (t : TypeId) (y : TY) : Bool :=
  match P.info? t, P.underlying t with
  | some i, some d => Nat.beq i.size y.lay.size && ((match i.zero with | some z => y.zeroB z | none => false) && y.desc d)
  | _, _ => false

theorem tyOk_of {P : Program} {t : TypeId} {y : TY} (h : tyOkB P t y = true) : TyOk P t y := by
  unfold tyOkB at h
  split at h
  · rename_i i d hi hd
    simp only [Bool.and_eq_true] at h
    obtain ⟨h1, h2, h3⟩ := h
    cases hz : i.zero with
    | none => simp [hz] at h2
    | some z => exact ⟨⟨i, z, hi, Nat.eq_of_beq_eq_true h1, hz, TY.zeroB_of y z (by simpa [hz] using h2)⟩, d, hd, h3⟩
  · cases h

structure ElOk (P : Program) (t : TypeId) (te : TY) (bytes : Nat) : Prop where
  el : ∃ e i, P.underlying t = some (.slice e) ∧ TyOk P e te ∧ P.info? e = some i ∧ i.bytes = bytes ∧ 1 ≤ bytes

structure FldOk (P : Program) (t : TypeId) (fs : List (Nat × TY)) : Prop where
  fld : ∃ fields : Array Field, P.underlying t = some (.struct fields) ∧ fields.size = fs.length ∧
    ∀ (i off : Nat) (ft : TY), fs[i]? = some (off, ft) → ∃ f, fields[i]? = some f ∧ f.offset = off ∧ TyOk P f.type ft

/-- '==' of this type is told by 'eqb'. -/
def EqOk (P : Program) (t : TypeId) (l : Lay) : Prop :=
  P.eqGuardType P.depth t = false ∧
  ∀ (w : World) (F : Nat → Nat → Prop) (x y : l.den) (vs us : List Value), l.vals w F x vs → l.vals w F y us →
    (Op.equalIn Op.maxDepth t (.agg vs.toArray) (.agg us.toArray)).run P w = .ok (l.eqb x y) w

section

structure EOk (P : Program) (E : Env) : Prop where
  ty : ∀ t y, E.ty t = some y → TyOk P t y
  fld : ∀ t fs, E.fld t = some fs → FldOk P t fs
  el : ∀ t te b, E.el t = some (te, b) → ElOk P t te b
  eqT : ∀ t l, E.eqT t = some l → EqOk P t l
  elu : ∀ t y, E.ty t = some y → y = .sc (.sl (.one (.int .u8))) → ∃ e, P.underlying t = some (.slice e) ∧ P.underlying e = some (.int .u8)
  sum : ∀ f s, E.sum f = some s → Contract P f s
  body : ∀ f b, E.body f = some b → CallOk P f ∧ ∃ fn, P.funcs[f]? = some fn ∧ fn.body = some b.code ∧ fn.ntmps = b.ntmps ∧ fn.results = b.results.toArray

end

/-! ### what a symbolic value tells of the value -/
section
variable {w : World} {F : Nat → Nat → Prop} {g : Gh} {h : H} {P : Program}

theorem AV.int?_rep {a : AV} {k : IntKind} {n : Int} (ha : a.int? = some (k, n)) {v : Value} (hr : a.rep w F g h v) : v = .int k n := by
  match a, ha with
  | .dat (.sc (.int k')) n', ha =>
    have e : (k', n') = (k, n) := Option.some.inj ha
    cases e
    exact hr

theorem AV.bool?_rep {a : AV} {b : Bool} (ha : a.bool? = some b) {v : Value} (hr : a.rep w F g h v) : v = .bool b := by
  match a, ha with
  | .dat (.sc .bool) b', ha =>
    have e : b' = b := Option.some.inj ha
    cases e
    exact hr

theorem AV.to_rep {a : AV} {t : TY} {x : t.den} (ha : a.to t = some x) {v : Value} (hr : a.rep w F g h v) : t.rep w F x v := by
  match a, t, x, ha with
  | .dat (.sc c) y, .sc c', x, ha => exact CT.castTo_rep (c := c) ha hr
  | .dat (.st l) y, .st l', x, ha =>
    obtain ⟨vs, hv, hr⟩ := hr
    exact ⟨vs, hv, Lay.castTo_vals (l := l) ha hr⟩
  | .con c, t, x, ha =>
    have hr' : v = c := hr
    subst hr'
    exact TY.ofConst_rep t _ x ha
  | .fsl l xs, .sc c', x, ha =>
    obtain ⟨a, hv, hr⟩ := hr
    exact CT.castTo_rep (c := .sl l) ha ⟨a, _, hv, Nat.le_refl _, hr⟩
  | .osl l xs tk, .sc c', x, ha =>
    obtain ⟨a, cap, hv, hle, _, hr⟩ := hr
    refine CT.castTo_rep (c := .sl l) ha ⟨a, cap, hv, hle, fun hp => ?_⟩
    obtain ⟨B, off, ha, hr, _⟩ := hr (Nat.lt_of_lt_of_le hp hle)
    exact ⟨B, off, ha, hr⟩

theorem AVs.rep_get : (vs : List AV) → (us : List Value) → AVs.rep w F g h vs us → ∀ (i : Nat) (a : AV), vs[i]? = some a → ∃ u, us[i]? = some u ∧ a.rep w F g h u
  | [], us, hr, i, a, ha => by simp at ha
  | b :: vs, us, hr, i, a, ha => by
    obtain ⟨u, us', rfl, h1, h2⟩ := hr
    cases i with
    | zero => simp at ha; subst ha; exact ⟨u, rfl, h1⟩
    | succ i => simpa using AVs.rep_get vs us' h2 i a (by simpa using ha)

theorem AVs.rep_map (ev : Operand → AV) (ρ : Operand → Value) (hev : ∀ x, (ev x).rep w F g h (ρ x)) : (xs : List Operand) → AVs.rep w F g h (xs.map ev) (xs.map ρ)
  | [] => rfl
  | x :: xs => ⟨ρ x, xs.map ρ, rfl, hev x, AVs.rep_map ev ρ hev xs⟩

theorem AVs.rep_append : (vs : List AV) → (us : List Value) → AVs.rep w F g h vs us → (vs' : List AV) → (us' : List Value) → AVs.rep w F g h vs' us' → AVs.rep w F g h (vs ++ vs') (us ++ us')
  | [], us, hr, vs', us', hr' => by have : us = [] := hr; subst this; exact hr'
  | a :: vs, us, hr, vs', us', hr' => by
    obtain ⟨u, us1, rfl, h1, h2⟩ := hr
    exact ⟨u, us1 ++ us', rfl, h1, AVs.rep_append vs us1 h2 vs' us' hr'⟩

theorem AVs.rep_length : (vs : List AV) → (us : List Value) → AVs.rep w F g h vs us → us.length = vs.length
  | [], us, hr => by have : us = [] := hr; subst this; rfl
  | a :: vs, us, hr => by
    obtain ⟨u, us1, rfl, h1, h2⟩ := hr
    simp [AVs.rep_length vs us1 h2]
end

/-! ### one operation -/
section
variable {R : Type} {P : Program} {E : Env} {base : Nat} {F0 : Nat → Nat → Prop} {W0 : World} {g : Gh} {h : H} {w : World}

/-- What an operation that is carried out makes of it all. -/
def OpRes (P : Program) (base : Nat) (F0 : Nat → Nat → Prop) (W0 : World) (g : Gh) (h : H) (w : World) (s : Sem Next) (k : AV → H → Option R) (r : R) : Prop :=
  ∃ v h' g' w' nx u, k v h' = some r ∧ s.run P w = .ok nx w' ∧ (nx = .value u ∨ (nx = .skip ∧ u = undef)) ∧
    HRel base F0 W0 g' h' w' ∧ Ext base F0 g h w g' h' w' ∧ v.rep w' (Fr base F0 g' h') g' h' u

theorem OpRes.pure {s : Sem Next} {k : AV → H → Option R} {r : R} {v : AV} {u : Value} (hH : HRel base F0 W0 g h w) (hk : k v h = some r)
    (hs : s.run P w = .ok (.value u) w) (hv : v.rep w (Fr base F0 g h) g h u) : OpRes P base F0 W0 g h w s k r :=
  ⟨v, h, g, w, .value u, u, hk, hs, .inl rfl, hH, Ext.refl, hv⟩

theorem cond_some {b : Bool} {x : Option R} {r : R} (h : (bif b then x else none) = some r) : b = true ∧ x = some r := by cases b <;> simp at h; exact ⟨rfl, h⟩
theorem cond_none {b : Bool} {x : Option R} {r : R} (h : (bif b then none else x) = some r) : b = false ∧ x = some r := by cases b <;> simp at h; exact ⟨rfl, h⟩

variable (ev : Operand → AV) (ρ : Operand → Value)

theorem isAgg_run {t : TypeId} {y : TY} (hy : TyOk P t y) (w : World) : (isAgg t).run P w = .ok (match y with | .st _ => true | .sc _ => false) w := by
  obtain ⟨d, hd, hdesc⟩ := hy.desc
  unfold isAgg
  simp only [Sem.run_bind, run_underlying hd, Result.andThen_ok]
  cases y with
  | sc c => cases c <;> cases d <;> simp [TY.desc, CT.desc] at hdesc ⊢
  | st l => cases d <;> simp [TY.desc] at hdesc ⊢

theorem sizeOf_run {t : TypeId} {y : TY} (hy : TyOk P t y) (w : World) : (sizeOf t).run P w = .ok y.lay.size w := by
  obtain ⟨i, z, hi, hs, _⟩ := hy.info
  simp [sizeOf, typeInfo, hi, hs]

/-- A load. -/
theorem loadVar_run {t : TypeId} {y : TY} (hy : TyOk P t y) {F : Nat → Nat → Prop} {w : World} {B o : Nat} {x : y.den} {vs : List Value}
    (hv : y.lay.vals w F x vs) (hrow : ∀ j v, vs[j]? = some v → w.cell? ⟨B, o + j, none⟩ = some v) :
    ∃ u, (loadVar t ⟨B, o, none⟩).run P w = .ok u w ∧ y.rep w F x u := by
  unfold loadVar
  simp only [Sem.run_bind, isAgg_run hy, Result.andThen_ok]
  cases y with
  | sc c =>
    obtain ⟨v, rfl, hr⟩ := hv
    have hc := hrow 0 v rfl
    simp only [Nat.add_zero] at hc
    exact ⟨v, by simp [hc], hr⟩
  | st l =>
    have hlen := Lay.vals_length l x vs hv
    refine ⟨.agg vs.toArray, ?_, vs, rfl, hv⟩
    have hl := run_loadCells_list (P := P) w ⟨B, o, none⟩ vs (fun j v hj => by rw [Addr.add_lit]; exact hrow j v hj)
    simp only [if_true, Sem.run_bind, sizeOf_run hy, Result.andThen_ok, TY.lay]
    rw [← hlen, hl]
    rfl
end
end Go.Proofs.Ythdjomfkechfoaa.Vx
