/-
  Vx, part t: what an environment promises, by reckoning.
-/
import Derived.Test.YthdjomfkechfoaaVs
import Derived.Laws.StructEq
namespace Go.Proofs.Ythdjomfkechfoaa.Vx
open Go Go.RowKit
set_option linter.unusedSimpArgs false
set_option linter.unusedVariables false

/-! ### '==' of structs -/
def ctOkB (P : Program) (t : TypeId) (c : CT) : Bool :=
  c.eqable && (match P.underlying t with
    | some d => c.desc d
    | none => false)

def eqF (P : Program) : List Field → Nat → Lay → Bool
  | [f], k, .one c => (f.name != "_" && Nat.beq f.offset k) && ctOkB P f.type c
  | f :: fs, k, .cons c l => ((f.name != "_" && Nat.beq f.offset k) && ctOkB P f.type c) && eqF P fs (k + 1) l
  | _, _, _ => false

def eqOkB (P : Program) (t : TypeId) (l : Lay) : Bool :=
  (!(P.eqGuardType P.depth t) && !(P.stoodInHeld t)) && (match P.underlying t with
    | some (.struct fs) => eqF P fs.toList 0 l
    | _ => false)

section
variable {P : Program} {w : World} {F : Nat → Nat → Prop}

theorem part_scalar {t : TypeId} {c : CT} (hc : ctOkB P t c = true) {xs : Array Value} {off : Nat} {v : Value} (hv : xs[off]? = some v) : (part t xs off).run P w = .ok v w := by
  unfold ctOkB at hc
  simp only [Bool.and_eq_true] at hc
  obtain ⟨he, hd⟩ := hc
  split at hd
  · rename_i d hu
    have hagg : (isAgg t).run P w = .ok false w := by
      unfold isAgg
      simp only [Sem.run_bind, run_underlying hu, Result.andThen_ok]
      cases c <;> cases d <;> simp [CT.desc, CT.eqable] at hd he ⊢
    unfold part
    simp only [Sem.run_bind, hagg, Result.andThen_ok]
    simp [hv]
  · cases hd

theorem equal_scalar {t : TypeId} {c : CT} (hc : ctOkB P t c = true) {x y : c.den} {u v : Value} (hu : c.rep w F x u) (hv : c.rep w F y v) (d : Nat) :
    (Op.equalIn (d + 1) t u v).run P w = .ok (c.eqb x y) w := by
  unfold ctOkB at hc
  simp only [Bool.and_eq_true] at hc
  obtain ⟨he, hd⟩ := hc
  split at hd
  · rename_i dd hud
    cases c with
    | int k =>
      have h1 : u = .int k x := hu
      have h2 : v = .int k y := hv
      cases dd <;> simp [CT.desc] at hd
      rw [h1, h2]
      exact run_equalIn_int w d t k _ x y hud
    | bool =>
      have h1 : u = .bool x := hu
      have h2 : v = .bool y := hv
      cases dd <;> simp [CT.desc] at hd
      rw [h1, h2]
      exact run_equalIn_bool w d t x y hud
    | str =>
      have h1 : u = .string x := hu
      have h2 : v = .string y := hv
      cases dd <;> simp [CT.desc] at hd
      rw [h1, h2]
      unfold Op.equalIn
      rw [Sem.run_bind, run_underlying hud]
      rfl
    | sl l => simp [CT.eqable] at he
  · cases hd

theorem eqFields_run (d : Nat) {xs ys : Array Value} : ∀ (fs : List Field) (k : Nat) (l : Lay), eqF P fs k l = true → ∀ (x y : l.den) (vs us : List Value), l.vals w F x vs → l.vals w F y us →
    (∀ j v, vs[j]? = some v → xs[k + j]? = some v) → (∀ j v, us[j]? = some v → ys[k + j]? = some v) → (Op.eqFields (d + 1) xs ys fs).run P w = .ok (l.eqb x y) w
  | [], k, l, h, x, y, vs, us, hx, hy, hxs, hys => by simp [eqF] at h
  | [f], k, .one c, h, x, y, vs, us, hx, hy, hxs, hys => by
    simp only [eqF, Bool.and_eq_true, bne_iff_ne] at h
    obtain ⟨⟨hn, ho⟩, hc⟩ := h
    have ho := Nat.eq_of_beq_eq_true ho
    obtain ⟨v, rfl, hv⟩ := hx
    obtain ⟨u, rfl, hu⟩ := hy
    have h1 := hxs 0 v rfl
    have h2 := hys 0 u rfl
    simp only [Nat.add_zero] at h1 h2
    rw [← ho] at h1 h2
    simp only [Op.eqFields, if_pos hn, Sem.run_bind, part_scalar hc h1, part_scalar hc h2, Result.andThen_ok, equal_scalar hc hv hu]
    show (if (!(c.eqb x y)) = true then pure false else pure true : Sem Bool).run P w = .ok (c.eqb x y) w
    cases c.eqb x y <;> rfl
  | f :: fs, k, .cons c l, h, x, y, vs, us, hx, hy, hxs, hys => by
    have h' : (((f.name != "_" && Nat.beq f.offset k) && ctOkB P f.type c) && eqF P fs (k + 1) l) = true := by
      cases fs <;> exact h
    simp only [Bool.and_eq_true, bne_iff_ne] at h'
    obtain ⟨⟨⟨hn, ho⟩, hc⟩, hr⟩ := h'
    have ho := Nat.eq_of_beq_eq_true ho
    obtain ⟨v, vs', rfl, hv, hx⟩ := hx
    obtain ⟨u, us', rfl, hu, hy⟩ := hy
    have h1 := hxs 0 v rfl
    have h2 := hys 0 u rfl
    simp only [Nat.add_zero] at h1 h2
    rw [← ho] at h1 h2
    simp only [Op.eqFields, if_pos hn, Sem.run_bind, part_scalar hc h1, part_scalar hc h2, Result.andThen_ok, equal_scalar hc hv hu]
    have ih := eqFields_run d fs (k + 1) l hr x.2 y.2 vs' us' hx hy (fun j v hj => by rw [show k + 1 + j = k + (j + 1) by omega]; exact hxs (j + 1) v (by simpa using hj))
      (fun j v hj => by rw [show k + 1 + j = k + (j + 1) by omega]; exact hys (j + 1) v (by simpa using hj))
    show (if (!(c.eqb x.1 y.1)) = true then pure false else Op.eqFields (d + 1) xs ys fs : Sem Bool).run P w = .ok (c.eqb x.1 y.1 && l.eqb x.2 y.2) w
    cases c.eqb x.1 y.1
    · rfl
    · simpa using ih
  | f :: f' :: fs, k, .one c, h, x, y, vs, us, hx, hy, hxs, hys => by simp [eqF] at h

theorem eqOk_of {t : TypeId} {l : Lay} (h : eqOkB P t l = true) : EqOk P t l := by
  unfold eqOkB at h
  simp only [Bool.and_eq_true, Bool.not_eq_true'] at h
  obtain ⟨⟨hg, hs⟩, hf⟩ := h
  refine ⟨hg, fun w F x y vs us hx hy => ?_⟩
  split at hf
  · rename_i fs hu
    have hfo : P.fieldsOf t = fs := by simp [Program.fieldsOf, hu]
    have := run_equalIn_struct (P := P) w 9999 t vs.toArray us.toArray (by rw [hfo]; exact hu) hs
    rw [show Op.maxDepth = 9999 + 1 from rfl, this, hfo]
    exact eqFields_run 9998 fs.toList 0 l hf x y vs us hx hy (fun j v hj => by simpa using hj) (fun j v hj => by simpa using hj)
  · cases hf
end

/-! ### tables -/
def elOkB (P : Program) (t : TypeId) (te : TY) (bytes : Nat) : Bool :=
  match P.underlying t with
  | some (.slice e) => (tyOkB P e te && Nat.ble 1 bytes) && (match P.info? e with
    | some i => Nat.beq i.bytes bytes
    | none => false)
  | _ => false

theorem elOk_of {P : Program} {t : TypeId} {te : TY} {bytes : Nat} (h : elOkB P t te bytes = true) : ElOk P t te bytes := by
  unfold elOkB at h
  split at h
  · rename_i e hu
    simp only [Bool.and_eq_true] at h
    obtain ⟨⟨h1, h2⟩, h3⟩ := h
    split at h3
    · rename_i i hi
      exact ⟨e, i, hu, tyOk_of h1, hi, Nat.eq_of_beq_eq_true h3, Nat.le_of_ble_eq_true h2⟩
    · cases h3
  · cases h

def fldsB (P : Program) : List Field → List (Nat × TY) → Bool
  | [], [] => true
  | f :: fs, (off, ft) :: ts => (Nat.beq f.offset off && tyOkB P f.type ft) && fldsB P fs ts
  | _, _ => false

theorem fldsB_spec {P : Program} : ∀ (fs : List Field) (ts : List (Nat × TY)), fldsB P fs ts = true → fs.length = ts.length ∧ ∀ (i off : Nat) (ft : TY), ts[i]? = some (off, ft) → ∃ f, fs[i]? = some f ∧ f.offset = off ∧ TyOk P f.type ft
  | [], [], _ => ⟨rfl, fun i off ft h => by simp at h⟩
  | [], _ :: _, h => by simp [fldsB] at h
  | _ :: _, [], h => by simp [fldsB] at h
  | f :: fs, (off, ft) :: ts, h => by
    simp only [fldsB, Bool.and_eq_true] at h
    obtain ⟨⟨h1, h2⟩, h3⟩ := h
    obtain ⟨h4, h5⟩ := fldsB_spec fs ts h3
    refine ⟨by simp [h4], fun i off' ft' hi => ?_⟩
    cases i with
    | zero => simp at hi; obtain ⟨rfl, rfl⟩ := hi; exact ⟨f, rfl, Nat.eq_of_beq_eq_true h1, tyOk_of h2⟩
    | succ i => simpa using h5 i off' ft' (by simpa using hi)

def fldOkB (P : Program) (t : TypeId) (ts : List (Nat × TY)) : Bool :=
  match P.underlying t with
  | some (.struct fs) => fldsB P fs.toList ts
  | _ => false

theorem fldOk_of {P : Program} {t : TypeId} {ts : List (Nat × TY)} (h : fldOkB P t ts = true) : FldOk P t ts := by
  unfold fldOkB at h
  split at h
  · rename_i fs hu
    obtain ⟨h1, h2⟩ := fldsB_spec _ _ h
    refine ⟨fs, hu, by simpa using h1, fun i off ft hi => ?_⟩
    obtain ⟨f, hf, ho, ht⟩ := h2 i off ft hi
    exact ⟨f, by simpa using hf, ho, ht⟩
  · cases h

/-- A table by numbers. -/
def tab {α : Type} : List (Nat × α) → Nat → Option α
  | [], _ => none
  | p :: r, n => bif Nat.beq n p.1 then some p.2 else tab r n

theorem tab_all {α : Type} {Q : Nat → α → Prop} : ∀ (l : List (Nat × α)), (∀ p ∈ l, Q p.1 p.2) → ∀ n a, tab l n = some a → Q n a
  | [], _, n, a, h => by simp [tab] at h
  | p :: r, hq, n, a, h => by
    simp only [tab] at h
    cases hb : Nat.beq n p.1
    · rw [hb] at h
      exact tab_all r (fun q hq' => hq q (List.mem_cons_of_mem _ hq')) n a h
    · rw [hb] at h
      have e := Nat.eq_of_beq_eq_true hb
      have e2 : p.2 = a := Option.some.inj h
      rw [e, ← e2]
      exact hq p (List.mem_cons_self ..)

structure Tabs where
  ty : List (Nat × TY)
  fld : List (Nat × List (Nat × TY))
  el : List (Nat × TY × Nat)
  eqT : List (Nat × Lay)

def eluB (P : Program) (t : TypeId) : TY → Bool
  | .sc (.sl (.one (.int .u8))) => (match P.underlying t with
    | some (.slice e) => (match P.underlying e with
      | some (.int .u8) => true
      | _ => false)
    | _ => false)
  | _ => true

theorem elu_of {P : Program} {t : TypeId} {y : TY} (h : eluB P t y = true) (hy : y = .sc (.sl (.one (.int .u8)))) : ∃ e, P.underlying t = some (.slice e) ∧ P.underlying e = some (.int .u8) := by
  subst hy
  simp only [eluB] at h
  split at h
  · rename_i e hu
    split at h
    · rename_i hu2
      exact ⟨e, hu, hu2⟩
    · cases h
  · cases h

def Tabs.okB (P : Program) (T : Tabs) : Bool :=
  (T.ty.all fun p => tyOkB P p.1 p.2 && eluB P p.1 p.2) && ((T.fld.all fun p => fldOkB P p.1 p.2) && ((T.el.all fun p => elOkB P p.1 p.2.1 p.2.2) && (T.eqT.all fun p => eqOkB P p.1 p.2)))

def envOf (T : Tabs) (sum : Nat → Option Summ) (body : Nat → Option Body) (cut : List Nat → Bool) : Env :=
  { ty := tab T.ty, fld := tab T.fld, el := tab T.el, eqT := tab T.eqT, sum := sum, body := body, cut := cut }

structure FnsOk (P : Program) (sum : Nat → Option Summ) (body : Nat → Option Body) : Prop where
  sum : ∀ f s, sum f = some s → Contract P f s
  body : ∀ f b, body f = some b → BodyOk P f b

theorem envOk_of {P : Program} {T : Tabs} (h : T.okB P = true) {sum : Nat → Option Summ} {body : Nat → Option Body} (hf : FnsOk P sum body) (cut : List Nat → Bool) : EOk P (envOf T sum body cut) := by
  unfold Tabs.okB at h
  simp only [Bool.and_eq_true, List.all_eq_true] at h
  obtain ⟨h1, h2, h3, h4⟩ := h
  exact ⟨tab_all T.ty fun p hp => tyOk_of (h1 p hp).1, tab_all T.fld fun p hp => fldOk_of (h2 p hp),
    fun t te b ht => tab_all (Q := fun t x => ElOk P t x.1 x.2) T.el (fun p hp => elOk_of (h3 p hp)) t (te, b) ht, tab_all T.eqT fun p hp => eqOk_of (h4 p hp), tab_all (Q := fun (t : Nat) (y : TY) => y = TY.sc (.sl (.one (.int .u8))) → ∃ e, P.underlying t = some (.slice e) ∧ P.underlying e = some (.int .u8)) T.ty fun p hp => elu_of (h1 p hp).2, hf.sum, hf.body⟩

theorem FnsOk.none {P : Program} : FnsOk P (fun _ => none) (fun _ => none) := ⟨fun _ _ h => (by cases h), fun _ _ h => (by cases h)⟩

def addS (f : Nat) (s : Summ) (sum : Nat → Option Summ) : Nat → Option Summ := fun g => bif Nat.beq g f then some s else sum g
def addB (f : Nat) (b : Body) (body : Nat → Option Body) : Nat → Option Body := fun g => bif Nat.beq g f then some b else body g

theorem FnsOk.addS {P : Program} {sum : Nat → Option Summ} {body : Nat → Option Body} (h : FnsOk P sum body) {f : Nat} {s : Summ} (hc : Contract P f s) : FnsOk P (addS f s sum) body := by
  refine ⟨fun g t hg => ?_, h.body⟩
  simp only [Vx.addS] at hg
  cases hb : Nat.beq g f
  · rw [hb] at hg; exact h.sum g t hg
  · rw [hb] at hg
    have e := Nat.eq_of_beq_eq_true hb
    cases hg
    rw [e]; exact hc

theorem FnsOk.addB {P : Program} {sum : Nat → Option Summ} {body : Nat → Option Body} (h : FnsOk P sum body) {f : Nat} {b : Body} (hc : BodyOk P f b) : FnsOk P sum (addB f b body) := by
  refine ⟨h.sum, fun g t hg => ?_⟩
  simp only [Vx.addB] at hg
  cases hb : Nat.beq g f
  · rw [hb] at hg; exact h.body g t hg
  · rw [hb] at hg
    have e := Nat.eq_of_beq_eq_true hb
    cases hg
    rw [e]; exact hc

/-- The body, read off the program's function. -/
def Body.of (fn : Func) : Body := { code := fn.body.getD .skip, ntmps := fn.ntmps, results := fn.results.toList }

theorem bodyOk_of {P : Program} {f : Nat} {fn : Func} (h : P.funcs[f]? = some fn) (hn : (fn.name == "runtime.NumGoroutine") = false) (hb : fn.body.isSome = true) : BodyOk P f (Body.of fn) :=
  ⟨⟨fn, h, hn, hb⟩, fn, h, by
    obtain ⟨c, hc⟩ := Option.isSome_iff_exists.1 hb
    simp [Body.of, hc], rfl, by simp [Body.of]⟩
end Go.Proofs.Ythdjomfkechfoaa.Vx
