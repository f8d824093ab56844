/-
  Vx, part c: what it is for a value of the machine to be a symbolic value, and that it stays so.
-/
import Derived.Test.YthdjomfkechfoaaVb
import Derived.Laws.AppendOwn
import Derived.Laws.World
import Derived.Laws.Cells
import Derived.Laws.Sem
namespace Go.Proofs.Ythdjomfkechfoaa.Vx
open Go Go.RowKit

mutual
def CT.rep (w : World) (F : Nat → Nat → Prop) : (c : CT) → c.den → Value → Prop
  | .int k, n, v => v = .int k n
  | .bool, b, v => v = .bool b
  | .str, s, v => v = .string s
  | .sl l, xs, v => ∃ a cap, v = .slice a (List.length xs) cap ∧ List.length xs ≤ cap ∧
      (0 < List.length xs → ∃ B off, a = some ⟨B, off, none⟩ ∧ ∀ (i : Nat) (x : l.den), xs[i]? = some x → l.lies w F x B (off + i * l.size))
def Lay.lies (w : World) (F : Nat → Nat → Prop) : (l : Lay) → l.den → Nat → Nat → Prop
  | .one c, x, B, o => ∃ v, w.cell? ⟨B, o, none⟩ = some v ∧ F B o ∧ c.rep w F x v
  | .cons c l, x, B, o => (∃ v, w.cell? ⟨B, o, none⟩ = some v ∧ F B o ∧ c.rep w F x.1 v) ∧ l.lies w F x.2 B (o + 1)
end

def Lay.vals (w : World) (F : Nat → Nat → Prop) : (l : Lay) → l.den → List Value → Prop
  | .one c, x, vs => ∃ v, vs = [v] ∧ c.rep w F x v
  | .cons c l, x, vs => ∃ v us, vs = v :: us ∧ c.rep w F x.1 v ∧ Lay.vals w F l x.2 us

def TY.rep (w : World) (F : Nat → Nat → Prop) : (t : TY) → t.den → Value → Prop
  | .sc c, x, v => c.rep w F x v
  | .st l, x, v => ∃ vs : List Value, v = .agg vs.toArray ∧ l.vals w F x vs

/-- The two worlds agree where it counts. -/
def Keeps (w : World) (F : Nat → Nat → Prop) (w' : World) (F' : Nat → Nat → Prop) : Prop :=
  ∀ B o v, F B o → w.cell? ⟨B, o, none⟩ = some v → w'.cell? ⟨B, o, none⟩ = some v ∧ F' B o

theorem Keeps.refl (w : World) (F : Nat → Nat → Prop) : Keeps w F w F := fun _ _ _ hf hc => ⟨hc, hf⟩

theorem Keeps.trans {w w' w'' : World} {F F' F'' : Nat → Nat → Prop} (h : Keeps w F w' F') (k : Keeps w' F' w'' F'') : Keeps w F w'' F'' :=
  fun B o v hf hc => let ⟨hc', hf'⟩ := h B o v hf hc; k B o v hf' hc'

section
variable {w w' : World} {F F' : Nat → Nat → Prop}

mutual
theorem CT.rep_keeps (hk : Keeps w F w' F') : (c : CT) → (x : c.den) → (v : Value) → c.rep w F x v → c.rep w' F' x v
  | .int _, _, _, h => h
  | .bool, _, _, h => h
  | .str, _, _, h => h
  | .sl l, xs, v, h => by
    obtain ⟨a, cap, hv, hle, h⟩ := h
    refine ⟨a, cap, hv, hle, fun hp => ?_⟩
    obtain ⟨B, off, ha, h⟩ := h hp
    exact ⟨B, off, ha, fun i x hx => Lay.lies_keeps hk l x B _ (h i x hx)⟩
theorem Lay.lies_keeps (hk : Keeps w F w' F') : (l : Lay) → (x : l.den) → (B o : Nat) → l.lies w F x B o → l.lies w' F' x B o
  | .one c, x, B, o, h => by
    obtain ⟨v, hc, hf, hr⟩ := h
    obtain ⟨hc', hf'⟩ := hk B o v hf hc
    exact ⟨v, hc', hf', CT.rep_keeps hk c x v hr⟩
  | .cons c l, x, B, o, h => by
    obtain ⟨⟨v, hc, hf, hr⟩, h2⟩ := h
    obtain ⟨hc', hf'⟩ := hk B o v hf hc
    exact ⟨⟨v, hc', hf', CT.rep_keeps hk c x.1 v hr⟩, Lay.lies_keeps hk l x.2 B (o + 1) h2⟩
end

theorem Lay.vals_keeps (hk : Keeps w F w' F') : (l : Lay) → (x : l.den) → (vs : List Value) → l.vals w F x vs → l.vals w' F' x vs
  | .one c, x, vs, h => by
    obtain ⟨v, hv, hr⟩ := h
    exact ⟨v, hv, CT.rep_keeps hk c x v hr⟩
  | .cons c l, x, vs, h => by
    obtain ⟨v, us, hv, hr, h2⟩ := h
    exact ⟨v, us, hv, CT.rep_keeps hk c x.1 v hr, Lay.vals_keeps hk l x.2 us h2⟩

theorem TY.rep_keeps (hk : Keeps w F w' F') : (t : TY) → (x : t.den) → (v : Value) → t.rep w F x v → t.rep w' F' x v
  | .sc c, x, v, h => CT.rep_keeps hk c x v h
  | .st l, x, v, h => by
    obtain ⟨vs, hv, h⟩ := h
    exact ⟨vs, hv, Lay.vals_keeps hk l x vs h⟩

/-! ### cells -/
theorem CT.rep_one : (c : CT) → (x : c.den) → (v : Value) → c.rep w F x v → v.oneCell' = true ∧ v.cells = #[v]
  | .int _, _, _, h => by cases h; exact ⟨rfl, rfl⟩
  | .bool, _, _, h => by cases h; exact ⟨rfl, rfl⟩
  | .str, _, _, h => by cases h; exact ⟨rfl, rfl⟩
  | .sl _, _, _, h => by obtain ⟨a, cap, hv, _⟩ := h; cases hv; exact ⟨rfl, rfl⟩

theorem Lay.vals_length : (l : Lay) → (x : l.den) → (vs : List Value) → l.vals w F x vs → vs.length = l.size
  | .one _, _, _, h => by obtain ⟨v, rfl, _⟩ := h; rfl
  | .cons c l, x, _, h => by
    obtain ⟨v, us, rfl, _, h2⟩ := h
    simp [Lay.size, Lay.vals_length l x.2 us h2]

theorem Lay.vals_one : (l : Lay) → (x : l.den) → (vs : List Value) → l.vals w F x vs → ∀ v ∈ vs, v.oneCell' = true
  | .one c, x, _, h => by
    obtain ⟨v, rfl, hr⟩ := h
    intro u hu
    simp only [List.mem_singleton] at hu
    subst hu
    exact (CT.rep_one c x u hr).1
  | .cons c l, x, _, h => by
    obtain ⟨v, us, rfl, hr, h2⟩ := h
    intro u hu
    rcases List.mem_cons.1 hu with rfl | hu
    · exact (CT.rep_one c x.1 u hr).1
    · exact Lay.vals_one l x.2 us h2 u hu

/-- Cells in a row. -/
def RowAt (w : World) (F : Nat → Nat → Prop) (B o : Nat) (vs : List Value) : Prop :=
  ∀ j v, vs[j]? = some v → w.cell? ⟨B, o + j, none⟩ = some v ∧ F B (o + j)

theorem RowAt.cons {B o : Nat} {v : Value} {vs : List Value} (h : w.cell? ⟨B, o, none⟩ = some v ∧ F B o) (h2 : RowAt w F B (o + 1) vs) : RowAt w F B o (v :: vs) := by
  intro j u hu
  cases j with
  | zero => simp at hu; subst hu; exact h
  | succ j => simp at hu; have := h2 j u hu; rw [show o + (j + 1) = o + 1 + j by omega]; exact this

theorem RowAt.head {B o : Nat} {v : Value} {vs : List Value} (h : RowAt w F B o (v :: vs)) : w.cell? ⟨B, o, none⟩ = some v ∧ F B o := h 0 v rfl
theorem RowAt.tail {B o : Nat} {v : Value} {vs : List Value} (h : RowAt w F B o (v :: vs)) : RowAt w F B (o + 1) vs := by
  intro j u hu
  have := h (j + 1) u (by simpa using hu)
  rw [show o + (j + 1) = o + 1 + j by omega] at this
  exact this

theorem Lay.lies_iff : (l : Lay) → (x : l.den) → (B o : Nat) → (l.lies w F x B o ↔ ∃ vs, l.vals w F x vs ∧ RowAt w F B o vs)
  | .one c, x, B, o => by
    constructor
    · rintro ⟨v, hc, hf, hr⟩
      exact ⟨[v], ⟨v, rfl, hr⟩, RowAt.cons ⟨hc, hf⟩ (fun j u hu => by simp at hu)⟩
    · rintro ⟨vs, ⟨v, rfl, hr⟩, hrow⟩
      exact ⟨v, hrow.head.1, hrow.head.2, hr⟩
  | .cons c l, x, B, o => by
    constructor
    · rintro ⟨⟨v, hc, hf, hr⟩, h2⟩
      obtain ⟨us, hu, hrow⟩ := (Lay.lies_iff l x.2 B (o + 1)).1 h2
      exact ⟨v :: us, ⟨v, us, rfl, hr, hu⟩, RowAt.cons ⟨hc, hf⟩ hrow⟩
    · rintro ⟨vs, ⟨v, us, rfl, hr, hu⟩, hrow⟩
      exact ⟨⟨v, hrow.head.1, hrow.head.2, hr⟩, (Lay.lies_iff l x.2 B (o + 1)).2 ⟨us, hu, hrow.tail⟩⟩

/-! ### casts -/
theorem CT.castTo_rep {c c' : CT} {x : c.den} {y : c'.den} (h : CT.castTo x c' = some y) {v : Value} (hr : c.rep w F x v) : c'.rep w F y v := by
  unfold CT.castTo at h
  split at h
  · rename_i hb
    have e := CT.beq_eq c c' hb
    subst e
    cases h
    exact hr
  · cases h

theorem Lay.castTo_vals {l l' : Lay} {x : l.den} {y : l'.den} (h : Lay.castTo x l' = some y) {vs : List Value} (hr : l.vals w F x vs) : l'.vals w F y vs := by
  unfold Lay.castTo at h
  split at h
  · rename_i hb
    have e := Lay.beq_eq l l' hb
    subst e
    cases h
    exact hr
  · cases h

theorem List.take_cons_one {α : Type} (v : α) (us : List α) : (v :: us).take 1 = [v] := rfl

/-- What is read out of the middle. -/
theorem Lay.get_vals : (l : Lay) → (x : l.den) → (off : Nat) → (l' : Lay) → (y : l'.den) → Lay.get l x off l' = some y → ∀ vs, l.vals w F x vs →
    off + l'.size ≤ l.size ∧ l'.vals w F y ((vs.drop off).take l'.size)
  | .one c, x, 0, .one c', y, h, vs, hv => by
    obtain ⟨v, rfl, hr⟩ := hv
    exact ⟨by simp [Lay.size], v, rfl, CT.castTo_rep (by simpa [Lay.get] using h) hr⟩
  | .cons c l, x, 0, .one c', y, h, vs, hv => by
    obtain ⟨v, us, rfl, hr, _⟩ := hv
    exact ⟨by simp [Lay.size], v, rfl, CT.castTo_rep (by simpa [Lay.get] using h) hr⟩
  | .cons c l, x, 0, .cons c' l', y, h, vs, hv => by
    obtain ⟨v, us, rfl, hr, h2⟩ := hv
    simp only [Lay.get] at h
    obtain ⟨a, ha, h⟩ := Option.bind_eq_some_iff.1 h
    obtain ⟨b, hb, h⟩ := Option.map_eq_some_iff.1 h
    subst h
    obtain ⟨hle, h3⟩ := Lay.get_vals l x.2 0 l' b hb us h2
    refine ⟨by simp [Lay.size] at hle ⊢; omega, v, (us.take l'.size), by simp [Lay.size], CT.castTo_rep ha hr, by simpa using h3⟩
  | .one c, x, 0, .cons c' l', y, h, vs, hv => by simp [Lay.get] at h
  | .one c, x, off + 1, l', y, h, vs, hv => by simp [Lay.get] at h
  | .cons c l, x, off + 1, l', y, h, vs, hv => by
    obtain ⟨v, us, rfl, hr, h2⟩ := hv
    obtain ⟨hle, h3⟩ := Lay.get_vals l x.2 off l' y (by simpa [Lay.get] using h) us h2
    exact ⟨by simp [Lay.size]; omega, by simpa using h3⟩

/-- What is written into the middle. -/
theorem Lay.set_vals : (l : Lay) → (x : l.den) → (off : Nat) → (l' : Lay) → (y : l'.den) → (z : l.den) → Lay.set l x off l' y = some z → ∀ vs us, l.vals w F x vs → l'.vals w F y us →
    off + l'.size ≤ l.size ∧ l.vals w F z (vs.take off ++ us ++ vs.drop (off + l'.size))
  | .one c, x, 0, .one c', y, z, h, vs, us, hv, hu => by
    obtain ⟨v, rfl, hr⟩ := hv
    obtain ⟨u, rfl, hs⟩ := hu
    exact ⟨by simp [Lay.size], u, by simp [Lay.size], CT.castTo_rep (by simpa [Lay.set] using h) hs⟩
  | .cons c l, x, 0, .one c', y, z, h, vs, us, hv, hu => by
    obtain ⟨v, vs', rfl, hr, h2⟩ := hv
    obtain ⟨u, rfl, hs⟩ := hu
    simp only [Lay.set] at h
    obtain ⟨a, ha, h⟩ := Option.map_eq_some_iff.1 h
    subst h
    exact ⟨by simp [Lay.size], u, vs', by simp [Lay.size], CT.castTo_rep ha hs, h2⟩
  | .cons c l, x, 0, .cons c' l', y, z, h, vs, us, hv, hu => by
    obtain ⟨v, vs', rfl, hr, h2⟩ := hv
    obtain ⟨u, us', rfl, hs, hs2⟩ := hu
    simp only [Lay.set] at h
    obtain ⟨a, ha, h⟩ := Option.bind_eq_some_iff.1 h
    obtain ⟨b, hb, h⟩ := Option.map_eq_some_iff.1 h
    subst h
    obtain ⟨hle, h3⟩ := Lay.set_vals l x.2 0 l' y.2 b hb vs' us' h2 hs2
    refine ⟨by simp [Lay.size] at hle ⊢; omega, u, us' ++ vs'.drop l'.size, by simp [Lay.size], CT.castTo_rep ha hs, by simpa using h3⟩
  | .one c, x, 0, .cons c' l', y, z, h, vs, us, hv, hu => by simp [Lay.set] at h
  | .one c, x, off + 1, l', y, z, h, vs, us, hv, hu => by simp [Lay.set] at h
  | .cons c l, x, off + 1, l', y, z, h, vs, us, hv, hu => by
    obtain ⟨v, vs', rfl, hr, h2⟩ := hv
    simp only [Lay.set] at h
    obtain ⟨b, hb, h⟩ := Option.map_eq_some_iff.1 h
    subst h
    obtain ⟨hle, h3⟩ := Lay.set_vals l x.2 off l' y b hb vs' us h2 hu
    refine ⟨by simp [Lay.size]; omega, v, vs'.take off ++ us ++ vs'.drop (off + l'.size), ?_, hr, h3⟩
    rw [show off + 1 + l'.size = (off + l'.size) + 1 by omega]; simp

/-! ### constants -/
theorem CT.ofConst_rep : (c : CT) → (v : Value) → (x : c.den) → c.ofConst v = some x → c.rep w F x v
  | .int k, v, x, h => by
    cases v <;> simp [CT.ofConst] at h
    rename_i k' n
    cases hb : kbeq k k' <;> simp [hb] at h
    rw [kbeq_eq hb, ← h]
    rfl
  | .bool, v, x, h => by cases v <;> simp [CT.ofConst] at h; subst h; rfl
  | .str, v, x, h => by cases v <;> simp [CT.ofConst] at h; subst h; rfl
  | .sl l, v, x, h => by
    cases v <;> simp [CT.ofConst] at h
    rename_i a len cap
    cases a <;> cases len <;> cases cap <;> simp at h
    subst h
    exact ⟨none, 0, rfl, Nat.le_refl _, fun h => by simp at h⟩

theorem Lay.ofConst_vals : (l : Lay) → (vs : List Value) → (x : l.den) → l.ofConst vs = some x → l.vals w F x vs
  | .one c, vs, x, h => by
    match vs, h with
    | [v], h => exact ⟨v, rfl, CT.ofConst_rep c v x (by simpa [Lay.ofConst] using h)⟩
  | .cons c l, vs, x, h => by
    match vs, h with
    | v :: us, h =>
      simp only [Lay.ofConst] at h
      obtain ⟨a, ha, h⟩ := Option.bind_eq_some_iff.1 h
      obtain ⟨b, hb, h⟩ := Option.map_eq_some_iff.1 h
      subst h
      exact ⟨v, us, rfl, CT.ofConst_rep c v a ha, Lay.ofConst_vals l us b hb⟩

theorem TY.ofConst_rep : (t : TY) → (v : Value) → (x : t.den) → t.ofConst v = some x → t.rep w F x v
  | .sc c, v, x, h => CT.ofConst_rep c v x h
  | .st l, v, x, h => by
    cases v <;> simp [TY.ofConst] at h
    rename_i cs
    exact ⟨cs.toList, by simp, Lay.ofConst_vals l cs.toList x h⟩
end
end Go.Proofs.Ythdjomfkechfoaa.Vx
