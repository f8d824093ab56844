/-
  Vx, part w: plain words for what the executor comes to.
-/
import Derived.Test.YthdjomfkechfoaaVb
import Derived.Laws.BitsLemmas
namespace Go.Proofs.Ythdjomfkechfoaa.Vx
open Go

theorem w64 {n : Int} (h : -9223372036854775808 ≤ n) (h' : n ≤ 9223372036854775807) : IntKind.i64.wrap n = n := by
  rw [IntKind.wrap_i64]; omega

theorem bif_dec {α : Type} {p : Prop} [Decidable p] {a b : α} : (bif decide p then a else b) = if p then a else b := by
  by_cases h : p <;> simp [h]

theorem bif_beq {α : Type} {x y : Int} {a b : α} : (bif x == y then a else b) = if x = y then a else b := by
  by_cases h : x = y
  · simp [h]
  · rw [if_neg h, beq_false_of_ne h]; rfl

theorem bif_bne {α : Type} {x y : Int} {a b : α} : (bif x != y then a else b) = if x = y then b else a := by
  by_cases h : x = y
  · simp [h]
  · rw [if_neg h, bne, beq_false_of_ne h]; rfl

theorem bif_not {α : Type} {c : Bool} {a b : α} : (bif !c then a else b) = bif c then b else a := by
  cases c <;> rfl

theorem bif_if {α : Type} {c : Bool} {a b : α} : (bif c then a else b) = if c = true then a else b := by
  cases c <;> rfl

theorem ite_to {α : Type} {p : Prop} [Decidable p] {a b c : α} (h1 : p → a = c) (h2 : ¬ p → b = c) : (if p then a else b) = c := by
  by_cases h : p
  · rw [if_pos h]; exact h1 h
  · rw [if_neg h]; exact h2 h

theorem to_ite {α : Type} {p : Prop} [Decidable p] {a b c : α} (h1 : p → c = a) (h2 : ¬ p → c = b) : c = if p then a else b := by
  by_cases h : p
  · rw [if_pos h]; exact h1 h
  · rw [if_neg h]; exact h2 h

theorem imin_eq (x y : Int) : imin x y = min x y := by
  unfold imin
  rw [bif_dec]
  omega

theorem imax_eq (x y : Int) : imax x y = max x y := by
  unfold imax
  rw [bif_dec]
  omega

theorem getI_at {α : Type} {xs : List α} {i : Int} (h0 : 0 ≤ i) (h1 : i.toNat < xs.length) : getI xs i = some xs[i.toNat] := by
  unfold getI
  simp [h0, h1]

theorem getI_nat {α : Type} {xs : List α} {i : Nat} (h1 : i < xs.length) : getI xs (i : Int) = some xs[i] := by
  rw [getI_at (by omega) (by simpa using h1)]
  simp

theorem getI_cast {α : Type} (xs : List α) (i : Nat) : getI xs (i : Int) = xs[i]? := by
  unfold getI
  simp

theorem wf64 {n : Int} (h : (Lit.int .i64 n).wf = true) : -9223372036854775808 ≤ n ∧ n ≤ 9223372036854775807 := by
  simpa [Lit.wf, IntKind.min, IntKind.max, IntKind.bits, IntKind.signed] using h
end Go.Proofs.Ythdjomfkechfoaa.Vx
