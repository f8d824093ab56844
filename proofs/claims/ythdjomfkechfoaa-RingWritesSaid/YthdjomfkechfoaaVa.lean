/-
  Vx, part a: typed symbolic values, a small heap, and an executor of a function's code over them, in continuation form.
-/
import Derived.Calls
import Derived.Below
import Derived.KernelRfl
namespace Go.Proofs.Ythdjomfkechfoaa.Vx
open Go

/-! ### layouts -/
mutual
inductive CT where
  | int (k : IntKind)
  | bool
  | str
  | sl (l : Lay)
inductive Lay where
  | one (c : CT)
  | cons (c : CT) (l : Lay)
end

mutual
@[reducible] def CT.den : CT → Type
  | .int _ => Int
  | .bool => Bool
  | .str => ByteArray
  | .sl l => List l.den
@[reducible] def Lay.den : Lay → Type
  | .one c => c.den
  | .cons c l => c.den × l.den
end

def Lay.size : Lay → Nat
  | .one _ => 1
  | .cons _ l => l.size + 1

def kbeq : IntKind → IntKind → Bool
  | .i8, .i8 | .i16, .i16 | .i32, .i32 | .i64, .i64 | .u8, .u8 | .u16, .u16 | .u32, .u32 | .u64, .u64 => true
  | _, _ => false

mutual
def CT.beq : CT → CT → Bool
  | .int k, .int k' => kbeq k k'
  | .bool, .bool => true
  | .str, .str => true
  | .sl l, .sl l' => l.beq l'
  | _, _ => false
def Lay.beq : Lay → Lay → Bool
  | .one c, .one c' => c.beq c'
  | .cons c l, .cons c' l' => c.beq c' && l.beq l'
  | _, _ => false
end

theorem kbeq_eq {k k' : IntKind} (h : kbeq k k' = true) : k = k' := by
  cases k <;> cases k' <;> first | rfl | (simp [kbeq] at h)

mutual
theorem CT.beq_eq : ∀ (c c' : CT), c.beq c' = true → c = c'
  | .int k, .int k', h => by have e : k = k' := kbeq_eq (by simpa [CT.beq] using h); rw [e]
  | .bool, .bool, _ => rfl
  | .str, .str, _ => rfl
  | .sl l, .sl l', h => by have e := Lay.beq_eq l l' (by simpa [CT.beq] using h); rw [e]
  | .int _, .bool, h | .int _, .str, h | .int _, .sl _, h | .bool, .int _, h | .bool, .str, h | .bool, .sl _, h
  | .str, .int _, h | .str, .bool, h | .str, .sl _, h | .sl _, .int _, h | .sl _, .bool, h | .sl _, .str, h => by simp [CT.beq] at h
theorem Lay.beq_eq : ∀ (l l' : Lay), l.beq l' = true → l = l'
  | .one c, .one c', h => by have e := CT.beq_eq c c' (by simpa [Lay.beq] using h); rw [e]
  | .cons c l, .cons c' l', h => by
    have h' : c.beq c' = true ∧ l.beq l' = true := by simpa [Lay.beq] using h
    rw [CT.beq_eq c c' h'.1, Lay.beq_eq l l' h'.2]
  | .one _, .cons _ _, h | .cons _ _, .one _, h => by simp [Lay.beq] at h
end

def CT.castTo {c : CT} (x : c.den) (c' : CT) : Option c'.den :=
  if h : c.beq c' = true then some (CT.beq_eq c c' h ▸ x) else none

def Lay.castTo {l : Lay} (x : l.den) (l' : Lay) : Option l'.den :=
  if h : l.beq l' = true then some (Lay.beq_eq l l' h ▸ x) else none

/-- What lies from place 'off' on. -/
def Lay.get : (l : Lay) → l.den → Nat → (l' : Lay) → Option l'.den
  | .one c, x, 0, .one c' => CT.castTo (c := c) x c'
  | .cons c _, x, 0, .one c' => CT.castTo (c := c) x.1 c'
  | .cons c l, x, 0, .cons c' l' => (CT.castTo (c := c) x.1 c').bind fun a => (Lay.get l x.2 0 l').map fun b => (a, b)
  | .one _, _, 0, .cons _ _ => none
  | .one _, _, _ + 1, _ => none
  | .cons _ l, x, n + 1, l' => Lay.get l x.2 n l'

def Lay.set : (l : Lay) → l.den → Nat → (l' : Lay) → l'.den → Option l.den
  | .one c, _, 0, .one c', y => CT.castTo (c := c') y c
  | .cons c _, x, 0, .one c', y => (CT.castTo (c := c') y c).map fun a => (a, x.2)
  | .cons c l, x, 0, .cons c' l', y => (CT.castTo (c := c') y.1 c).bind fun a => (Lay.set l x.2 0 l' y.2).map fun b => (a, b)
  | .one _, _, 0, .cons _ _, _ => none
  | .one _, _, _ + 1, _, _ => none
  | .cons _ l, x, n + 1, l', y => (Lay.set l x.2 n l' y).map fun b => (x.1, b)

def CT.zero : (c : CT) → c.den
  | .int _ => (0 : Int)
  | .bool => false
  | .str => ByteArray.empty
  | .sl _ => []

def Lay.zero : (l : Lay) → l.den
  | .one c => c.zero
  | .cons c l => (c.zero, l.zero)

/-! ### types of values -/
inductive TY where
  | sc (c : CT)
  | st (l : Lay)

def TY.lay : TY → Lay
  | .sc c => .one c
  | .st l => l

@[reducible] def TY.den (t : TY) : Type := t.lay.den

@[reducible] def Den : List TY → Type
  | [] => Unit
  | t :: ts => t.den × Den ts

/-- A constant's data. -/
def CT.ofConst : (c : CT) → Value → Option c.den
  | .int k, .int k' n => bif kbeq k k' then some (n : Int) else none
  | .bool, .bool b => some b
  | .str, .string s => some s
  | .sl _, .slice none 0 0 => some []
  | _, _ => none

def Lay.ofConst : (l : Lay) → List Value → Option l.den
  | .one c, [v] => c.ofConst v
  | .cons c l, v :: vs => (c.ofConst v).bind fun a => (Lay.ofConst l vs).map fun b => (a, b)
  | _, _ => none

def TY.ofConst : (t : TY) → Value → Option t.den
  | .sc c, v => c.ofConst v
  | .st l, .agg cs => Lay.ofConst l cs.toList
  | .st _, _ => none

/-! ### symbolic values -/
abbrev Key := List Nat

def Key.eq : Key → Key → Bool
  | [], [] => true
  | a :: p, b :: q => bif Nat.beq a b then Key.eq p q else false
  | _, _ => false

inductive AV where
  | undef
  | dat (t : TY) (x : t.den)
  | con (v : Value)
  | fsl (l : Lay) (xs : List l.den)
  | osl (l : Lay) (xs : List l.den) (t : Nat)
  | ptr (k : Key) (off : Nat)
  | ept (l : Lay) (x : l.den) (off : Nat)
  | tup (vs : List AV)
  | fn (f : Nat) (caps : List AV)

/-- Its data at a type. -/
def AV.to : AV → (t : TY) → Option t.den
  | .dat (.sc c) x, .sc c' => CT.castTo (c := c) x c'
  | .dat (.st l) x, .st l' => Lay.castTo (l := l) x l'
  | .con v, t => t.ofConst v
  | .fsl l xs, .sc c' => CT.castTo (c := .sl l) xs c'
  | .osl l xs _, .sc c' => CT.castTo (c := .sl l) xs c'
  | _, _ => none

def AV.int? : AV → Option (IntKind × Int)
  | .dat (.sc (.int k)) n => some (k, n)
  | _ => none

def AV.bool? : AV → Option Bool
  | .dat (.sc .bool) b => some b
  | _ => none

structure Blk where
  lay : Lay
  x : lay.den

structure H where
  blk : Key → Option Blk
  tok : Nat → Bool
  nt : Nat

def H.empty : H := { blk := fun _ => none, tok := fun _ => false, nt := 0 }

def H.setBlk (h : H) (k : Key) (b : Blk) : H := { h with blk := fun q => bif Key.eq q k then some b else h.blk q }

/-- A new token. -/
def H.fresh (h : H) : H := { h with tok := fun t => bif Nat.beq t h.nt then true else h.tok t, nt := h.nt + 1 }

/-- A token is used up. -/
def H.spend (h : H) (t : Nat) : H := { h with tok := fun u => bif Nat.beq u t then false else h.tok u }

def getI {α : Type} (xs : List α) (i : Int) : Option α := bif decide (0 ≤ i) then xs[i.toNat]? else none

/-! ### what is known of the program -/
def resList : (rs : List TY) → Den rs → List AV
  | [], _ => []
  | t :: ts, x => .dat t x.1 :: resList ts x.2

structure Summ where
  ps : List TY
  rs : List TY
  F : Den ps → Option (Den rs)
  out : Den rs → List AV := resList rs

structure Body where
  code : Code
  ntmps : Nat
  results : List ResultVar

end Go.Proofs.Ythdjomfkechfoaa.Vx
