/-
  Ythnfbkneleodnaa: what each Go function comes to, as a Lean function. Printed by gen.py, a program of this claim's own.
-/
import Derived.Test.YthnfbkneleodnaaVb
namespace Go.Proofs.Ythnfbkneleodnaa.Fn
open Go Go.Proofs.Ythnfbkneleodnaa.Vx
set_option linter.unusedVariables false


/-- filter.may -/
def f15 (x0 : Int × Int) : Option (Bool × Unit) :=
  bif decide (x0.1 ≥ (0 : Int)) then
    bif decide (x0.1 ≤ (1125899906842624 : Int)) then
      bif decide (x0.2 ≥ (0 : Int)) then some ((decide (x0.2 ≤ (1152921504606846976 : Int))), ()) else
      some (false, ())
    else
      some (false, ())
  else
    some (false, ())

/-- filter.beats -/
def f16 (x0 : Int) (x1 : Int) (x2 : Bool) : Option (Bool × Unit) :=
  bif x2 then
    bif decide (x0 ≥ x1) then some (true, ()) else
    bif !x2 then some ((decide (x0 ≤ x1)), ()) else
    some (false, ())
  else
    bif !x2 then some ((decide (x0 ≤ x1)), ()) else
    some (false, ())

/-- filter.Check -/
def f13e (k1 : (List (Int × Int)) → Bool → (List (Int × Int)) → Int → Int → Option (Int × Unit)) (x0 : List (Int × Int)) (x1 : Bool) : Option (Int × Unit) :=
  k1 x0 x1 x0 ((x0.length : Nat) : Int) (0 : Int)

def f13s1 (k1 : (List (Int × Int)) → Bool → (List (Int × Int)) → Int → Int → Option (Int × Unit)) (s1 : List (Int × Int)) (s2 : Bool) (s3 : List (Int × Int)) (s4 : Int) (s5 : Int) : Option (Int × Unit) :=
  bif decide (s5 < s4) then
    (getI s3 s5).bind fun e1 =>
    (f15 e1).bind fun r2 =>
    bif !r2.1 then some ((2 : Int), ()) else
    bif decide (s5 > (0 : Int)) then
      (getI s1 (IntKind.i64.wrap (s5 - (1 : Int)))).bind fun e3 =>
      bif decide (e3.1 ≥ e1.1) then some ((2 : Int), ()) else
      (getI s1 (IntKind.i64.wrap (s5 - (1 : Int)))).bind fun e4 =>
      (f16 e1.2 e4.2 s2).bind fun r5 =>
      bif r5.1 then some ((2 : Int), ()) else
      k1 s1 s2 s3 s4 (IntKind.i64.wrap (s5 + (1 : Int)))
    else
      k1 s1 s2 s3 s4 (IntKind.i64.wrap (s5 + (1 : Int)))
  else
    some ((0 : Int), ())

def f13L : Nat → (List (Int × Int)) → Bool → (List (Int × Int)) → Int → Int → Option (Int × Unit)
  | 0 => fun _ _ _ _ _ => none
  | n + 1 => fun s1 s2 s3 s4 s5 => f13s1 (f13L n) s1 s2 s3 s4 s5

def f13 (x0 : List (Int × Int)) (x1 : Bool) : Option (Int × Unit) := f13e (f13L (x0.length + 1005)) x0 x1

/-- filter.Put -/
def f7e (k1 : (List (Int × Int)) → Int → Int → Int → Bool → Int → Int → (Int × Int) → Option ((List (Int × Int)) × Int × Unit)) (k2 : (List (Int × Int)) → Int → Bool → Int → Int → (Int × Int) → Option ((List (Int × Int)) × Int × Unit)) (x0 : List (Int × Int)) (x1 : Int) (x2 : Int) (x3 : Int) (x4 : Bool) : Option ((List (Int × Int)) × Int × Unit) :=
  (f13 x0 x4).bind fun r1 =>
  bif r1.1 != (0 : Int) then some (([] : List (Int × Int)), (2 : Int), ()) else
  (f15 (x1, x2)).bind fun r2 =>
  bif !r2.1 then some (([] : List (Int × Int)), (2 : Int), ()) else
  (f15 (x3, (0 : Int))).bind fun r3 =>
  bif !r3.1 then some (([] : List (Int × Int)), (2 : Int), ()) else
  bif decide (((x0.length : Nat) : Int) > (0 : Int)) then
    (getI x0 (IntKind.i64.wrap (((x0.length : Nat) : Int) - (1 : Int)))).bind fun e4 =>
    bif decide (e4.1 ≥ x1) then some (([] : List (Int × Int)), (2 : Int), ()) else
    k1 x0 x1 x2 x3 x4 (0 : Int) ((x0.length : Nat) : Int) (x1, x2)
  else
    k1 x0 x1 x2 x3 x4 (0 : Int) ((x0.length : Nat) : Int) (x1, x2)

def f7s1 (k1 : (List (Int × Int)) → Int → Int → Int → Bool → Int → Int → (Int × Int) → Option ((List (Int × Int)) × Int × Unit)) (k2 : (List (Int × Int)) → Int → Bool → Int → Int → (Int × Int) → Option ((List (Int × Int)) × Int × Unit)) (s1 : List (Int × Int)) (s2 : Int) (s3 : Int) (s4 : Int) (s5 : Bool) (s6 : Int) (s7 : Int) (s8 : Int × Int) : Option ((List (Int × Int)) × Int × Unit) :=
  bif decide (s6 < s7) then
    (getI s1 s6).bind fun e1 =>
    bif decide ((IntKind.i64.wrap (e1.1 + s4)) < s2) then k1 s1 s2 s3 s4 s5 (IntKind.i64.wrap (s6 + (1 : Int))) s7 s8 else
    k2 s1 s3 s5 s6 s7 s8
  else
    k2 s1 s3 s5 s6 s7 s8

def f7s2 (k1 : (List (Int × Int)) → Int → Int → Int → Bool → Int → Int → (Int × Int) → Option ((List (Int × Int)) × Int × Unit)) (k2 : (List (Int × Int)) → Int → Bool → Int → Int → (Int × Int) → Option ((List (Int × Int)) × Int × Unit)) (s1 : List (Int × Int)) (s2 : Int) (s3 : Bool) (s4 : Int) (s5 : Int) (s6 : Int × Int) : Option ((List (Int × Int)) × Int × Unit) :=
  bif decide (s4 < s5) then
    (getI s1 (IntKind.i64.wrap (s5 - (1 : Int)))).bind fun e1 =>
    (f16 s2 e1.2 s3).bind fun r2 =>
    bif r2.1 then k2 s1 s2 s3 s4 (IntKind.i64.wrap (s5 - (1 : Int))) s6 else
    bif (decide ((0 : Int) ≤ s4)) && ((decide (s4 ≤ s5)) && (decide (s5 ≤ ((s1.length : Nat) : Int)))) then
      bif decide (s5 = s5) then
        bif decide ((((s1.drop s4.toNat).take (s5 - s4).toNat).length + 1) * 16 ≤ 140737488355328) then some ((((s1.drop s4.toNat).take (s5 - s4).toNat) ++ [s6]), (0 : Int), ()) else
        none
      else
        none
    else
      none
  else
    bif (decide ((0 : Int) ≤ s4)) && ((decide (s4 ≤ s5)) && (decide (s5 ≤ ((s1.length : Nat) : Int)))) then
      bif decide (s5 = s5) then
        bif decide ((((s1.drop s4.toNat).take (s5 - s4).toNat).length + 1) * 16 ≤ 140737488355328) then some ((((s1.drop s4.toNat).take (s5 - s4).toNat) ++ [s6]), (0 : Int), ()) else
        none
      else
        none
    else
      none

def f7L : Nat → ((List (Int × Int)) → Int → Int → Int → Bool → Int → Int → (Int × Int) → Option ((List (Int × Int)) × Int × Unit)) × ((List (Int × Int)) → Int → Bool → Int → Int → (Int × Int) → Option ((List (Int × Int)) × Int × Unit))
  | 0 => (fun _ _ _ _ _ _ _ _ => none, fun _ _ _ _ _ _ => none)
  | n + 1 => (fun s1 s2 s3 s4 s5 s6 s7 s8 => f7s1 (f7L n).1 (f7L n).2 s1 s2 s3 s4 s5 s6 s7 s8, fun s1 s2 s3 s4 s5 s6 => f7s2 (f7L n).1 (f7L n).2 s1 s2 s3 s4 s5 s6)

def f7 (x0 : List (Int × Int)) (x1 : Int) (x2 : Int) (x3 : Int) (x4 : Bool) : Option ((List (Int × Int)) × Int × Unit) := f7e (f7L (x0.length + 1005)).1 (f7L (x0.length + 1005)).2 x0 x1 x2 x3 x4

/-- filter.Best -/
def f10 (x0 : List (Int × Int)) : Option (Int × Bool × Unit) :=
  bif ((x0.length : Nat) : Int) == (0 : Int) then some ((0 : Int), false, ()) else
  (getI x0 (0 : Int)).bind fun e1 =>
  some (e1.2, true, ())

/-- tidewayref12.Same -/
def f12e (k1 : (List (Int × Int)) → (List (Int × Int)) → Int → Option (Bool × Unit)) (x0 : List (Int × Int)) (x1 : List (Int × Int)) : Option (Bool × Unit) :=
  bif ((x0.length : Nat) : Int) != ((x1.length : Nat) : Int) then some (false, ()) else
  k1 x0 x1 (0 : Int)

def f12s1 (k1 : (List (Int × Int)) → (List (Int × Int)) → Int → Option (Bool × Unit)) (s1 : List (Int × Int)) (s2 : List (Int × Int)) (s3 : Int) : Option (Bool × Unit) :=
  bif decide (s3 < ((s1.length : Nat) : Int)) then
    (getI s1 s3).bind fun e1 =>
    (getI s2 s3).bind fun e2 =>
    bif !((e1.1 == e2.1) && (e1.2 == e2.2)) then some (false, ()) else
    k1 s1 s2 (IntKind.i64.wrap (s3 + (1 : Int)))
  else
    some (true, ())

def f12L : Nat → (List (Int × Int)) → (List (Int × Int)) → Int → Option (Bool × Unit)
  | 0 => fun _ _ _ => none
  | n + 1 => fun s1 s2 s3 => f12s1 (f12L n) s1 s2 s3

def f12 (x0 : List (Int × Int)) (x1 : List (Int × Int)) : Option (Bool × Unit) := f12e (f12L (x0.length + x1.length + 1005)) x0 x1

/-- tidewaylaw12.heads -/
def f8  : Option (Bool × Unit) :=
  (f7 ([] : List (Int × Int)) (0 : Int) (5 : Int) (10 : Int) true).bind fun r1 =>
  (f7 r1.1 (3 : Int) (4 : Int) (10 : Int) true).bind fun r2 =>
  (f7 r2.1 (4 : Int) (4 : Int) (10 : Int) true).bind fun r3 =>
  (f7 r3.1 (11 : Int) (1 : Int) (10 : Int) true).bind fun r4 =>
  (f7 r4.1 (2 : Int) (1 : Int) (10 : Int) true).bind fun r5 =>
  (f10 r4.1).bind fun r6 =>
  bif r1.2.1 == (0 : Int) then
    bif r2.2.1 == (0 : Int) then
      bif r3.2.1 == (0 : Int) then
        bif r4.2.1 == (0 : Int) then
          (f12 r3.1 [((0 : Int), (5 : Int)), ((4 : Int), (4 : Int))]).bind fun r7 =>
          bif r7.1 then
            (f12 r4.1 [((4 : Int), (4 : Int)), ((11 : Int), (1 : Int))]).bind fun r8 =>
            bif r8.1 then
              bif r5.2.1 == (2 : Int) then
                bif r6.1 == (4 : Int) then some (r6.2.1, ()) else
                some (false, ())
              else
                some (false, ())
            else
              some (false, ())
          else
            some (false, ())
        else
          some (false, ())
      else
        some (false, ())
    else
      some (false, ())
  else
    some (false, ())

/-- tidewaylaw12.FilterOld -/
def f3e (k1 : (List (Int × Int)) → Int → Int → Int → (List (Int × Int)) → Int → Int → Option (Bool × Unit)) (x0 : List (Int × Int)) (x1 : Int) (x2 : Int) (x3 : Int) : Option (Bool × Unit) :=
  (f7 x0 x1 x2 x3 true).bind fun r1 =>
  bif r1.2.1 != (0 : Int) then
    bif ((r1.1.length : Nat) : Int) == (0 : Int) then
      (f8).bind fun r2 =>
      some (r2.1, ())
    else
      some (false, ())
  else
    k1 x0 x1 x2 x3 r1.1 (0 : Int) (0 : Int)

def f3s1 (k1 : (List (Int × Int)) → Int → Int → Int → (List (Int × Int)) → Int → Int → Option (Bool × Unit)) (s1 : List (Int × Int)) (s2 : Int) (s3 : Int) (s4 : Int) (s5 : List (Int × Int)) (s6 : Int) (s7 : Int) : Option (Bool × Unit) :=
  bif decide (s7 < ((s1.length : Nat) : Int)) then
    (getI s1 s7).bind fun e1 =>
    bif decide ((IntKind.i64.wrap (e1.1 + s4)) ≥ s2) then
      (getI s1 s7).bind fun e2 =>
      bif decide (e2.2 > s3) then
        bif decide (s6 ≥ ((s5.length : Nat) : Int)) then some (false, ()) else
        (getI s5 s6).bind fun e3 =>
        (getI s1 s7).bind fun e4 =>
        bif !((e3.1 == e4.1) && (e3.2 == e4.2)) then some (false, ()) else
        bif decide (e2.2 > s3) then k1 s1 s2 s3 s4 s5 (IntKind.i64.wrap (s6 + (1 : Int))) (IntKind.i64.wrap (s7 + (1 : Int))) else
        k1 s1 s2 s3 s4 s5 s6 (IntKind.i64.wrap (s7 + (1 : Int)))
      else
        bif decide (e2.2 > s3) then k1 s1 s2 s3 s4 s5 (IntKind.i64.wrap (s6 + (1 : Int))) (IntKind.i64.wrap (s7 + (1 : Int))) else
        k1 s1 s2 s3 s4 s5 s6 (IntKind.i64.wrap (s7 + (1 : Int)))
    else
      k1 s1 s2 s3 s4 s5 s6 (IntKind.i64.wrap (s7 + (1 : Int)))
  else
    bif s6 == (IntKind.i64.wrap (((s5.length : Nat) : Int) - (1 : Int))) then
      (getI s5 s6).bind fun e5 =>
      bif (e5.1 == s2) && (e5.2 == s3) then
        (f8).bind fun r6 =>
        some (r6.1, ())
      else
        some (false, ())
    else
      some (false, ())

def f3L : Nat → (List (Int × Int)) → Int → Int → Int → (List (Int × Int)) → Int → Int → Option (Bool × Unit)
  | 0 => fun _ _ _ _ _ _ _ => none
  | n + 1 => fun s1 s2 s3 s4 s5 s6 s7 => f3s1 (f3L n) s1 s2 s3 s4 s5 s6 s7

def f3 (x0 : List (Int × Int)) (x1 : Int) (x2 : Int) (x3 : Int) : Option (Bool × Unit) := f3e (f3L (x0.length + 1005)) x0 x1 x2 x3

/-- tidewayref12.time -/
def f17 (x0 : Int) : Option (Bool × Unit) :=
  bif decide (x0 ≥ (0 : Int)) then some ((decide (x0 ≤ (1125899906842624 : Int))), ()) else
  some (false, ())

/-- tidewayref12.value -/
def f18 (x0 : Int) : Option (Bool × Unit) :=
  bif decide (x0 ≥ (0 : Int)) then some ((decide (x0 ≤ (1152921504606846976 : Int))), ()) else
  some (false, ())

/-- tidewayref12.Check -/
def f14e (k1 : (List (Int × Int)) → Bool → Int → Option (Int × Unit)) (x0 : List (Int × Int)) (x1 : Bool) : Option (Int × Unit) :=
  k1 x0 x1 (0 : Int)

def f14s1 (k1 : (List (Int × Int)) → Bool → Int → Option (Int × Unit)) (s1 : List (Int × Int)) (s2 : Bool) (s3 : Int) : Option (Int × Unit) :=
  bif decide (s3 < ((s1.length : Nat) : Int)) then
    (getI s1 s3).bind fun e1 =>
    (f17 e1.1).bind fun r2 =>
    bif !r2.1 then some ((2 : Int), ()) else
    (getI s1 s3).bind fun e3 =>
    (f18 e3.2).bind fun r4 =>
    bif !r4.1 then some ((2 : Int), ()) else
    bif decide (s3 > (0 : Int)) then
      (getI s1 s3).bind fun e5 =>
      (getI s1 (IntKind.i64.wrap (s3 - (1 : Int)))).bind fun e6 =>
      bif decide (e5.1 ≤ e6.1) then some ((2 : Int), ()) else
      bif decide (s3 > (0 : Int)) then
        bif s2 then
          (getI s1 s3).bind fun e7 =>
          (getI s1 (IntKind.i64.wrap (s3 - (1 : Int)))).bind fun e8 =>
          bif decide (e7.2 ≥ e8.2) then some ((2 : Int), ()) else
          bif !s2 then
            (getI s1 s3).bind fun e9 =>
            (getI s1 (IntKind.i64.wrap (s3 - (1 : Int)))).bind fun e10 =>
            bif decide (e9.2 ≤ e10.2) then some ((2 : Int), ()) else
            k1 s1 s2 (IntKind.i64.wrap (s3 + (1 : Int)))
          else
            k1 s1 s2 (IntKind.i64.wrap (s3 + (1 : Int)))
        else
          bif !s2 then
            (getI s1 s3).bind fun e11 =>
            (getI s1 (IntKind.i64.wrap (s3 - (1 : Int)))).bind fun e12 =>
            bif decide (e11.2 ≤ e12.2) then some ((2 : Int), ()) else
            k1 s1 s2 (IntKind.i64.wrap (s3 + (1 : Int)))
          else
            k1 s1 s2 (IntKind.i64.wrap (s3 + (1 : Int)))
      else
        k1 s1 s2 (IntKind.i64.wrap (s3 + (1 : Int)))
    else
      bif decide (s3 > (0 : Int)) then
        bif s2 then
          (getI s1 s3).bind fun e13 =>
          (getI s1 (IntKind.i64.wrap (s3 - (1 : Int)))).bind fun e14 =>
          bif decide (e13.2 ≥ e14.2) then some ((2 : Int), ()) else
          bif !s2 then
            (getI s1 s3).bind fun e15 =>
            (getI s1 (IntKind.i64.wrap (s3 - (1 : Int)))).bind fun e16 =>
            bif decide (e15.2 ≤ e16.2) then some ((2 : Int), ()) else
            k1 s1 s2 (IntKind.i64.wrap (s3 + (1 : Int)))
          else
            k1 s1 s2 (IntKind.i64.wrap (s3 + (1 : Int)))
        else
          bif !s2 then
            (getI s1 s3).bind fun e17 =>
            (getI s1 (IntKind.i64.wrap (s3 - (1 : Int)))).bind fun e18 =>
            bif decide (e17.2 ≤ e18.2) then some ((2 : Int), ()) else
            k1 s1 s2 (IntKind.i64.wrap (s3 + (1 : Int)))
          else
            k1 s1 s2 (IntKind.i64.wrap (s3 + (1 : Int)))
      else
        k1 s1 s2 (IntKind.i64.wrap (s3 + (1 : Int)))
  else
    some ((0 : Int), ())

def f14L : Nat → (List (Int × Int)) → Bool → Int → Option (Int × Unit)
  | 0 => fun _ _ _ => none
  | n + 1 => fun s1 s2 s3 => f14s1 (f14L n) s1 s2 s3

def f14 (x0 : List (Int × Int)) (x1 : Bool) : Option (Int × Unit) := f14e (f14L (x0.length + 1005)) x0 x1

/-- tidewayref12.Put -/
def f9e (k1 : (List (Int × Int)) → Int → Int → Int → Bool → Int → (List (Int × Int)) → Option ((List (Int × Int)) × Int × Unit)) (x0 : List (Int × Int)) (x1 : Int) (x2 : Int) (x3 : Int) (x4 : Bool) : Option ((List (Int × Int)) × Int × Unit) :=
  (f14 x0 x4).bind fun r1 =>
  bif r1.1 != (0 : Int) then some (([] : List (Int × Int)), (2 : Int), ()) else
  (f17 x1).bind fun r2 =>
  bif !r2.1 then some (([] : List (Int × Int)), (2 : Int), ()) else
  (f18 x2).bind fun r3 =>
  bif !r3.1 then some (([] : List (Int × Int)), (2 : Int), ()) else
  (f17 x3).bind fun r4 =>
  bif !r4.1 then some (([] : List (Int × Int)), (2 : Int), ()) else
  bif decide (((x0.length : Nat) : Int) > (0 : Int)) then
    (getI x0 (IntKind.i64.wrap (((x0.length : Nat) : Int) - (1 : Int)))).bind fun e5 =>
    bif decide (x1 ≤ e5.1) then some (([] : List (Int × Int)), (2 : Int), ()) else
    k1 x0 x1 x2 x3 x4 (0 : Int) ([] : List (Int × Int))
  else
    k1 x0 x1 x2 x3 x4 (0 : Int) ([] : List (Int × Int))

def f9s1 (k1 : (List (Int × Int)) → Int → Int → Int → Bool → Int → (List (Int × Int)) → Option ((List (Int × Int)) × Int × Unit)) (s1 : List (Int × Int)) (s2 : Int) (s3 : Int) (s4 : Int) (s5 : Bool) (s6 : Int) (s7 : List (Int × Int)) : Option ((List (Int × Int)) × Int × Unit) :=
  bif decide (s6 < ((s1.length : Nat) : Int)) then
    (getI s1 s6).bind fun e1 =>
    bif s5 then
      (getI s1 s6).bind fun e2 =>
      bif decide (e2.2 ≤ s3) then
        bif !(decide ((IntKind.i64.wrap (e1.1 + s4)) < s2)) then k1 s1 s2 s3 s4 s5 (IntKind.i64.wrap (s6 + (1 : Int))) s7 else
        k1 s1 s2 s3 s4 s5 (IntKind.i64.wrap (s6 + (1 : Int))) s7
      else
        bif !s5 then
          (getI s1 s6).bind fun e3 =>
          bif !(decide ((IntKind.i64.wrap (e1.1 + s4)) < s2)) then
            bif !(decide (e3.2 ≥ s3)) then
              (getI s1 s6).bind fun e4 =>
              bif decide ((s7.length + 1) * 16 ≤ 140737488355328) then k1 s1 s2 s3 s4 s5 (IntKind.i64.wrap (s6 + (1 : Int))) (s7 ++ [e4]) else
              none
            else
              k1 s1 s2 s3 s4 s5 (IntKind.i64.wrap (s6 + (1 : Int))) s7
          else
            k1 s1 s2 s3 s4 s5 (IntKind.i64.wrap (s6 + (1 : Int))) s7
        else
          bif !(decide ((IntKind.i64.wrap (e1.1 + s4)) < s2)) then
            (getI s1 s6).bind fun e5 =>
            bif decide ((s7.length + 1) * 16 ≤ 140737488355328) then k1 s1 s2 s3 s4 s5 (IntKind.i64.wrap (s6 + (1 : Int))) (s7 ++ [e5]) else
            none
          else
            k1 s1 s2 s3 s4 s5 (IntKind.i64.wrap (s6 + (1 : Int))) s7
    else
      bif !s5 then
        (getI s1 s6).bind fun e6 =>
        bif !(decide ((IntKind.i64.wrap (e1.1 + s4)) < s2)) then
          bif !(decide (e6.2 ≥ s3)) then
            (getI s1 s6).bind fun e7 =>
            bif decide ((s7.length + 1) * 16 ≤ 140737488355328) then k1 s1 s2 s3 s4 s5 (IntKind.i64.wrap (s6 + (1 : Int))) (s7 ++ [e7]) else
            none
          else
            k1 s1 s2 s3 s4 s5 (IntKind.i64.wrap (s6 + (1 : Int))) s7
        else
          k1 s1 s2 s3 s4 s5 (IntKind.i64.wrap (s6 + (1 : Int))) s7
      else
        bif !(decide ((IntKind.i64.wrap (e1.1 + s4)) < s2)) then
          (getI s1 s6).bind fun e8 =>
          bif decide ((s7.length + 1) * 16 ≤ 140737488355328) then k1 s1 s2 s3 s4 s5 (IntKind.i64.wrap (s6 + (1 : Int))) (s7 ++ [e8]) else
          none
        else
          k1 s1 s2 s3 s4 s5 (IntKind.i64.wrap (s6 + (1 : Int))) s7
  else
    bif decide ((s7.length + 1) * 16 ≤ 140737488355328) then some ((s7 ++ [(s2, s3)]), (0 : Int), ()) else
    none

def f9L : Nat → (List (Int × Int)) → Int → Int → Int → Bool → Int → (List (Int × Int)) → Option ((List (Int × Int)) × Int × Unit)
  | 0 => fun _ _ _ _ _ _ _ => none
  | n + 1 => fun s1 s2 s3 s4 s5 s6 s7 => f9s1 (f9L n) s1 s2 s3 s4 s5 s6 s7

def f9 (x0 : List (Int × Int)) (x1 : Int) (x2 : Int) (x3 : Int) (x4 : Bool) : Option ((List (Int × Int)) × Int × Unit) := f9e (f9L (x0.length + 1005)) x0 x1 x2 x3 x4

/-- tidewayref12.Best -/
def f11 (x0 : List (Int × Int)) : Option (Int × Bool × Unit) :=
  bif ((x0.length : Nat) : Int) == (0 : Int) then some ((0 : Int), false, ()) else
  (getI x0 (0 : Int)).bind fun e1 =>
  some (e1.2, true, ())

/-- tidewaylaw12.FilterPuts -/
def f4 (x0 : List (Int × Int)) (x1 : Int) (x2 : Int) (x3 : Int) : Option (Bool × Unit) :=
  bif decide ((0 + x0.length) * 16 ≤ 140737488355328) then
    (f7 (([] : List (Int × Int)) ++ x0) x1 x2 x3 true).bind fun r1 =>
    (f9 x0 x1 x2 x3 true).bind fun r2 =>
    (f7 (([] : List (Int × Int)) ++ x0) x1 x2 x3 false).bind fun r3 =>
    (f9 x0 x1 x2 x3 false).bind fun r4 =>
    (f10 x0).bind fun r5 =>
    (f11 x0).bind fun r6 =>
    (f12 r1.1 r2.1).bind fun r7 =>
    bif r7.1 then
      bif r1.2.1 == r2.2.1 then
        (f12 r3.1 r4.1).bind fun r8 =>
        bif r8.1 then
          bif r3.2.1 == r4.2.1 then
            bif r5.1 == r6.1 then
              bif r5.2.1 == r6.2.1 then
                (f13 x0 true).bind fun r9 =>
                (f14 x0 true).bind fun r10 =>
                bif r9.1 == r10.1 then
                  (f13 x0 false).bind fun r11 =>
                  (f14 x0 false).bind fun r12 =>
                  bif r11.1 == r12.1 then
                    (f12 (([] : List (Int × Int)) ++ x0) x0).bind fun r13 =>
                    bif r13.1 then
                      (f8).bind fun r14 =>
                      some (r14.1, ())
                    else
                      some (false, ())
                  else
                    some (false, ())
                else
                  some (false, ())
              else
                some (false, ())
            else
              some (false, ())
          else
            some (false, ())
        else
          some (false, ())
      else
        some (false, ())
    else
      some (false, ())
  else
    none

/-- tidewaylaw12.FilterBest -/
def f5e (k1 : (List (Int × Int)) → Int → Bool → (List (Int × Int)) → Int → Int → (List (Int)) → Option (Bool × Unit)) (k2 : (List (Int × Int)) → Int → Bool → (List (Int × Int)) → Int → Int → Int → Int → (List (Int)) → Option (Bool × Unit)) (x0 : List (Int × Int)) (x1 : Int) (x2 : Bool) : Option (Bool × Unit) :=
  bif decide (((x0.length : Nat) : Int) > (300 : Int)) then
    (f8).bind fun r1 =>
    some (r1.1, ())
  else
    bif decide (x1 < (0 : Int)) then
      (f8).bind fun r2 =>
      some (r2.1, ())
    else
      bif decide (x1 > (1125899906842624 : Int)) then
        (f8).bind fun r3 =>
        some (r3.1, ())
      else
        k1 x0 x1 x2 ([] : List (Int × Int)) (0 : Int) (0 : Int) ([] : List (Int))

def f5s1 (k1 : (List (Int × Int)) → Int → Bool → (List (Int × Int)) → Int → Int → (List (Int)) → Option (Bool × Unit)) (k2 : (List (Int × Int)) → Int → Bool → (List (Int × Int)) → Int → Int → Int → Int → (List (Int)) → Option (Bool × Unit)) (s1 : List (Int × Int)) (s2 : Int) (s3 : Bool) (s4 : List (Int × Int)) (s5 : Int) (s6 : Int) (s7 : List (Int)) : Option (Bool × Unit) :=
  bif decide (s6 < ((s1.length : Nat) : Int)) then
    (getI s1 s6).bind fun e1 =>
    bif decide (e1.1 < (0 : Int)) then
      (f8).bind fun r2 =>
      some (r2.1, ())
    else
      (getI s1 s6).bind fun e3 =>
      bif decide (e3.1 > (1099511627776 : Int)) then
        (f8).bind fun r4 =>
        some (r4.1, ())
      else
        (getI s1 s6).bind fun e5 =>
        bif decide (e5.2 < (0 : Int)) then
          (f8).bind fun r6 =>
          some (r6.1, ())
        else
          (getI s1 s6).bind fun e7 =>
          bif decide (e7.2 > (1152921504606846976 : Int)) then
            (f8).bind fun r8 =>
            some (r8.1, ())
          else
            (getI s1 s6).bind fun e9 =>
            bif decide ((s7.length + 1) * 8 ≤ 140737488355328) then
              (getI s1 s6).bind fun e10 =>
              (f7 s4 (IntKind.i64.wrap ((IntKind.i64.wrap (s5 + e9.1)) + (1 : Int))) e10.2 s2 s3).bind fun r11 =>
              bif r11.2.1 != (0 : Int) then some (false, ()) else
              (f13 r11.1 s3).bind fun r12 =>
              bif r12.1 != (0 : Int) then some (false, ()) else
              (getI s1 s6).bind fun e13 =>
              k2 s1 s2 s3 r11.1 (IntKind.i64.wrap ((IntKind.i64.wrap (s5 + e9.1)) + (1 : Int))) s6 e13.2 (0 : Int) (s7 ++ [(IntKind.i64.wrap ((IntKind.i64.wrap (s5 + e9.1)) + (1 : Int)))])
            else
              none
  else
    (f8).bind fun r14 =>
    some (r14.1, ())

def f5s2 (k1 : (List (Int × Int)) → Int → Bool → (List (Int × Int)) → Int → Int → (List (Int)) → Option (Bool × Unit)) (k2 : (List (Int × Int)) → Int → Bool → (List (Int × Int)) → Int → Int → Int → Int → (List (Int)) → Option (Bool × Unit)) (s1 : List (Int × Int)) (s2 : Int) (s3 : Bool) (s4 : List (Int × Int)) (s5 : Int) (s6 : Int) (s7 : Int) (s8 : Int) (s9 : List (Int)) : Option (Bool × Unit) :=
  bif decide (s8 ≤ s6) then
    (getI s9 s8).bind fun e1 =>
    bif decide ((IntKind.i64.wrap (e1 + s2)) ≥ s5) then
      bif s3 then
        (getI s1 s8).bind fun e2 =>
        bif decide (e2.2 > s7) then
          (getI s1 s8).bind fun e3 =>
          k2 s1 s2 s3 s4 s5 s6 e3.2 (IntKind.i64.wrap (s8 + (1 : Int))) s9
        else
          bif !s3 then
            (getI s1 s8).bind fun e4 =>
            bif decide (e4.2 < s7) then
              (getI s1 s8).bind fun e5 =>
              k2 s1 s2 s3 s4 s5 s6 e5.2 (IntKind.i64.wrap (s8 + (1 : Int))) s9
            else
              k2 s1 s2 s3 s4 s5 s6 s7 (IntKind.i64.wrap (s8 + (1 : Int))) s9
          else
            k2 s1 s2 s3 s4 s5 s6 s7 (IntKind.i64.wrap (s8 + (1 : Int))) s9
      else
        bif !s3 then
          (getI s1 s8).bind fun e6 =>
          bif decide (e6.2 < s7) then
            (getI s1 s8).bind fun e7 =>
            k2 s1 s2 s3 s4 s5 s6 e7.2 (IntKind.i64.wrap (s8 + (1 : Int))) s9
          else
            k2 s1 s2 s3 s4 s5 s6 s7 (IntKind.i64.wrap (s8 + (1 : Int))) s9
        else
          k2 s1 s2 s3 s4 s5 s6 s7 (IntKind.i64.wrap (s8 + (1 : Int))) s9
    else
      k2 s1 s2 s3 s4 s5 s6 s7 (IntKind.i64.wrap (s8 + (1 : Int))) s9
  else
    (f10 s4).bind fun r8 =>
    bif !r8.2.1 then some (false, ()) else
    bif r8.1 != s7 then some (false, ()) else
    k1 s1 s2 s3 s4 s5 (IntKind.i64.wrap (s6 + (1 : Int))) s9

def f5L : Nat → ((List (Int × Int)) → Int → Bool → (List (Int × Int)) → Int → Int → (List (Int)) → Option (Bool × Unit)) × ((List (Int × Int)) → Int → Bool → (List (Int × Int)) → Int → Int → Int → Int → (List (Int)) → Option (Bool × Unit))
  | 0 => (fun _ _ _ _ _ _ _ => none, fun _ _ _ _ _ _ _ _ _ => none)
  | n + 1 => (fun s1 s2 s3 s4 s5 s6 s7 => f5s1 (f5L n).1 (f5L n).2 s1 s2 s3 s4 s5 s6 s7, fun s1 s2 s3 s4 s5 s6 s7 s8 s9 => f5s2 (f5L n).1 (f5L n).2 s1 s2 s3 s4 s5 s6 s7 s8 s9)

def f5 (x0 : List (Int × Int)) (x1 : Int) (x2 : Bool) : Option (Bool × Unit) := f5e (f5L (x0.length * 1000 + 1005)).1 (f5L (x0.length * 1000 + 1005)).2 x0 x1 x2

/-- tidewaylaw12.FilterTurns -/
def f6e (k1 : (List (Int × Int)) → Int → (List (Int × Int)) → (List (Int × Int)) → Int → Int → Option (Bool × Unit)) (k2 : (List (Int × Int)) → Int → Int → Int → (List (Int × Int)) → (List (Int × Int)) → Int → Option (Bool × Unit)) (x0 : List (Int × Int)) (x1 : Int) : Option (Bool × Unit) :=
  bif decide (((x0.length : Nat) : Int) > (200 : Int)) then
    (f8).bind fun r1 =>
    some (r1.1, ())
  else
    bif decide (x1 < (0 : Int)) then
      (f8).bind fun r2 =>
      some (r2.1, ())
    else
      bif decide (x1 > (1125899906842624 : Int)) then
        (f8).bind fun r3 =>
        some (r3.1, ())
      else
        k1 x0 x1 ([] : List (Int × Int)) ([] : List (Int × Int)) (0 : Int) (0 : Int)

def f6s1 (k1 : (List (Int × Int)) → Int → (List (Int × Int)) → (List (Int × Int)) → Int → Int → Option (Bool × Unit)) (k2 : (List (Int × Int)) → Int → Int → Int → (List (Int × Int)) → (List (Int × Int)) → Int → Option (Bool × Unit)) (s1 : List (Int × Int)) (s2 : Int) (s3 : List (Int × Int)) (s4 : List (Int × Int)) (s5 : Int) (s6 : Int) : Option (Bool × Unit) :=
  bif decide (s6 < ((s1.length : Nat) : Int)) then
    (getI s1 s6).bind fun e1 =>
    bif decide (e1.1 < (0 : Int)) then
      (f8).bind fun r2 =>
      some (r2.1, ())
    else
      (getI s1 s6).bind fun e3 =>
      bif decide (e3.1 > (1099511627776 : Int)) then
        (f8).bind fun r4 =>
        some (r4.1, ())
      else
        (getI s1 s6).bind fun e5 =>
        bif decide (e5.2 < (0 : Int)) then
          (f8).bind fun r6 =>
          some (r6.1, ())
        else
          (getI s1 s6).bind fun e7 =>
          bif decide (e7.2 > (1000 : Int)) then
            (f8).bind fun r8 =>
            some (r8.1, ())
          else
            (getI s1 s6).bind fun e9 =>
            (getI s1 s6).bind fun e10 =>
            (f7 s3 (IntKind.i64.wrap ((IntKind.i64.wrap (s5 + e9.1)) + (1 : Int))) e10.2 s2 true).bind fun r11 =>
            (getI s1 s6).bind fun e12 =>
            (f7 s4 (IntKind.i64.wrap ((IntKind.i64.wrap (s5 + e9.1)) + (1 : Int))) (IntKind.i64.wrap ((1000 : Int) - e12.2)) s2 false).bind fun r13 =>
            bif r11.2.1 != (0 : Int) then some (false, ()) else
            bif r13.2.1 != (0 : Int) then some (false, ()) else
            bif ((r11.1.length : Nat) : Int) != ((r13.1.length : Nat) : Int) then some (false, ()) else
            k2 s1 s2 (IntKind.i64.wrap ((IntKind.i64.wrap (s5 + e9.1)) + (1 : Int))) s6 r11.1 r13.1 (0 : Int)
  else
    (f8).bind fun r14 =>
    some (r14.1, ())

def f6s2 (k1 : (List (Int × Int)) → Int → (List (Int × Int)) → (List (Int × Int)) → Int → Int → Option (Bool × Unit)) (k2 : (List (Int × Int)) → Int → Int → Int → (List (Int × Int)) → (List (Int × Int)) → Int → Option (Bool × Unit)) (s1 : List (Int × Int)) (s2 : Int) (s3 : Int) (s4 : Int) (s5 : List (Int × Int)) (s6 : List (Int × Int)) (s7 : Int) : Option (Bool × Unit) :=
  bif decide (s7 < ((s5.length : Nat) : Int)) then
    (getI s5 s7).bind fun e1 =>
    (getI s6 s7).bind fun e2 =>
    bif e1.1 != e2.1 then some (false, ()) else
    (getI s5 s7).bind fun e3 =>
    (getI s6 s7).bind fun e4 =>
    bif e3.2 != (IntKind.i64.wrap ((1000 : Int) - e4.2)) then some (false, ()) else
    k2 s1 s2 s3 s4 s5 s6 (IntKind.i64.wrap (s7 + (1 : Int)))
  else
    k1 s1 s2 s5 s6 s3 (IntKind.i64.wrap (s4 + (1 : Int)))

def f6L : Nat → ((List (Int × Int)) → Int → (List (Int × Int)) → (List (Int × Int)) → Int → Int → Option (Bool × Unit)) × ((List (Int × Int)) → Int → Int → Int → (List (Int × Int)) → (List (Int × Int)) → Int → Option (Bool × Unit))
  | 0 => (fun _ _ _ _ _ _ => none, fun _ _ _ _ _ _ _ => none)
  | n + 1 => (fun s1 s2 s3 s4 s5 s6 => f6s1 (f6L n).1 (f6L n).2 s1 s2 s3 s4 s5 s6, fun s1 s2 s3 s4 s5 s6 s7 => f6s2 (f6L n).1 (f6L n).2 s1 s2 s3 s4 s5 s6 s7)

def f6 (x0 : List (Int × Int)) (x1 : Int) : Option (Bool × Unit) := f6e (f6L (x0.length * 1000 + 1005)).1 (f6L (x0.length * 1000 + 1005)).2 x0 x1

end Go.Proofs.Ythnfbkneleodnaa.Fn
