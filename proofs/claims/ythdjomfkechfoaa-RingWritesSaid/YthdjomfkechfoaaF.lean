/-
  Ythdjomfkechfoaa: what each Go function comes to, as a Lean function. Printed by gen.py, a program of this claim's own.
-/
import Derived.Test.YthdjomfkechfoaaVb
namespace Go.Proofs.Ythdjomfkechfoaa.Fn
open Go Go.Proofs.Ythdjomfkechfoaa.Vx
set_option linter.unusedVariables false

abbrev TRing := Int × (List (Int)) × Int × Bool

/-- ring.Check -/
def f13 (x0 : TRing) : Option (Int × Unit) :=
  bif decide (x0.1 < (0 : Int)) then some ((2 : Int), ()) else
  bif decide (x0.1 > (1125899906842624 : Int)) then some ((2 : Int), ()) else
  bif decide (x0.2.2.1 < (0 : Int)) then some ((2 : Int), ()) else
  bif decide (x0.2.2.1 > (1073741824 : Int)) then some ((2 : Int), ()) else
  bif decide (((x0.2.1.length : Nat) : Int) > x0.2.2.1) then some ((2 : Int), ()) else
  bif decide (((x0.2.1.length : Nat) : Int) > (IntKind.i64.wrap ((1125899906842624 : Int) - x0.1))) then some ((2 : Int), ()) else
  some ((0 : Int), ())

/-- ring.End -/
def f15 (x0 : TRing) : Option (Int × Unit) :=
  (f13 x0).bind fun r1 =>
  bif r1.1 != (0 : Int) then some ((0 : Int), ()) else
  some ((IntKind.i64.wrap (x0.1 + ((x0.2.1.length : Nat) : Int))), ())

/-- ring.Room -/
def f17 (x0 : TRing) : Option (Int × Unit) :=
  (f13 x0).bind fun r1 =>
  bif r1.1 != (0 : Int) then some ((0 : Int), ()) else
  bif x0.2.2.2 then some ((0 : Int), ()) else
  (f15 x0).bind fun r2 =>
  some ((imin (IntKind.i64.wrap (x0.2.2.1 - ((x0.2.1.length : Nat) : Int))) (IntKind.i64.wrap ((1125899906842624 : Int) - r2.1))), ())

/-- ring.copied -/
def f25 (x0 : List Int) (x1 : List Int) : Option (List Int × Unit) :=
  bif decide (x0.length + x1.length ≤ 281474976710656) then some (x0 ++ x1, ()) else none

/-- ring.Write -/
def f8 (x0 : TRing) (x1 : List (Int)) : Option (TRing × Int × Int × Unit) :=
  (f13 x0).bind fun r1 =>
  bif r1.1 != (0 : Int) then some (((0 : Int), ([] : List (Int)), (0 : Int), false), (0 : Int), (2 : Int), ()) else
  bif x0.2.2.2 then some (((0 : Int), ([] : List (Int)), (0 : Int), false), (0 : Int), (71 : Int), ()) else
  (f17 x0).bind fun r2 =>
  bif true && ((decide ((0 : Int) ≤ (imin ((x1.length : Nat) : Int) r2.1))) && (decide ((imin ((x1.length : Nat) : Int) r2.1) ≤ ((x1.length : Nat) : Int)))) then
    bif decide ((imin ((x1.length : Nat) : Int) r2.1) = (imin ((x1.length : Nat) : Int) r2.1)) then
      (f25 x0.2.1 ((x1.drop (0 : Int).toNat).take ((imin ((x1.length : Nat) : Int) r2.1) - (0 : Int)).toNat)).bind fun r3 =>
      some ((x0.1, r3.1, x0.2.2.1, x0.2.2.2), (imin ((x1.length : Nat) : Int) r2.1), (0 : Int), ())
    else
      none
  else
    none

/-- tidewayref07.Check -/
def f14 (x0 : TRing) : Option (Int × Unit) :=
  bif decide (x0.1 < (0 : Int)) then some ((2 : Int), ()) else
  bif decide (x0.1 > (1125899906842624 : Int)) then some ((2 : Int), ()) else
  bif decide (x0.2.2.1 < (0 : Int)) then some ((2 : Int), ()) else
  bif decide (x0.2.2.1 > (1073741824 : Int)) then some ((2 : Int), ()) else
  bif decide (((x0.2.1.length : Nat) : Int) > x0.2.2.1) then some ((2 : Int), ()) else
  bif decide ((IntKind.i64.wrap (x0.1 + ((x0.2.1.length : Nat) : Int))) > (1125899906842624 : Int)) then some ((2 : Int), ()) else
  some ((0 : Int), ())

/-- tidewayref07.End -/
def f16 (x0 : TRing) : Option (Int × Unit) :=
  (f14 x0).bind fun r1 =>
  bif r1.1 != (0 : Int) then some ((0 : Int), ()) else
  some ((IntKind.i64.wrap (x0.1 + ((x0.2.1.length : Nat) : Int))), ())

/-- tidewayref07.Room -/
def f18 (x0 : TRing) : Option (Int × Unit) :=
  (f14 x0).bind fun r1 =>
  bif r1.1 != (0 : Int) then some ((0 : Int), ()) else
  bif x0.2.2.2 then some ((0 : Int), ()) else
  (f16 x0).bind fun r2 =>
  some ((imin (IntKind.i64.wrap (x0.2.2.1 - ((x0.2.1.length : Nat) : Int))) (IntKind.i64.wrap ((1125899906842624 : Int) - r2.1))), ())

/-- tidewayref07.own -/
def f26 (x0 : TRing) (x1 : List (Int)) : Option (TRing × Unit) :=
  bif decide ((0 + x1.length) * 1 ≤ 140737488355328) then some ((x0.1, (([] : List (Int)) ++ x1), x0.2.2.1, x0.2.2.2), ()) else
  none

/-- tidewayref07.Write -/
def f9 (x0 : TRing) (x1 : List Int) : Option (TRing × Int × Int × Unit) :=
  (f14 x0).bind fun r1 =>
  bif r1.1 != (0 : Int) then some (((0 : Int), ([] : List (Int)), (0 : Int), false), (0 : Int), (2 : Int), ()) else
  bif x0.2.2.2 then some (((0 : Int), ([] : List (Int)), (0 : Int), false), (0 : Int), (71 : Int), ()) else
  (f18 x0).bind fun r2 =>
  bif decide (0 ≤ r2.1) && (decide (r2.1 ≤ 1073741824) && decide (x0.2.1.length ≤ 1073741824)) then
    some ((x0.1, x0.2.1 ++ x1.take (min (x1.length : Int) r2.1).toNat, x0.2.2.1, x0.2.2.2), min (x1.length : Int) r2.1, (0 : Int), ()) else none

/-- ring.Close -/
def f10 (x0 : TRing) : Option (TRing × Int × Unit) :=
  (f13 x0).bind fun r1 =>
  bif r1.1 != (0 : Int) then some (((0 : Int), ([] : List (Int)), (0 : Int), false), (2 : Int), ()) else
  bif x0.2.2.2 then some (((0 : Int), ([] : List (Int)), (0 : Int), false), (71 : Int), ()) else
  (f25 x0.2.1 ([] : List (Int))).bind fun r2 =>
  some ((x0.1, r2.1, x0.2.2.1, true), (0 : Int), ())

/-- tidewayref07.Close -/
def f11 (x0 : TRing) : Option (TRing × Int × Unit) :=
  (f14 x0).bind fun r1 =>
  bif r1.1 != (0 : Int) then some (((0 : Int), ([] : List (Int)), (0 : Int), false), (2 : Int), ()) else
  bif x0.2.2.2 then some (((0 : Int), ([] : List (Int)), (0 : Int), false), (71 : Int), ()) else
  (f26 x0 x0.2.1).bind fun r2 =>
  some ((r2.1.1, r2.1.2.1, r2.1.2.2.1, true), (0 : Int), ())

/-- tidewayref02.Same -/
def f24 (x0 : List (Int)) (x1 : List (Int)) : Option (Bool × Unit) :=
  some ((BEq.beq (α := ByteArray) (strOfNums x0) (strOfNums x1)), ())

/-- tidewayref07.Same -/
def f12 (x0 : TRing) (x1 : TRing) : Option (Bool × Unit) :=
  bif x0.1 == x1.1 then
    bif x0.2.2.1 == x1.2.2.1 then
      bif x0.2.2.2 == x1.2.2.2 then
        (f24 x0.2.1 x1.2.1).bind fun r1 =>
        some (r1.1, ())
      else
        some (false, ())
    else
      some (false, ())
  else
    some (false, ())

/-- ring.Release -/
def f20 (x0 : TRing) (x1 : Int) : Option (TRing × Int × Unit) :=
  (f13 x0).bind fun r1 =>
  bif r1.1 != (0 : Int) then some (((0 : Int), ([] : List (Int)), (0 : Int), false), (2 : Int), ()) else
  bif decide (x1 < x0.1) then some (((0 : Int), ([] : List (Int)), (0 : Int), false), (2 : Int), ()) else
  (f15 x0).bind fun r2 =>
  bif decide (x1 > r2.1) then some (((0 : Int), ([] : List (Int)), (0 : Int), false), (2 : Int), ()) else
  bif (decide ((0 : Int) ≤ (IntKind.i64.wrap (x1 - x0.1)))) && ((decide ((IntKind.i64.wrap (x1 - x0.1)) ≤ ((x0.2.1.length : Nat) : Int))) && (decide (((x0.2.1.length : Nat) : Int) ≤ ((x0.2.1.length : Nat) : Int)))) then
    (f25 ((x0.2.1.drop (IntKind.i64.wrap (x1 - x0.1)).toNat).take (((x0.2.1.length : Nat) : Int) - (IntKind.i64.wrap (x1 - x0.1))).toNat) ([] : List (Int))).bind fun r3 =>
    some ((x1, r3.1, x0.2.2.1, x0.2.2.2), (0 : Int), ())
  else
    none

/-- ring.Slice -/
def f22 (x0 : TRing) (x1 : Int) (x2 : Int) : Option ((List (Int)) × Int × Unit) :=
  (f13 x0).bind fun r1 =>
  bif r1.1 != (0 : Int) then some (([] : List (Int)), (2 : Int), ()) else
  bif decide (x1 < x0.1) then some (([] : List (Int)), (2 : Int), ()) else
  bif decide (x1 > x2) then some (([] : List (Int)), (2 : Int), ()) else
  (f15 x0).bind fun r2 =>
  bif decide (x2 > r2.1) then some (([] : List (Int)), (2 : Int), ()) else
  bif (decide ((0 : Int) ≤ (IntKind.i64.wrap (x1 - x0.1)))) && ((decide ((IntKind.i64.wrap (x1 - x0.1)) ≤ (IntKind.i64.wrap (x2 - x0.1)))) && (decide ((IntKind.i64.wrap (x2 - x0.1)) ≤ ((x0.2.1.length : Nat) : Int)))) then
    bif decide ((IntKind.i64.wrap (x2 - x0.1)) = (IntKind.i64.wrap (x2 - x0.1))) then
      (f25 ((x0.2.1.drop (IntKind.i64.wrap (x1 - x0.1)).toNat).take ((IntKind.i64.wrap (x2 - x0.1)) - (IntKind.i64.wrap (x1 - x0.1))).toNat) ([] : List (Int))).bind fun r3 =>
      some (r3.1, (0 : Int), ())
    else
      none
  else
    none

/-- tidewaylaw07.heads -/
def f19  : Option (Bool × Unit) :=
  (f8 ((5 : Int), [(97 : Int), (98 : Int)], (3 : Int), false) [(99 : Int), (100 : Int)]).bind fun r1 =>
  (f20 r1.1 (6 : Int)).bind fun r2 =>
  (f10 r2.1).bind fun r3 =>
  (f8 r3.1 [(120 : Int)]).bind fun r4 =>
  (f22 r2.1 (7 : Int) (8 : Int)).bind fun r5 =>
  bif r1.2.2.1 == (0 : Int) then
    bif r1.2.1 == (1 : Int) then
      bif r2.2.1 == (0 : Int) then
        bif BEq.beq (α := ByteArray) (strOfNums r2.1.2.1) (ByteArray.mk #[98, 99]) then
          bif r3.2.1 == (0 : Int) then
            bif r4.2.2.1 == (71 : Int) then
              bif BEq.beq (α := ByteArray) (strOfNums r5.1) (ByteArray.mk #[99]) then
                bif r5.2.1 == (0 : Int) then
                  (f15 ((5 : Int), [(97 : Int), (98 : Int)], (3 : Int), false)).bind fun r6 =>
                  bif r6.1 == (7 : Int) then
                    (f17 ((5 : Int), [(97 : Int), (98 : Int)], (3 : Int), false)).bind fun r7 =>
                    bif r7.1 == (1 : Int) then
                      (f13 ((0 : Int), ([] : List (Int)), (-1 : Int), false)).bind fun r8 =>
                      some ((r8.1 == (2 : Int)), ())
                    else
                      some (false, ())
                  else
                    some (false, ())
                else
                  some (false, ())
              else
                some (false, ())
            else
              some (false, ())
          else
            some (false, ())
        else
          some (false, ())
      else
        some (false, ())
    else
      some (false, ())
  else
    some (false, ())

/-- tidewaylaw07.RingWrites -/
def f3 (x0 : TRing) (x1 : List (Int)) : Option (Bool × Unit) :=
  bif decide (0 ≤ (0 : Int)) && (decide ((0 : Int) ≤ (IntKind.i64.wrap (((x0.2.1.length : Nat) : Int) + (20 : Int)))) && decide ((1 : Int) * (IntKind.i64.wrap (((x0.2.1.length : Nat) : Int) + (20 : Int))) ≤ 281474976710656)) then
    bif decide ((0 + x0.2.1.length) * 1 ≤ 140737488355328) then
      (f8 (x0.1, (([] : List (Int)) ++ x0.2.1), x0.2.2.1, x0.2.2.2) x1).bind fun r1 =>
      (f9 x0 x1).bind fun r2 =>
      (f10 (x0.1, (([] : List (Int)) ++ x0.2.1), x0.2.2.1, x0.2.2.2)).bind fun r3 =>
      (f11 x0).bind fun r4 =>
      (f12 r1.1 r2.1).bind fun r5 =>
      bif r5.1 then
        bif r1.2.1 == r2.2.1 then
          bif r1.2.2.1 == r2.2.2.1 then
            (f12 r3.1 r4.1).bind fun r6 =>
            bif r6.1 then
              bif r3.2.1 == r4.2.1 then
                (f12 (x0.1, (([] : List (Int)) ++ x0.2.1), x0.2.2.1, x0.2.2.2) x0).bind fun r7 =>
                bif r7.1 then
                  (f13 x0).bind fun r8 =>
                  (f14 x0).bind fun r9 =>
                  bif r8.1 == r9.1 then
                    (f15 x0).bind fun r10 =>
                    (f16 x0).bind fun r11 =>
                    bif r10.1 == r11.1 then
                      (f17 x0).bind fun r12 =>
                      (f18 x0).bind fun r13 =>
                      bif r12.1 == r13.1 then
                        (f19).bind fun r14 =>
                        some (r14.1, ())
                      else
                        some (false, ())
                    else
                      some (false, ())
                  else
                    some (false, ())
                else
                  some (false, ())
              else
                some (false, ())
            else
              some (false, ())
          else
            some (false, ())
        else
          some (false, ())
      else
        some (false, ())
    else
      none
  else
    none

/-- tidewayref07.Release -/
def f21 (x0 : TRing) (x1 : Int) : Option (TRing × Int × Unit) :=
  (f14 x0).bind fun r1 =>
  bif r1.1 != (0 : Int) then some (((0 : Int), ([] : List (Int)), (0 : Int), false), (2 : Int), ()) else
  bif decide (x1 < x0.1) then some (((0 : Int), ([] : List (Int)), (0 : Int), false), (2 : Int), ()) else
  (f16 x0).bind fun r2 =>
  bif decide (x1 > r2.1) then some (((0 : Int), ([] : List (Int)), (0 : Int), false), (2 : Int), ()) else
  bif (decide ((0 : Int) ≤ (IntKind.i64.wrap (x1 - x0.1)))) && ((decide ((IntKind.i64.wrap (x1 - x0.1)) ≤ ((x0.2.1.length : Nat) : Int))) && (decide (((x0.2.1.length : Nat) : Int) ≤ ((x0.2.1.length : Nat) : Int)))) then
    (f26 x0 ((x0.2.1.drop (IntKind.i64.wrap (x1 - x0.1)).toNat).take (((x0.2.1.length : Nat) : Int) - (IntKind.i64.wrap (x1 - x0.1))).toNat)).bind fun r3 =>
    some ((x1, r3.1.2.1, r3.1.2.2.1, r3.1.2.2.2), (0 : Int), ())
  else
    none

/-- tidewayref07.Slice -/
def f23 (x0 : TRing) (x1 : Int) (x2 : Int) : Option ((List (Int)) × Int × Unit) :=
  (f14 x0).bind fun r1 =>
  bif r1.1 != (0 : Int) then some (([] : List (Int)), (2 : Int), ()) else
  bif decide (x1 < x0.1) then some (([] : List (Int)), (2 : Int), ()) else
  bif decide (x2 < x1) then some (([] : List (Int)), (2 : Int), ()) else
  (f16 x0).bind fun r2 =>
  bif decide (x2 > r2.1) then some (([] : List (Int)), (2 : Int), ()) else
  bif (decide ((0 : Int) ≤ (IntKind.i64.wrap (x1 - x0.1)))) && ((decide ((IntKind.i64.wrap (x1 - x0.1)) ≤ (IntKind.i64.wrap (x2 - x0.1)))) && (decide ((IntKind.i64.wrap (x2 - x0.1)) ≤ ((x0.2.1.length : Nat) : Int)))) then
    bif decide ((0 + ((x0.2.1.drop (IntKind.i64.wrap (x1 - x0.1)).toNat).take ((IntKind.i64.wrap (x2 - x0.1)) - (IntKind.i64.wrap (x1 - x0.1))).toNat).length) * 1 ≤ 140737488355328) then some ((([] : List (Int)) ++ ((x0.2.1.drop (IntKind.i64.wrap (x1 - x0.1)).toNat).take ((IntKind.i64.wrap (x2 - x0.1)) - (IntKind.i64.wrap (x1 - x0.1))).toNat)), (0 : Int), ()) else
    none
  else
    none

/-- tidewaylaw07.RingCuts -/
def f4 (x0 : TRing) (x1 : Int) (x2 : Int) : Option (Bool × Unit) :=
  bif decide ((0 + x0.2.1.length) * 1 ≤ 140737488355328) then
    (f20 (x0.1, (([] : List (Int)) ++ x0.2.1), x0.2.2.1, x0.2.2.2) x2).bind fun r1 =>
    (f21 x0 x2).bind fun r2 =>
    (f22 (x0.1, (([] : List (Int)) ++ x0.2.1), x0.2.2.1, x0.2.2.2) x1 x2).bind fun r3 =>
    (f23 x0 x1 x2).bind fun r4 =>
    (f12 r1.1 r2.1).bind fun r5 =>
    bif r5.1 then
      bif r1.2.1 == r2.2.1 then
        (f24 r3.1 r4.1).bind fun r6 =>
        bif r6.1 then
          bif r3.2.1 == r4.2.1 then
            (f12 (x0.1, (([] : List (Int)) ++ x0.2.1), x0.2.2.1, x0.2.2.2) x0).bind fun r7 =>
            bif r7.1 then
              (f19).bind fun r8 =>
              some (r8.1, ())
            else
              some (false, ())
          else
            some (false, ())
        else
          some (false, ())
      else
        some (false, ())
    else
      some (false, ())
  else
    none

/-- tidewaylaw07.RingKeeps -/
def f5e (k1 : Int → (List ((List (Int)))) → (List (Int)) → Int → (List (Int)) → TRing → Option (Bool × Unit)) (x0 : Int) (x1 : List ((List (Int)))) (x2 : List (Int)) : Option (Bool × Unit) :=
  bif decide (x0 < (0 : Int)) then
    (f19).bind fun r1 =>
    some (r1.1, ())
  else
    bif decide (x0 > (1000 : Int)) then
      (f19).bind fun r2 =>
      some (r2.1, ())
    else
      bif decide (((x1.length : Nat) : Int) > (100 : Int)) then
        (f19).bind fun r3 =>
        some (r3.1, ())
      else
        k1 x0 x1 x2 (0 : Int) ([] : List (Int)) ((0 : Int), ([] : List (Int)), x0, false)

def f5s1 (k1 : Int → (List ((List (Int)))) → (List (Int)) → Int → (List (Int)) → TRing → Option (Bool × Unit)) (s1 : Int) (s2 : List ((List (Int)))) (s3 : List (Int)) (s4 : Int) (s5 : List (Int)) (s6 : TRing) : Option (Bool × Unit) :=
  bif decide (s4 < ((s2.length : Nat) : Int)) then
    (getI s2 s4).bind fun e1 =>
    (f8 s6 e1).bind fun r2 =>
    bif r2.2.2.1 != (0 : Int) then some (false, ()) else
    bif decide (r2.2.1 < (0 : Int)) then some (false, ()) else
    (getI s2 s4).bind fun e3 =>
    bif decide (r2.2.1 > ((e3.length : Nat) : Int)) then some (false, ()) else
    (getI s2 s4).bind fun e4 =>
    bif decide (r2.2.1 < ((e4.length : Nat) : Int)) then
      (f17 r2.1).bind fun r5 =>
      bif r5.1 != (0 : Int) then some (false, ()) else
      (getI s2 s4).bind fun e6 =>
      bif true && ((decide ((0 : Int) ≤ r2.2.1)) && (decide (r2.2.1 ≤ ((e6.length : Nat) : Int)))) then
        bif decide ((s5.length + ((e6.drop (0 : Int).toNat).take (r2.2.1 - (0 : Int)).toNat).length) * 1 ≤ 140737488355328) then
          bif decide (s4 < ((s3.length : Nat) : Int)) then
            (getI s3 s4).bind fun e7 =>
            (f20 r2.1 (IntKind.i64.wrap (r2.1.1 + (ibits .and .i64 e7 (7 : Int))))).bind fun r8 =>
            (f15 r2.1).bind fun r9 =>
            bif !((r8.2.1 == (0 : Int)) == (decide ((IntKind.i64.wrap (r2.1.1 + (ibits .and .i64 e7 (7 : Int)))) ≤ r9.1))) then some (false, ()) else
            bif r8.2.1 == (0 : Int) then
              (f15 r8.1).bind fun r10 =>
              bif r10.1 != (((s5 ++ ((e6.drop (0 : Int).toNat).take (r2.2.1 - (0 : Int)).toNat)).length : Nat) : Int) then some (false, ()) else
              bif decide (r8.1.1 > (((s5 ++ ((e6.drop (0 : Int).toNat).take (r2.2.1 - (0 : Int)).toNat)).length : Nat) : Int)) then some (false, ()) else
              bif decide (((r8.1.2.1.length : Nat) : Int) > s1) then some (false, ()) else
              (f15 r8.1).bind fun r11 =>
              (f22 r8.1 r8.1.1 r11.1).bind fun r12 =>
              bif r12.2.1 != (0 : Int) then some (false, ()) else
              bif (decide ((0 : Int) ≤ r8.1.1)) && ((decide (r8.1.1 ≤ (((s5 ++ ((e6.drop (0 : Int).toNat).take (r2.2.1 - (0 : Int)).toNat)).length : Nat) : Int))) && (decide ((((s5 ++ ((e6.drop (0 : Int).toNat).take (r2.2.1 - (0 : Int)).toNat)).length : Nat) : Int) ≤ (((s5 ++ ((e6.drop (0 : Int).toNat).take (r2.2.1 - (0 : Int)).toNat)).length : Nat) : Int)))) then
                (f24 r12.1 (((s5 ++ ((e6.drop (0 : Int).toNat).take (r2.2.1 - (0 : Int)).toNat)).drop r8.1.1.toNat).take ((((s5 ++ ((e6.drop (0 : Int).toNat).take (r2.2.1 - (0 : Int)).toNat)).length : Nat) : Int) - r8.1.1).toNat)).bind fun r13 =>
                bif !r13.1 then some (false, ()) else
                k1 s1 s2 s3 (IntKind.i64.wrap (s4 + (1 : Int))) (s5 ++ ((e6.drop (0 : Int).toNat).take (r2.2.1 - (0 : Int)).toNat)) r8.1
              else
                none
            else
              (f15 r2.1).bind fun r14 =>
              bif r14.1 != (((s5 ++ ((e6.drop (0 : Int).toNat).take (r2.2.1 - (0 : Int)).toNat)).length : Nat) : Int) then some (false, ()) else
              bif decide (r2.1.1 > (((s5 ++ ((e6.drop (0 : Int).toNat).take (r2.2.1 - (0 : Int)).toNat)).length : Nat) : Int)) then some (false, ()) else
              bif decide (((r2.1.2.1.length : Nat) : Int) > s1) then some (false, ()) else
              (f15 r2.1).bind fun r15 =>
              (f22 r2.1 r2.1.1 r15.1).bind fun r16 =>
              bif r16.2.1 != (0 : Int) then some (false, ()) else
              bif (decide ((0 : Int) ≤ r2.1.1)) && ((decide (r2.1.1 ≤ (((s5 ++ ((e6.drop (0 : Int).toNat).take (r2.2.1 - (0 : Int)).toNat)).length : Nat) : Int))) && (decide ((((s5 ++ ((e6.drop (0 : Int).toNat).take (r2.2.1 - (0 : Int)).toNat)).length : Nat) : Int) ≤ (((s5 ++ ((e6.drop (0 : Int).toNat).take (r2.2.1 - (0 : Int)).toNat)).length : Nat) : Int)))) then
                (f24 r16.1 (((s5 ++ ((e6.drop (0 : Int).toNat).take (r2.2.1 - (0 : Int)).toNat)).drop r2.1.1.toNat).take ((((s5 ++ ((e6.drop (0 : Int).toNat).take (r2.2.1 - (0 : Int)).toNat)).length : Nat) : Int) - r2.1.1).toNat)).bind fun r17 =>
                bif !r17.1 then some (false, ()) else
                k1 s1 s2 s3 (IntKind.i64.wrap (s4 + (1 : Int))) (s5 ++ ((e6.drop (0 : Int).toNat).take (r2.2.1 - (0 : Int)).toNat)) r2.1
              else
                none
          else
            (f15 r2.1).bind fun r18 =>
            bif r18.1 != (((s5 ++ ((e6.drop (0 : Int).toNat).take (r2.2.1 - (0 : Int)).toNat)).length : Nat) : Int) then some (false, ()) else
            bif decide (r2.1.1 > (((s5 ++ ((e6.drop (0 : Int).toNat).take (r2.2.1 - (0 : Int)).toNat)).length : Nat) : Int)) then some (false, ()) else
            bif decide (((r2.1.2.1.length : Nat) : Int) > s1) then some (false, ()) else
            (f15 r2.1).bind fun r19 =>
            (f22 r2.1 r2.1.1 r19.1).bind fun r20 =>
            bif r20.2.1 != (0 : Int) then some (false, ()) else
            bif (decide ((0 : Int) ≤ r2.1.1)) && ((decide (r2.1.1 ≤ (((s5 ++ ((e6.drop (0 : Int).toNat).take (r2.2.1 - (0 : Int)).toNat)).length : Nat) : Int))) && (decide ((((s5 ++ ((e6.drop (0 : Int).toNat).take (r2.2.1 - (0 : Int)).toNat)).length : Nat) : Int) ≤ (((s5 ++ ((e6.drop (0 : Int).toNat).take (r2.2.1 - (0 : Int)).toNat)).length : Nat) : Int)))) then
              (f24 r20.1 (((s5 ++ ((e6.drop (0 : Int).toNat).take (r2.2.1 - (0 : Int)).toNat)).drop r2.1.1.toNat).take ((((s5 ++ ((e6.drop (0 : Int).toNat).take (r2.2.1 - (0 : Int)).toNat)).length : Nat) : Int) - r2.1.1).toNat)).bind fun r21 =>
              bif !r21.1 then some (false, ()) else
              k1 s1 s2 s3 (IntKind.i64.wrap (s4 + (1 : Int))) (s5 ++ ((e6.drop (0 : Int).toNat).take (r2.2.1 - (0 : Int)).toNat)) r2.1
            else
              none
        else
          none
      else
        none
    else
      (getI s2 s4).bind fun e22 =>
      bif true && ((decide ((0 : Int) ≤ r2.2.1)) && (decide (r2.2.1 ≤ ((e22.length : Nat) : Int)))) then
        bif decide ((s5.length + ((e22.drop (0 : Int).toNat).take (r2.2.1 - (0 : Int)).toNat).length) * 1 ≤ 140737488355328) then
          bif decide (s4 < ((s3.length : Nat) : Int)) then
            (getI s3 s4).bind fun e23 =>
            (f20 r2.1 (IntKind.i64.wrap (r2.1.1 + (ibits .and .i64 e23 (7 : Int))))).bind fun r24 =>
            (f15 r2.1).bind fun r25 =>
            bif !((r24.2.1 == (0 : Int)) == (decide ((IntKind.i64.wrap (r2.1.1 + (ibits .and .i64 e23 (7 : Int)))) ≤ r25.1))) then some (false, ()) else
            bif r24.2.1 == (0 : Int) then
              (f15 r24.1).bind fun r26 =>
              bif r26.1 != (((s5 ++ ((e22.drop (0 : Int).toNat).take (r2.2.1 - (0 : Int)).toNat)).length : Nat) : Int) then some (false, ()) else
              bif decide (r24.1.1 > (((s5 ++ ((e22.drop (0 : Int).toNat).take (r2.2.1 - (0 : Int)).toNat)).length : Nat) : Int)) then some (false, ()) else
              bif decide (((r24.1.2.1.length : Nat) : Int) > s1) then some (false, ()) else
              (f15 r24.1).bind fun r27 =>
              (f22 r24.1 r24.1.1 r27.1).bind fun r28 =>
              bif r28.2.1 != (0 : Int) then some (false, ()) else
              bif (decide ((0 : Int) ≤ r24.1.1)) && ((decide (r24.1.1 ≤ (((s5 ++ ((e22.drop (0 : Int).toNat).take (r2.2.1 - (0 : Int)).toNat)).length : Nat) : Int))) && (decide ((((s5 ++ ((e22.drop (0 : Int).toNat).take (r2.2.1 - (0 : Int)).toNat)).length : Nat) : Int) ≤ (((s5 ++ ((e22.drop (0 : Int).toNat).take (r2.2.1 - (0 : Int)).toNat)).length : Nat) : Int)))) then
                (f24 r28.1 (((s5 ++ ((e22.drop (0 : Int).toNat).take (r2.2.1 - (0 : Int)).toNat)).drop r24.1.1.toNat).take ((((s5 ++ ((e22.drop (0 : Int).toNat).take (r2.2.1 - (0 : Int)).toNat)).length : Nat) : Int) - r24.1.1).toNat)).bind fun r29 =>
                bif !r29.1 then some (false, ()) else
                k1 s1 s2 s3 (IntKind.i64.wrap (s4 + (1 : Int))) (s5 ++ ((e22.drop (0 : Int).toNat).take (r2.2.1 - (0 : Int)).toNat)) r24.1
              else
                none
            else
              (f15 r2.1).bind fun r30 =>
              bif r30.1 != (((s5 ++ ((e22.drop (0 : Int).toNat).take (r2.2.1 - (0 : Int)).toNat)).length : Nat) : Int) then some (false, ()) else
              bif decide (r2.1.1 > (((s5 ++ ((e22.drop (0 : Int).toNat).take (r2.2.1 - (0 : Int)).toNat)).length : Nat) : Int)) then some (false, ()) else
              bif decide (((r2.1.2.1.length : Nat) : Int) > s1) then some (false, ()) else
              (f15 r2.1).bind fun r31 =>
              (f22 r2.1 r2.1.1 r31.1).bind fun r32 =>
              bif r32.2.1 != (0 : Int) then some (false, ()) else
              bif (decide ((0 : Int) ≤ r2.1.1)) && ((decide (r2.1.1 ≤ (((s5 ++ ((e22.drop (0 : Int).toNat).take (r2.2.1 - (0 : Int)).toNat)).length : Nat) : Int))) && (decide ((((s5 ++ ((e22.drop (0 : Int).toNat).take (r2.2.1 - (0 : Int)).toNat)).length : Nat) : Int) ≤ (((s5 ++ ((e22.drop (0 : Int).toNat).take (r2.2.1 - (0 : Int)).toNat)).length : Nat) : Int)))) then
                (f24 r32.1 (((s5 ++ ((e22.drop (0 : Int).toNat).take (r2.2.1 - (0 : Int)).toNat)).drop r2.1.1.toNat).take ((((s5 ++ ((e22.drop (0 : Int).toNat).take (r2.2.1 - (0 : Int)).toNat)).length : Nat) : Int) - r2.1.1).toNat)).bind fun r33 =>
                bif !r33.1 then some (false, ()) else
                k1 s1 s2 s3 (IntKind.i64.wrap (s4 + (1 : Int))) (s5 ++ ((e22.drop (0 : Int).toNat).take (r2.2.1 - (0 : Int)).toNat)) r2.1
              else
                none
          else
            (f15 r2.1).bind fun r34 =>
            bif r34.1 != (((s5 ++ ((e22.drop (0 : Int).toNat).take (r2.2.1 - (0 : Int)).toNat)).length : Nat) : Int) then some (false, ()) else
            bif decide (r2.1.1 > (((s5 ++ ((e22.drop (0 : Int).toNat).take (r2.2.1 - (0 : Int)).toNat)).length : Nat) : Int)) then some (false, ()) else
            bif decide (((r2.1.2.1.length : Nat) : Int) > s1) then some (false, ()) else
            (f15 r2.1).bind fun r35 =>
            (f22 r2.1 r2.1.1 r35.1).bind fun r36 =>
            bif r36.2.1 != (0 : Int) then some (false, ()) else
            bif (decide ((0 : Int) ≤ r2.1.1)) && ((decide (r2.1.1 ≤ (((s5 ++ ((e22.drop (0 : Int).toNat).take (r2.2.1 - (0 : Int)).toNat)).length : Nat) : Int))) && (decide ((((s5 ++ ((e22.drop (0 : Int).toNat).take (r2.2.1 - (0 : Int)).toNat)).length : Nat) : Int) ≤ (((s5 ++ ((e22.drop (0 : Int).toNat).take (r2.2.1 - (0 : Int)).toNat)).length : Nat) : Int)))) then
              (f24 r36.1 (((s5 ++ ((e22.drop (0 : Int).toNat).take (r2.2.1 - (0 : Int)).toNat)).drop r2.1.1.toNat).take ((((s5 ++ ((e22.drop (0 : Int).toNat).take (r2.2.1 - (0 : Int)).toNat)).length : Nat) : Int) - r2.1.1).toNat)).bind fun r37 =>
              bif !r37.1 then some (false, ()) else
              k1 s1 s2 s3 (IntKind.i64.wrap (s4 + (1 : Int))) (s5 ++ ((e22.drop (0 : Int).toNat).take (r2.2.1 - (0 : Int)).toNat)) r2.1
            else
              none
        else
          none
      else
        none
  else
    (f19).bind fun r38 =>
    some (r38.1, ())

def f5L : Nat → Int → (List ((List (Int)))) → (List (Int)) → Int → (List (Int)) → TRing → Option (Bool × Unit)
  | 0 => fun _ _ _ _ _ _ => none
  | n + 1 => fun s1 s2 s3 s4 s5 s6 => f5s1 (f5L n) s1 s2 s3 s4 s5 s6

def f5 (x0 : Int) (x1 : List ((List (Int)))) (x2 : List (Int)) : Option (Bool × Unit) := f5e (f5L (x1.length + x2.length + 1005)) x0 x1 x2

/-- tidewaylaw07.RingSlices -/
def f6 (x0 : TRing) (x1 : Int) (x2 : Int) (x3 : Int) : Option (Bool × Unit) :=
  (f22 x0 x1 x2).bind fun r1 =>
  (f22 x0 x2 x3).bind fun r2 =>
  (f22 x0 x1 x3).bind fun r3 =>
  bif r1.2.1 != (0 : Int) then
    (f19).bind fun r4 =>
    some (r4.1, ())
  else
    bif r2.2.1 != (0 : Int) then
      (f19).bind fun r5 =>
      some (r5.1, ())
    else
      bif r3.2.1 == (0 : Int) then
        bif ((r1.1.length : Nat) : Int) == (IntKind.i64.wrap (x2 - x1)) then
          bif decide ((0 + r1.1.length) * 1 ≤ 140737488355328) then
            bif decide (((([] : List (Int)) ++ r1.1).length + r2.1.length) * 1 ≤ 140737488355328) then
              (f24 ((([] : List (Int)) ++ r1.1) ++ r2.1) r3.1).bind fun r6 =>
              bif r6.1 then
                (f19).bind fun r7 =>
                some (r7.1, ())
              else
                some (false, ())
            else
              none
          else
            none
        else
          some (false, ())
      else
        some (false, ())

/-- tidewaylaw07.RingEnds -/
def f7 (x0 : TRing) (x1 : List (Int)) : Option (Bool × Unit) :=
  (f10 x0).bind fun r1 =>
  bif r1.2.1 != (0 : Int) then
    (f13 x0).bind fun r2 =>
    bif r2.1 != (0 : Int) then
      (f19).bind fun r3 =>
      some (r3.1, ())
    else
      bif x0.2.2.2 then
        (f19).bind fun r4 =>
        some (r4.1, ())
      else
        some (false, ())
  else
    (f8 r1.1 x1).bind fun r5 =>
    (f10 r1.1).bind fun r6 =>
    bif r5.2.1 == (0 : Int) then
      bif r5.2.2.1 == (71 : Int) then
        bif r6.2.1 == (71 : Int) then
          (f17 r1.1).bind fun r7 =>
          bif r7.1 == (0 : Int) then
            (f15 r1.1).bind fun r8 =>
            (f15 x0).bind fun r9 =>
            bif r8.1 == r9.1 then
              (f24 r1.1.2.1 x0.2.1).bind fun r10 =>
              bif r10.1 then
                (f19).bind fun r11 =>
                some (r11.1, ())
              else
                some (false, ())
            else
              some (false, ())
          else
            some (false, ())
        else
          some (false, ())
      else
        some (false, ())
    else
      some (false, ())

end Go.Proofs.Ythdjomfkechfoaa.Fn
