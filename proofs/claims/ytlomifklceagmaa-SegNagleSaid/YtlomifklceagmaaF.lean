/-
  Ytlomifklceagmaa: what each Go function comes to, as a Lean function. Printed by gen.py, a program of this claim's own.
-/
import Derived.Test.YtlomifklceagmaaVb
namespace Go.Proofs.Ytlomifklceagmaa.Fn
open Go Go.Proofs.Ytlomifklceagmaa.Vx
set_option linter.unusedVariables false

abbrev TWant := Int × Int × Bool × Bool × Int × Int × Int × Int × Int × Bool × Bool
abbrev TCut := Int × Int × Bool × Bool

/-- seg.Check -/
def f10 (x0 : TWant) : Option (Int × Unit) :=
  bif decide (x0.2.2.2.2.2.1 ≥ (0 : Int)) then
    bif decide (x0.2.2.2.2.2.1 ≤ x0.1) then
      bif decide (x0.1 ≤ x0.2.1) then
        bif decide (x0.2.1 ≤ (1125899906842624 : Int)) then
          bif decide (x0.2.2.2.2.1 ≥ (0 : Int)) then
            bif decide (x0.2.2.2.2.2.2.1 ≥ (1 : Int)) then
              bif decide (x0.2.2.2.2.2.2.1 ≤ (65000 : Int)) then
                bif decide (x0.2.2.2.2.2.2.2.2.1 ≥ (0 : Int)) then
                  bif !(decide (x0.2.2.2.2.1 ≤ (1125899906842624 : Int))) then some ((2 : Int), ()) else
                  bif !(decide (x0.2.2.2.2.2.2.2.2.1 ≤ (1073741824 : Int))) then some ((2 : Int), ()) else
                  bif x0.2.2.2.1 then
                    bif x0.2.2.1 then
                      bif !(x0.1 == x0.2.1) then some ((2 : Int), ()) else
                      some ((0 : Int), ())
                    else
                      some ((2 : Int), ())
                  else
                    some ((0 : Int), ())
                else
                  bif !(decide (x0.2.2.2.2.1 ≤ (1125899906842624 : Int))) then some ((2 : Int), ()) else
                  some ((2 : Int), ())
              else
                bif !(decide (x0.2.2.2.2.1 ≤ (1125899906842624 : Int))) then some ((2 : Int), ()) else
                some ((2 : Int), ())
            else
              bif !(decide (x0.2.2.2.2.1 ≤ (1125899906842624 : Int))) then some ((2 : Int), ()) else
              some ((2 : Int), ())
          else
            bif decide (x0.2.2.2.2.2.2.1 ≥ (1 : Int)) then
              bif decide (x0.2.2.2.2.2.2.1 ≤ (65000 : Int)) then
                bif decide (x0.2.2.2.2.2.2.2.2.1 ≥ (0 : Int)) then some ((2 : Int), ()) else
                some ((2 : Int), ())
              else
                some ((2 : Int), ())
            else
              some ((2 : Int), ())
        else
          bif decide (x0.2.2.2.2.2.2.1 ≥ (1 : Int)) then
            bif decide (x0.2.2.2.2.2.2.1 ≤ (65000 : Int)) then
              bif decide (x0.2.2.2.2.2.2.2.2.1 ≥ (0 : Int)) then some ((2 : Int), ()) else
              some ((2 : Int), ())
            else
              some ((2 : Int), ())
          else
            some ((2 : Int), ())
      else
        bif decide (x0.2.2.2.2.2.2.1 ≥ (1 : Int)) then
          bif decide (x0.2.2.2.2.2.2.1 ≤ (65000 : Int)) then
            bif decide (x0.2.2.2.2.2.2.2.2.1 ≥ (0 : Int)) then some ((2 : Int), ()) else
            some ((2 : Int), ())
          else
            some ((2 : Int), ())
        else
          some ((2 : Int), ())
    else
      bif decide (x0.2.2.2.2.2.2.1 ≥ (1 : Int)) then
        bif decide (x0.2.2.2.2.2.2.1 ≤ (65000 : Int)) then
          bif decide (x0.2.2.2.2.2.2.2.2.1 ≥ (0 : Int)) then some ((2 : Int), ()) else
          some ((2 : Int), ())
        else
          some ((2 : Int), ())
      else
        some ((2 : Int), ())
  else
    bif decide (x0.2.2.2.2.2.2.1 ≥ (1 : Int)) then
      bif decide (x0.2.2.2.2.2.2.1 ≤ (65000 : Int)) then
        bif decide (x0.2.2.2.2.2.2.2.2.1 ≥ (0 : Int)) then some ((2 : Int), ()) else
        some ((2 : Int), ())
      else
        some ((2 : Int), ())
    else
      some ((2 : Int), ())

/-- seg.Usable -/
def f12 (x0 : TWant) : Option (Int × Unit) :=
  (f10 x0).bind fun r1 =>
  bif r1.1 != (0 : Int) then some ((0 : Int), ()) else
  some ((imax (0 : Int) (IntKind.i64.wrap (x0.2.2.2.2.1 - x0.1))), ())

/-- seg.cut -/
def f16 (x0 : TWant) (x1 : Int) : Option (TCut × Unit) :=
  bif (IntKind.i64.wrap (x0.1 + x1)) == x0.2.1 then
    bif (IntKind.i64.wrap (x0.1 + x1)) == x0.2.1 then
      bif x0.2.2.1 then
        bif x1 == (0 : Int) then some ((x0.1, (IntKind.i64.wrap (x0.1 + x1)), true, (decide (x1 > (0 : Int)))), ()) else
        bif !x0.2.2.2.2.2.2.2.2.2.2 then
          (f12 x0).bind fun r1 =>
          some ((x0.1, (IntKind.i64.wrap (x0.1 + x1)), (decide (r1.1 > x1)), (decide (x1 > (0 : Int)))), ())
        else
          some ((x0.1, (IntKind.i64.wrap (x0.1 + x1)), false, (decide (x1 > (0 : Int)))), ())
      else
        some ((x0.1, (IntKind.i64.wrap (x0.1 + x1)), false, (decide (x1 > (0 : Int)))), ())
    else
      some ((x0.1, (IntKind.i64.wrap (x0.1 + x1)), false, (decide (x1 > (0 : Int)))), ())
  else
    bif (IntKind.i64.wrap (x0.1 + x1)) == x0.2.1 then
      bif x0.2.2.1 then
        bif x1 == (0 : Int) then some ((x0.1, (IntKind.i64.wrap (x0.1 + x1)), true, false), ()) else
        bif !x0.2.2.2.2.2.2.2.2.2.2 then
          (f12 x0).bind fun r2 =>
          some ((x0.1, (IntKind.i64.wrap (x0.1 + x1)), (decide (r2.1 > x1)), false), ())
        else
          some ((x0.1, (IntKind.i64.wrap (x0.1 + x1)), false, false), ())
      else
        some ((x0.1, (IntKind.i64.wrap (x0.1 + x1)), false, false), ())
    else
      some ((x0.1, (IntKind.i64.wrap (x0.1 + x1)), false, false), ())

/-- seg.forced -/
def f15 (x0 : TWant) : Option (TCut × Bool × Unit) :=
  bif decide (x0.1 < x0.2.1) then
    (f16 x0 (1 : Int)).bind fun r1 =>
    some (r1.1, true, ())
  else
    bif x0.2.2.1 then
      (f16 x0 (0 : Int)).bind fun r2 =>
      some (r2.1, true, ())
    else
      some (((0 : Int), (0 : Int), false, false), false, ())

/-- seg.Next -/
def f8 (x0 : TWant) : Option (TCut × Bool × Int × Unit) :=
  (f10 x0).bind fun r1 =>
  bif r1.1 != (0 : Int) then some (((0 : Int), (0 : Int), false, false), false, r1.1, ()) else
  bif x0.2.2.2.1 then some (((0 : Int), (0 : Int), false, false), false, r1.1, ()) else
  bif x0.2.2.2.2.2.2.2.2.2.2 then
    (f15 x0).bind fun r2 =>
    some (r2.1, r2.2.1, (0 : Int), ())
  else
    (f12 x0).bind fun r3 =>
    bif !x0.2.2.2.2.2.2.2.2.2.1 then
      bif (IntKind.i64.wrap (x0.2.1 - x0.1)) == (0 : Int) then
        bif x0.2.2.1 then
          bif !(decide (r3.1 > (0 : Int))) then some (((0 : Int), (0 : Int), false, false), false, (0 : Int), ()) else
          (f16 x0 (imin (imin (IntKind.i64.wrap (x0.2.1 - x0.1)) r3.1) x0.2.2.2.2.2.2.1)).bind fun r4 =>
          some (r4.1, true, (0 : Int), ())
        else
          some (((0 : Int), (0 : Int), false, false), false, (0 : Int), ())
      else
        bif (imin (imin (IntKind.i64.wrap (x0.2.1 - x0.1)) r3.1) x0.2.2.2.2.2.2.1) == (0 : Int) then some (((0 : Int), (0 : Int), false, false), false, (0 : Int), ()) else
        bif decide (x0.2.2.2.2.2.2.2.1 < (imin (imin (IntKind.i64.wrap (x0.2.1 - x0.1)) r3.1) x0.2.2.2.2.2.2.1)) then some (((0 : Int), (0 : Int), false, false), false, (0 : Int), ()) else
        bif (imin (imin (IntKind.i64.wrap (x0.2.1 - x0.1)) r3.1) x0.2.2.2.2.2.2.1) == x0.2.2.2.2.2.2.1 then
          (f16 x0 (imin (imin (IntKind.i64.wrap (x0.2.1 - x0.1)) r3.1) x0.2.2.2.2.2.2.1)).bind fun r5 =>
          some (r5.1, true, (0 : Int), ())
        else
          bif (imin (imin (IntKind.i64.wrap (x0.2.1 - x0.1)) r3.1) x0.2.2.2.2.2.2.1) == (IntKind.i64.wrap (x0.2.1 - x0.1)) then
            bif x0.2.2.1 then
              (f16 x0 (imin (imin (IntKind.i64.wrap (x0.2.1 - x0.1)) r3.1) x0.2.2.2.2.2.2.1)).bind fun r6 =>
              some (r6.1, true, (0 : Int), ())
            else
              bif (imin (imin (IntKind.i64.wrap (x0.2.1 - x0.1)) r3.1) x0.2.2.2.2.2.2.1) == (IntKind.i64.wrap (x0.2.1 - x0.1)) then
                (f16 x0 (imin (imin (IntKind.i64.wrap (x0.2.1 - x0.1)) r3.1) x0.2.2.2.2.2.2.1)).bind fun r7 =>
                some (r7.1, true, (0 : Int), ())
              else
                bif decide ((IntKind.i64.wrap ((2 : Int) * (imin (imin (IntKind.i64.wrap (x0.2.1 - x0.1)) r3.1) x0.2.2.2.2.2.2.1))) ≥ x0.2.2.2.2.2.2.2.2.1) then
                  (f16 x0 (imin (imin (IntKind.i64.wrap (x0.2.1 - x0.1)) r3.1) x0.2.2.2.2.2.2.1)).bind fun r8 =>
                  some (r8.1, true, (0 : Int), ())
                else
                  some (((0 : Int), (0 : Int), false, false), false, (0 : Int), ())
          else
            bif (imin (imin (IntKind.i64.wrap (x0.2.1 - x0.1)) r3.1) x0.2.2.2.2.2.2.1) == (IntKind.i64.wrap (x0.2.1 - x0.1)) then
              (f16 x0 (imin (imin (IntKind.i64.wrap (x0.2.1 - x0.1)) r3.1) x0.2.2.2.2.2.2.1)).bind fun r9 =>
              some (r9.1, true, (0 : Int), ())
            else
              bif decide ((IntKind.i64.wrap ((2 : Int) * (imin (imin (IntKind.i64.wrap (x0.2.1 - x0.1)) r3.1) x0.2.2.2.2.2.2.1))) ≥ x0.2.2.2.2.2.2.2.2.1) then
                (f16 x0 (imin (imin (IntKind.i64.wrap (x0.2.1 - x0.1)) r3.1) x0.2.2.2.2.2.2.1)).bind fun r10 =>
                some (r10.1, true, (0 : Int), ())
              else
                some (((0 : Int), (0 : Int), false, false), false, (0 : Int), ())
    else
      bif (IntKind.i64.wrap (x0.2.1 - x0.1)) == (0 : Int) then
        bif x0.2.2.1 then
          bif !(decide (r3.1 > (0 : Int))) then some (((0 : Int), (0 : Int), false, false), false, (0 : Int), ()) else
          (f16 x0 (imin (imin (IntKind.i64.wrap (x0.2.1 - x0.1)) r3.1) x0.2.2.2.2.2.2.1)).bind fun r11 =>
          some (r11.1, true, (0 : Int), ())
        else
          some (((0 : Int), (0 : Int), false, false), false, (0 : Int), ())
      else
        bif (imin (imin (IntKind.i64.wrap (x0.2.1 - x0.1)) r3.1) x0.2.2.2.2.2.2.1) == (0 : Int) then some (((0 : Int), (0 : Int), false, false), false, (0 : Int), ()) else
        bif decide (x0.2.2.2.2.2.2.2.1 < (imin (imin (IntKind.i64.wrap (x0.2.1 - x0.1)) r3.1) x0.2.2.2.2.2.2.1)) then some (((0 : Int), (0 : Int), false, false), false, (0 : Int), ()) else
        bif (imin (imin (IntKind.i64.wrap (x0.2.1 - x0.1)) r3.1) x0.2.2.2.2.2.2.1) == x0.2.2.2.2.2.2.1 then
          (f16 x0 (imin (imin (IntKind.i64.wrap (x0.2.1 - x0.1)) r3.1) x0.2.2.2.2.2.2.1)).bind fun r12 =>
          some (r12.1, true, (0 : Int), ())
        else
          bif (imin (imin (IntKind.i64.wrap (x0.2.1 - x0.1)) r3.1) x0.2.2.2.2.2.2.1) == (IntKind.i64.wrap (x0.2.1 - x0.1)) then
            bif x0.2.2.1 then
              (f16 x0 (imin (imin (IntKind.i64.wrap (x0.2.1 - x0.1)) r3.1) x0.2.2.2.2.2.2.1)).bind fun r13 =>
              some (r13.1, true, (0 : Int), ())
            else
              bif (imin (imin (IntKind.i64.wrap (x0.2.1 - x0.1)) r3.1) x0.2.2.2.2.2.2.1) == (IntKind.i64.wrap (x0.2.1 - x0.1)) then
                bif !(x0.2.2.2.2.2.1 == x0.1) then some (((0 : Int), (0 : Int), false, false), false, (0 : Int), ()) else
                (f16 x0 (imin (imin (IntKind.i64.wrap (x0.2.1 - x0.1)) r3.1) x0.2.2.2.2.2.2.1)).bind fun r14 =>
                some (r14.1, true, (0 : Int), ())
              else
                bif decide ((IntKind.i64.wrap ((2 : Int) * (imin (imin (IntKind.i64.wrap (x0.2.1 - x0.1)) r3.1) x0.2.2.2.2.2.2.1))) ≥ x0.2.2.2.2.2.2.2.2.1) then
                  bif !(x0.2.2.2.2.2.1 == x0.1) then some (((0 : Int), (0 : Int), false, false), false, (0 : Int), ()) else
                  (f16 x0 (imin (imin (IntKind.i64.wrap (x0.2.1 - x0.1)) r3.1) x0.2.2.2.2.2.2.1)).bind fun r15 =>
                  some (r15.1, true, (0 : Int), ())
                else
                  some (((0 : Int), (0 : Int), false, false), false, (0 : Int), ())
          else
            bif (imin (imin (IntKind.i64.wrap (x0.2.1 - x0.1)) r3.1) x0.2.2.2.2.2.2.1) == (IntKind.i64.wrap (x0.2.1 - x0.1)) then
              bif !(x0.2.2.2.2.2.1 == x0.1) then some (((0 : Int), (0 : Int), false, false), false, (0 : Int), ()) else
              (f16 x0 (imin (imin (IntKind.i64.wrap (x0.2.1 - x0.1)) r3.1) x0.2.2.2.2.2.2.1)).bind fun r16 =>
              some (r16.1, true, (0 : Int), ())
            else
              bif decide ((IntKind.i64.wrap ((2 : Int) * (imin (imin (IntKind.i64.wrap (x0.2.1 - x0.1)) r3.1) x0.2.2.2.2.2.2.1))) ≥ x0.2.2.2.2.2.2.2.2.1) then
                bif !(x0.2.2.2.2.2.1 == x0.1) then some (((0 : Int), (0 : Int), false, false), false, (0 : Int), ()) else
                (f16 x0 (imin (imin (IntKind.i64.wrap (x0.2.1 - x0.1)) r3.1) x0.2.2.2.2.2.2.1)).bind fun r17 =>
                some (r17.1, true, (0 : Int), ())
              else
                some (((0 : Int), (0 : Int), false, false), false, (0 : Int), ())

/-- tidewayref09.Check -/
def f11 (x0 : TWant) : Option (Int × Unit) :=
  bif decide (x0.2.2.2.2.2.1 < (0 : Int)) then some ((2 : Int), ()) else
  bif decide (x0.2.2.2.2.2.1 > x0.1) then some ((2 : Int), ()) else
  bif decide (x0.1 > x0.2.1) then some ((2 : Int), ()) else
  bif decide (x0.2.1 > (1125899906842624 : Int)) then some ((2 : Int), ()) else
  bif decide (x0.2.2.2.2.1 < (0 : Int)) then some ((2 : Int), ()) else
  bif decide (x0.2.2.2.2.1 > (1125899906842624 : Int)) then some ((2 : Int), ()) else
  bif decide (x0.2.2.2.2.2.2.1 < (1 : Int)) then some ((2 : Int), ()) else
  bif decide (x0.2.2.2.2.2.2.1 > (65000 : Int)) then some ((2 : Int), ()) else
  bif decide (x0.2.2.2.2.2.2.2.2.1 < (0 : Int)) then some ((2 : Int), ()) else
  bif decide (x0.2.2.2.2.2.2.2.2.1 > (1073741824 : Int)) then some ((2 : Int), ()) else
  bif x0.2.2.2.1 then
    bif !x0.2.2.1 then some ((2 : Int), ()) else
    bif x0.1 != x0.2.1 then some ((2 : Int), ()) else
    some ((0 : Int), ())
  else
    some ((0 : Int), ())

/-- tidewayref09.Usable -/
def f13 (x0 : TWant) : Option (Int × Unit) :=
  (f11 x0).bind fun r1 =>
  bif r1.1 != (0 : Int) then some ((0 : Int), ()) else
  some ((imax (IntKind.i64.wrap (x0.2.2.2.2.1 - x0.1)) (0 : Int)), ())

/-- tidewayref09.goes -/
def f17 (x0 : TWant) (x1 : Int) (x2 : Int) : Option (Bool × Unit) :=
  bif !x0.2.2.2.2.2.2.2.2.2.1 then
    bif x1 == x0.2.2.2.2.2.2.1 then some (true, ()) else
    bif x1 == x2 then
      bif x0.2.2.1 then some (true, ()) else
      some (true, ())
    else
      bif decide ((IntKind.i64.wrap ((2 : Int) * x1)) ≥ x0.2.2.2.2.2.2.2.2.1) then some (true, ()) else
      some (false, ())
  else
    bif x1 == x0.2.2.2.2.2.2.1 then some (true, ()) else
    bif x1 == x2 then
      bif x0.2.2.1 then some (true, ()) else
      bif x0.2.2.2.2.2.1 == x0.1 then some (true, ()) else
      bif decide ((IntKind.i64.wrap ((2 : Int) * x1)) ≥ x0.2.2.2.2.2.2.2.2.1) then some ((x0.2.2.2.2.2.1 == x0.1), ()) else
      some (false, ())
    else
      bif decide ((IntKind.i64.wrap ((2 : Int) * x1)) ≥ x0.2.2.2.2.2.2.2.2.1) then some ((x0.2.2.2.2.2.1 == x0.1), ()) else
      some (false, ())

/-- tidewayref09.Next -/
def f9 (x0 : TWant) : Option (TCut × Bool × Int × Unit) :=
  (f11 x0).bind fun r1 =>
  bif r1.1 != (0 : Int) then some (((0 : Int), (0 : Int), false, false), false, (2 : Int), ()) else
  (f13 x0).bind fun r2 =>
  bif x0.2.2.2.1 then some (((0 : Int), (0 : Int), false, false), false, (0 : Int), ()) else
  bif x0.2.2.2.2.2.2.2.2.2.2 then
    bif decide ((IntKind.i64.wrap (x0.2.1 - x0.1)) > (0 : Int)) then some ((x0.1, (IntKind.i64.wrap (x0.1 + (1 : Int))), false, ((IntKind.i64.wrap (x0.2.1 - x0.1)) == (1 : Int))), true, (0 : Int), ()) else
    bif x0.2.2.2.2.2.2.2.2.2.2 then
      bif x0.2.2.1 then some ((x0.1, x0.1, true, false), true, (0 : Int), ()) else
      bif x0.2.2.2.2.2.2.2.2.2.2 then some (((0 : Int), (0 : Int), false, false), false, (0 : Int), ()) else
      bif (IntKind.i64.wrap (x0.2.1 - x0.1)) == (0 : Int) then
        bif x0.2.2.1 then
          bif decide (r2.1 ≥ (1 : Int)) then some ((x0.1, x0.1, true, false), true, (0 : Int), ()) else
          bif (IntKind.i64.wrap (x0.2.1 - x0.1)) == (0 : Int) then some (((0 : Int), (0 : Int), false, false), false, (0 : Int), ()) else
          bif (imin (imin (IntKind.i64.wrap (x0.2.1 - x0.1)) x0.2.2.2.2.2.2.1) r2.1) == (0 : Int) then some (((0 : Int), (0 : Int), false, false), false, (0 : Int), ()) else
          bif decide (x0.2.2.2.2.2.2.2.1 < (imin (imin (IntKind.i64.wrap (x0.2.1 - x0.1)) x0.2.2.2.2.2.2.1) r2.1)) then some (((0 : Int), (0 : Int), false, false), false, (0 : Int), ()) else
          (f17 x0 (imin (imin (IntKind.i64.wrap (x0.2.1 - x0.1)) x0.2.2.2.2.2.2.1) r2.1) (IntKind.i64.wrap (x0.2.1 - x0.1))).bind fun r3 =>
          bif !r3.1 then some (((0 : Int), (0 : Int), false, false), false, (0 : Int), ()) else
          bif x0.2.2.1 then
            bif (imin (imin (IntKind.i64.wrap (x0.2.1 - x0.1)) x0.2.2.2.2.2.2.1) r2.1) == (IntKind.i64.wrap (x0.2.1 - x0.1)) then some ((x0.1, (IntKind.i64.wrap (x0.1 + (imin (imin (IntKind.i64.wrap (x0.2.1 - x0.1)) x0.2.2.2.2.2.2.1) r2.1))), (decide (r2.1 > (imin (imin (IntKind.i64.wrap (x0.2.1 - x0.1)) x0.2.2.2.2.2.2.1) r2.1))), ((imin (imin (IntKind.i64.wrap (x0.2.1 - x0.1)) x0.2.2.2.2.2.2.1) r2.1) == (IntKind.i64.wrap (x0.2.1 - x0.1)))), true, (0 : Int), ()) else
            some ((x0.1, (IntKind.i64.wrap (x0.1 + (imin (imin (IntKind.i64.wrap (x0.2.1 - x0.1)) x0.2.2.2.2.2.2.1) r2.1))), false, ((imin (imin (IntKind.i64.wrap (x0.2.1 - x0.1)) x0.2.2.2.2.2.2.1) r2.1) == (IntKind.i64.wrap (x0.2.1 - x0.1)))), true, (0 : Int), ())
          else
            some ((x0.1, (IntKind.i64.wrap (x0.1 + (imin (imin (IntKind.i64.wrap (x0.2.1 - x0.1)) x0.2.2.2.2.2.2.1) r2.1))), false, ((imin (imin (IntKind.i64.wrap (x0.2.1 - x0.1)) x0.2.2.2.2.2.2.1) r2.1) == (IntKind.i64.wrap (x0.2.1 - x0.1)))), true, (0 : Int), ())
        else
          bif (IntKind.i64.wrap (x0.2.1 - x0.1)) == (0 : Int) then some (((0 : Int), (0 : Int), false, false), false, (0 : Int), ()) else
          bif (imin (imin (IntKind.i64.wrap (x0.2.1 - x0.1)) x0.2.2.2.2.2.2.1) r2.1) == (0 : Int) then some (((0 : Int), (0 : Int), false, false), false, (0 : Int), ()) else
          bif decide (x0.2.2.2.2.2.2.2.1 < (imin (imin (IntKind.i64.wrap (x0.2.1 - x0.1)) x0.2.2.2.2.2.2.1) r2.1)) then some (((0 : Int), (0 : Int), false, false), false, (0 : Int), ()) else
          (f17 x0 (imin (imin (IntKind.i64.wrap (x0.2.1 - x0.1)) x0.2.2.2.2.2.2.1) r2.1) (IntKind.i64.wrap (x0.2.1 - x0.1))).bind fun r4 =>
          bif !r4.1 then some (((0 : Int), (0 : Int), false, false), false, (0 : Int), ()) else
          bif x0.2.2.1 then
            bif (imin (imin (IntKind.i64.wrap (x0.2.1 - x0.1)) x0.2.2.2.2.2.2.1) r2.1) == (IntKind.i64.wrap (x0.2.1 - x0.1)) then some ((x0.1, (IntKind.i64.wrap (x0.1 + (imin (imin (IntKind.i64.wrap (x0.2.1 - x0.1)) x0.2.2.2.2.2.2.1) r2.1))), (decide (r2.1 > (imin (imin (IntKind.i64.wrap (x0.2.1 - x0.1)) x0.2.2.2.2.2.2.1) r2.1))), ((imin (imin (IntKind.i64.wrap (x0.2.1 - x0.1)) x0.2.2.2.2.2.2.1) r2.1) == (IntKind.i64.wrap (x0.2.1 - x0.1)))), true, (0 : Int), ()) else
            some ((x0.1, (IntKind.i64.wrap (x0.1 + (imin (imin (IntKind.i64.wrap (x0.2.1 - x0.1)) x0.2.2.2.2.2.2.1) r2.1))), false, ((imin (imin (IntKind.i64.wrap (x0.2.1 - x0.1)) x0.2.2.2.2.2.2.1) r2.1) == (IntKind.i64.wrap (x0.2.1 - x0.1)))), true, (0 : Int), ())
          else
            some ((x0.1, (IntKind.i64.wrap (x0.1 + (imin (imin (IntKind.i64.wrap (x0.2.1 - x0.1)) x0.2.2.2.2.2.2.1) r2.1))), false, ((imin (imin (IntKind.i64.wrap (x0.2.1 - x0.1)) x0.2.2.2.2.2.2.1) r2.1) == (IntKind.i64.wrap (x0.2.1 - x0.1)))), true, (0 : Int), ())
      else
        bif (IntKind.i64.wrap (x0.2.1 - x0.1)) == (0 : Int) then some (((0 : Int), (0 : Int), false, false), false, (0 : Int), ()) else
        bif (imin (imin (IntKind.i64.wrap (x0.2.1 - x0.1)) x0.2.2.2.2.2.2.1) r2.1) == (0 : Int) then some (((0 : Int), (0 : Int), false, false), false, (0 : Int), ()) else
        bif decide (x0.2.2.2.2.2.2.2.1 < (imin (imin (IntKind.i64.wrap (x0.2.1 - x0.1)) x0.2.2.2.2.2.2.1) r2.1)) then some (((0 : Int), (0 : Int), false, false), false, (0 : Int), ()) else
        (f17 x0 (imin (imin (IntKind.i64.wrap (x0.2.1 - x0.1)) x0.2.2.2.2.2.2.1) r2.1) (IntKind.i64.wrap (x0.2.1 - x0.1))).bind fun r5 =>
        bif !r5.1 then some (((0 : Int), (0 : Int), false, false), false, (0 : Int), ()) else
        bif x0.2.2.1 then
          bif (imin (imin (IntKind.i64.wrap (x0.2.1 - x0.1)) x0.2.2.2.2.2.2.1) r2.1) == (IntKind.i64.wrap (x0.2.1 - x0.1)) then some ((x0.1, (IntKind.i64.wrap (x0.1 + (imin (imin (IntKind.i64.wrap (x0.2.1 - x0.1)) x0.2.2.2.2.2.2.1) r2.1))), (decide (r2.1 > (imin (imin (IntKind.i64.wrap (x0.2.1 - x0.1)) x0.2.2.2.2.2.2.1) r2.1))), ((imin (imin (IntKind.i64.wrap (x0.2.1 - x0.1)) x0.2.2.2.2.2.2.1) r2.1) == (IntKind.i64.wrap (x0.2.1 - x0.1)))), true, (0 : Int), ()) else
          some ((x0.1, (IntKind.i64.wrap (x0.1 + (imin (imin (IntKind.i64.wrap (x0.2.1 - x0.1)) x0.2.2.2.2.2.2.1) r2.1))), false, ((imin (imin (IntKind.i64.wrap (x0.2.1 - x0.1)) x0.2.2.2.2.2.2.1) r2.1) == (IntKind.i64.wrap (x0.2.1 - x0.1)))), true, (0 : Int), ())
        else
          some ((x0.1, (IntKind.i64.wrap (x0.1 + (imin (imin (IntKind.i64.wrap (x0.2.1 - x0.1)) x0.2.2.2.2.2.2.1) r2.1))), false, ((imin (imin (IntKind.i64.wrap (x0.2.1 - x0.1)) x0.2.2.2.2.2.2.1) r2.1) == (IntKind.i64.wrap (x0.2.1 - x0.1)))), true, (0 : Int), ())
    else
      bif x0.2.2.2.2.2.2.2.2.2.2 then some (((0 : Int), (0 : Int), false, false), false, (0 : Int), ()) else
      bif (IntKind.i64.wrap (x0.2.1 - x0.1)) == (0 : Int) then
        bif x0.2.2.1 then
          bif decide (r2.1 ≥ (1 : Int)) then some ((x0.1, x0.1, true, false), true, (0 : Int), ()) else
          bif (IntKind.i64.wrap (x0.2.1 - x0.1)) == (0 : Int) then some (((0 : Int), (0 : Int), false, false), false, (0 : Int), ()) else
          bif (imin (imin (IntKind.i64.wrap (x0.2.1 - x0.1)) x0.2.2.2.2.2.2.1) r2.1) == (0 : Int) then some (((0 : Int), (0 : Int), false, false), false, (0 : Int), ()) else
          bif decide (x0.2.2.2.2.2.2.2.1 < (imin (imin (IntKind.i64.wrap (x0.2.1 - x0.1)) x0.2.2.2.2.2.2.1) r2.1)) then some (((0 : Int), (0 : Int), false, false), false, (0 : Int), ()) else
          (f17 x0 (imin (imin (IntKind.i64.wrap (x0.2.1 - x0.1)) x0.2.2.2.2.2.2.1) r2.1) (IntKind.i64.wrap (x0.2.1 - x0.1))).bind fun r6 =>
          bif !r6.1 then some (((0 : Int), (0 : Int), false, false), false, (0 : Int), ()) else
          bif x0.2.2.1 then
            bif (imin (imin (IntKind.i64.wrap (x0.2.1 - x0.1)) x0.2.2.2.2.2.2.1) r2.1) == (IntKind.i64.wrap (x0.2.1 - x0.1)) then some ((x0.1, (IntKind.i64.wrap (x0.1 + (imin (imin (IntKind.i64.wrap (x0.2.1 - x0.1)) x0.2.2.2.2.2.2.1) r2.1))), (decide (r2.1 > (imin (imin (IntKind.i64.wrap (x0.2.1 - x0.1)) x0.2.2.2.2.2.2.1) r2.1))), ((imin (imin (IntKind.i64.wrap (x0.2.1 - x0.1)) x0.2.2.2.2.2.2.1) r2.1) == (IntKind.i64.wrap (x0.2.1 - x0.1)))), true, (0 : Int), ()) else
            some ((x0.1, (IntKind.i64.wrap (x0.1 + (imin (imin (IntKind.i64.wrap (x0.2.1 - x0.1)) x0.2.2.2.2.2.2.1) r2.1))), false, ((imin (imin (IntKind.i64.wrap (x0.2.1 - x0.1)) x0.2.2.2.2.2.2.1) r2.1) == (IntKind.i64.wrap (x0.2.1 - x0.1)))), true, (0 : Int), ())
          else
            some ((x0.1, (IntKind.i64.wrap (x0.1 + (imin (imin (IntKind.i64.wrap (x0.2.1 - x0.1)) x0.2.2.2.2.2.2.1) r2.1))), false, ((imin (imin (IntKind.i64.wrap (x0.2.1 - x0.1)) x0.2.2.2.2.2.2.1) r2.1) == (IntKind.i64.wrap (x0.2.1 - x0.1)))), true, (0 : Int), ())
        else
          bif (IntKind.i64.wrap (x0.2.1 - x0.1)) == (0 : Int) then some (((0 : Int), (0 : Int), false, false), false, (0 : Int), ()) else
          bif (imin (imin (IntKind.i64.wrap (x0.2.1 - x0.1)) x0.2.2.2.2.2.2.1) r2.1) == (0 : Int) then some (((0 : Int), (0 : Int), false, false), false, (0 : Int), ()) else
          bif decide (x0.2.2.2.2.2.2.2.1 < (imin (imin (IntKind.i64.wrap (x0.2.1 - x0.1)) x0.2.2.2.2.2.2.1) r2.1)) then some (((0 : Int), (0 : Int), false, false), false, (0 : Int), ()) else
          (f17 x0 (imin (imin (IntKind.i64.wrap (x0.2.1 - x0.1)) x0.2.2.2.2.2.2.1) r2.1) (IntKind.i64.wrap (x0.2.1 - x0.1))).bind fun r7 =>
          bif !r7.1 then some (((0 : Int), (0 : Int), false, false), false, (0 : Int), ()) else
          bif x0.2.2.1 then
            bif (imin (imin (IntKind.i64.wrap (x0.2.1 - x0.1)) x0.2.2.2.2.2.2.1) r2.1) == (IntKind.i64.wrap (x0.2.1 - x0.1)) then some ((x0.1, (IntKind.i64.wrap (x0.1 + (imin (imin (IntKind.i64.wrap (x0.2.1 - x0.1)) x0.2.2.2.2.2.2.1) r2.1))), (decide (r2.1 > (imin (imin (IntKind.i64.wrap (x0.2.1 - x0.1)) x0.2.2.2.2.2.2.1) r2.1))), ((imin (imin (IntKind.i64.wrap (x0.2.1 - x0.1)) x0.2.2.2.2.2.2.1) r2.1) == (IntKind.i64.wrap (x0.2.1 - x0.1)))), true, (0 : Int), ()) else
            some ((x0.1, (IntKind.i64.wrap (x0.1 + (imin (imin (IntKind.i64.wrap (x0.2.1 - x0.1)) x0.2.2.2.2.2.2.1) r2.1))), false, ((imin (imin (IntKind.i64.wrap (x0.2.1 - x0.1)) x0.2.2.2.2.2.2.1) r2.1) == (IntKind.i64.wrap (x0.2.1 - x0.1)))), true, (0 : Int), ())
          else
            some ((x0.1, (IntKind.i64.wrap (x0.1 + (imin (imin (IntKind.i64.wrap (x0.2.1 - x0.1)) x0.2.2.2.2.2.2.1) r2.1))), false, ((imin (imin (IntKind.i64.wrap (x0.2.1 - x0.1)) x0.2.2.2.2.2.2.1) r2.1) == (IntKind.i64.wrap (x0.2.1 - x0.1)))), true, (0 : Int), ())
      else
        bif (IntKind.i64.wrap (x0.2.1 - x0.1)) == (0 : Int) then some (((0 : Int), (0 : Int), false, false), false, (0 : Int), ()) else
        bif (imin (imin (IntKind.i64.wrap (x0.2.1 - x0.1)) x0.2.2.2.2.2.2.1) r2.1) == (0 : Int) then some (((0 : Int), (0 : Int), false, false), false, (0 : Int), ()) else
        bif decide (x0.2.2.2.2.2.2.2.1 < (imin (imin (IntKind.i64.wrap (x0.2.1 - x0.1)) x0.2.2.2.2.2.2.1) r2.1)) then some (((0 : Int), (0 : Int), false, false), false, (0 : Int), ()) else
        (f17 x0 (imin (imin (IntKind.i64.wrap (x0.2.1 - x0.1)) x0.2.2.2.2.2.2.1) r2.1) (IntKind.i64.wrap (x0.2.1 - x0.1))).bind fun r8 =>
        bif !r8.1 then some (((0 : Int), (0 : Int), false, false), false, (0 : Int), ()) else
        bif x0.2.2.1 then
          bif (imin (imin (IntKind.i64.wrap (x0.2.1 - x0.1)) x0.2.2.2.2.2.2.1) r2.1) == (IntKind.i64.wrap (x0.2.1 - x0.1)) then some ((x0.1, (IntKind.i64.wrap (x0.1 + (imin (imin (IntKind.i64.wrap (x0.2.1 - x0.1)) x0.2.2.2.2.2.2.1) r2.1))), (decide (r2.1 > (imin (imin (IntKind.i64.wrap (x0.2.1 - x0.1)) x0.2.2.2.2.2.2.1) r2.1))), ((imin (imin (IntKind.i64.wrap (x0.2.1 - x0.1)) x0.2.2.2.2.2.2.1) r2.1) == (IntKind.i64.wrap (x0.2.1 - x0.1)))), true, (0 : Int), ()) else
          some ((x0.1, (IntKind.i64.wrap (x0.1 + (imin (imin (IntKind.i64.wrap (x0.2.1 - x0.1)) x0.2.2.2.2.2.2.1) r2.1))), false, ((imin (imin (IntKind.i64.wrap (x0.2.1 - x0.1)) x0.2.2.2.2.2.2.1) r2.1) == (IntKind.i64.wrap (x0.2.1 - x0.1)))), true, (0 : Int), ())
        else
          some ((x0.1, (IntKind.i64.wrap (x0.1 + (imin (imin (IntKind.i64.wrap (x0.2.1 - x0.1)) x0.2.2.2.2.2.2.1) r2.1))), false, ((imin (imin (IntKind.i64.wrap (x0.2.1 - x0.1)) x0.2.2.2.2.2.2.1) r2.1) == (IntKind.i64.wrap (x0.2.1 - x0.1)))), true, (0 : Int), ())
  else
    bif x0.2.2.2.2.2.2.2.2.2.2 then
      bif x0.2.2.1 then some ((x0.1, x0.1, true, false), true, (0 : Int), ()) else
      bif x0.2.2.2.2.2.2.2.2.2.2 then some (((0 : Int), (0 : Int), false, false), false, (0 : Int), ()) else
      bif (IntKind.i64.wrap (x0.2.1 - x0.1)) == (0 : Int) then
        bif x0.2.2.1 then
          bif decide (r2.1 ≥ (1 : Int)) then some ((x0.1, x0.1, true, false), true, (0 : Int), ()) else
          bif (IntKind.i64.wrap (x0.2.1 - x0.1)) == (0 : Int) then some (((0 : Int), (0 : Int), false, false), false, (0 : Int), ()) else
          bif (imin (imin (IntKind.i64.wrap (x0.2.1 - x0.1)) x0.2.2.2.2.2.2.1) r2.1) == (0 : Int) then some (((0 : Int), (0 : Int), false, false), false, (0 : Int), ()) else
          bif decide (x0.2.2.2.2.2.2.2.1 < (imin (imin (IntKind.i64.wrap (x0.2.1 - x0.1)) x0.2.2.2.2.2.2.1) r2.1)) then some (((0 : Int), (0 : Int), false, false), false, (0 : Int), ()) else
          (f17 x0 (imin (imin (IntKind.i64.wrap (x0.2.1 - x0.1)) x0.2.2.2.2.2.2.1) r2.1) (IntKind.i64.wrap (x0.2.1 - x0.1))).bind fun r9 =>
          bif !r9.1 then some (((0 : Int), (0 : Int), false, false), false, (0 : Int), ()) else
          bif x0.2.2.1 then
            bif (imin (imin (IntKind.i64.wrap (x0.2.1 - x0.1)) x0.2.2.2.2.2.2.1) r2.1) == (IntKind.i64.wrap (x0.2.1 - x0.1)) then some ((x0.1, (IntKind.i64.wrap (x0.1 + (imin (imin (IntKind.i64.wrap (x0.2.1 - x0.1)) x0.2.2.2.2.2.2.1) r2.1))), (decide (r2.1 > (imin (imin (IntKind.i64.wrap (x0.2.1 - x0.1)) x0.2.2.2.2.2.2.1) r2.1))), ((imin (imin (IntKind.i64.wrap (x0.2.1 - x0.1)) x0.2.2.2.2.2.2.1) r2.1) == (IntKind.i64.wrap (x0.2.1 - x0.1)))), true, (0 : Int), ()) else
            some ((x0.1, (IntKind.i64.wrap (x0.1 + (imin (imin (IntKind.i64.wrap (x0.2.1 - x0.1)) x0.2.2.2.2.2.2.1) r2.1))), false, ((imin (imin (IntKind.i64.wrap (x0.2.1 - x0.1)) x0.2.2.2.2.2.2.1) r2.1) == (IntKind.i64.wrap (x0.2.1 - x0.1)))), true, (0 : Int), ())
          else
            some ((x0.1, (IntKind.i64.wrap (x0.1 + (imin (imin (IntKind.i64.wrap (x0.2.1 - x0.1)) x0.2.2.2.2.2.2.1) r2.1))), false, ((imin (imin (IntKind.i64.wrap (x0.2.1 - x0.1)) x0.2.2.2.2.2.2.1) r2.1) == (IntKind.i64.wrap (x0.2.1 - x0.1)))), true, (0 : Int), ())
        else
          bif (IntKind.i64.wrap (x0.2.1 - x0.1)) == (0 : Int) then some (((0 : Int), (0 : Int), false, false), false, (0 : Int), ()) else
          bif (imin (imin (IntKind.i64.wrap (x0.2.1 - x0.1)) x0.2.2.2.2.2.2.1) r2.1) == (0 : Int) then some (((0 : Int), (0 : Int), false, false), false, (0 : Int), ()) else
          bif decide (x0.2.2.2.2.2.2.2.1 < (imin (imin (IntKind.i64.wrap (x0.2.1 - x0.1)) x0.2.2.2.2.2.2.1) r2.1)) then some (((0 : Int), (0 : Int), false, false), false, (0 : Int), ()) else
          (f17 x0 (imin (imin (IntKind.i64.wrap (x0.2.1 - x0.1)) x0.2.2.2.2.2.2.1) r2.1) (IntKind.i64.wrap (x0.2.1 - x0.1))).bind fun r10 =>
          bif !r10.1 then some (((0 : Int), (0 : Int), false, false), false, (0 : Int), ()) else
          bif x0.2.2.1 then
            bif (imin (imin (IntKind.i64.wrap (x0.2.1 - x0.1)) x0.2.2.2.2.2.2.1) r2.1) == (IntKind.i64.wrap (x0.2.1 - x0.1)) then some ((x0.1, (IntKind.i64.wrap (x0.1 + (imin (imin (IntKind.i64.wrap (x0.2.1 - x0.1)) x0.2.2.2.2.2.2.1) r2.1))), (decide (r2.1 > (imin (imin (IntKind.i64.wrap (x0.2.1 - x0.1)) x0.2.2.2.2.2.2.1) r2.1))), ((imin (imin (IntKind.i64.wrap (x0.2.1 - x0.1)) x0.2.2.2.2.2.2.1) r2.1) == (IntKind.i64.wrap (x0.2.1 - x0.1)))), true, (0 : Int), ()) else
            some ((x0.1, (IntKind.i64.wrap (x0.1 + (imin (imin (IntKind.i64.wrap (x0.2.1 - x0.1)) x0.2.2.2.2.2.2.1) r2.1))), false, ((imin (imin (IntKind.i64.wrap (x0.2.1 - x0.1)) x0.2.2.2.2.2.2.1) r2.1) == (IntKind.i64.wrap (x0.2.1 - x0.1)))), true, (0 : Int), ())
          else
            some ((x0.1, (IntKind.i64.wrap (x0.1 + (imin (imin (IntKind.i64.wrap (x0.2.1 - x0.1)) x0.2.2.2.2.2.2.1) r2.1))), false, ((imin (imin (IntKind.i64.wrap (x0.2.1 - x0.1)) x0.2.2.2.2.2.2.1) r2.1) == (IntKind.i64.wrap (x0.2.1 - x0.1)))), true, (0 : Int), ())
      else
        bif (IntKind.i64.wrap (x0.2.1 - x0.1)) == (0 : Int) then some (((0 : Int), (0 : Int), false, false), false, (0 : Int), ()) else
        bif (imin (imin (IntKind.i64.wrap (x0.2.1 - x0.1)) x0.2.2.2.2.2.2.1) r2.1) == (0 : Int) then some (((0 : Int), (0 : Int), false, false), false, (0 : Int), ()) else
        bif decide (x0.2.2.2.2.2.2.2.1 < (imin (imin (IntKind.i64.wrap (x0.2.1 - x0.1)) x0.2.2.2.2.2.2.1) r2.1)) then some (((0 : Int), (0 : Int), false, false), false, (0 : Int), ()) else
        (f17 x0 (imin (imin (IntKind.i64.wrap (x0.2.1 - x0.1)) x0.2.2.2.2.2.2.1) r2.1) (IntKind.i64.wrap (x0.2.1 - x0.1))).bind fun r11 =>
        bif !r11.1 then some (((0 : Int), (0 : Int), false, false), false, (0 : Int), ()) else
        bif x0.2.2.1 then
          bif (imin (imin (IntKind.i64.wrap (x0.2.1 - x0.1)) x0.2.2.2.2.2.2.1) r2.1) == (IntKind.i64.wrap (x0.2.1 - x0.1)) then some ((x0.1, (IntKind.i64.wrap (x0.1 + (imin (imin (IntKind.i64.wrap (x0.2.1 - x0.1)) x0.2.2.2.2.2.2.1) r2.1))), (decide (r2.1 > (imin (imin (IntKind.i64.wrap (x0.2.1 - x0.1)) x0.2.2.2.2.2.2.1) r2.1))), ((imin (imin (IntKind.i64.wrap (x0.2.1 - x0.1)) x0.2.2.2.2.2.2.1) r2.1) == (IntKind.i64.wrap (x0.2.1 - x0.1)))), true, (0 : Int), ()) else
          some ((x0.1, (IntKind.i64.wrap (x0.1 + (imin (imin (IntKind.i64.wrap (x0.2.1 - x0.1)) x0.2.2.2.2.2.2.1) r2.1))), false, ((imin (imin (IntKind.i64.wrap (x0.2.1 - x0.1)) x0.2.2.2.2.2.2.1) r2.1) == (IntKind.i64.wrap (x0.2.1 - x0.1)))), true, (0 : Int), ())
        else
          some ((x0.1, (IntKind.i64.wrap (x0.1 + (imin (imin (IntKind.i64.wrap (x0.2.1 - x0.1)) x0.2.2.2.2.2.2.1) r2.1))), false, ((imin (imin (IntKind.i64.wrap (x0.2.1 - x0.1)) x0.2.2.2.2.2.2.1) r2.1) == (IntKind.i64.wrap (x0.2.1 - x0.1)))), true, (0 : Int), ())
    else
      bif x0.2.2.2.2.2.2.2.2.2.2 then some (((0 : Int), (0 : Int), false, false), false, (0 : Int), ()) else
      bif (IntKind.i64.wrap (x0.2.1 - x0.1)) == (0 : Int) then
        bif x0.2.2.1 then
          bif decide (r2.1 ≥ (1 : Int)) then some ((x0.1, x0.1, true, false), true, (0 : Int), ()) else
          bif (IntKind.i64.wrap (x0.2.1 - x0.1)) == (0 : Int) then some (((0 : Int), (0 : Int), false, false), false, (0 : Int), ()) else
          bif (imin (imin (IntKind.i64.wrap (x0.2.1 - x0.1)) x0.2.2.2.2.2.2.1) r2.1) == (0 : Int) then some (((0 : Int), (0 : Int), false, false), false, (0 : Int), ()) else
          bif decide (x0.2.2.2.2.2.2.2.1 < (imin (imin (IntKind.i64.wrap (x0.2.1 - x0.1)) x0.2.2.2.2.2.2.1) r2.1)) then some (((0 : Int), (0 : Int), false, false), false, (0 : Int), ()) else
          (f17 x0 (imin (imin (IntKind.i64.wrap (x0.2.1 - x0.1)) x0.2.2.2.2.2.2.1) r2.1) (IntKind.i64.wrap (x0.2.1 - x0.1))).bind fun r12 =>
          bif !r12.1 then some (((0 : Int), (0 : Int), false, false), false, (0 : Int), ()) else
          bif x0.2.2.1 then
            bif (imin (imin (IntKind.i64.wrap (x0.2.1 - x0.1)) x0.2.2.2.2.2.2.1) r2.1) == (IntKind.i64.wrap (x0.2.1 - x0.1)) then some ((x0.1, (IntKind.i64.wrap (x0.1 + (imin (imin (IntKind.i64.wrap (x0.2.1 - x0.1)) x0.2.2.2.2.2.2.1) r2.1))), (decide (r2.1 > (imin (imin (IntKind.i64.wrap (x0.2.1 - x0.1)) x0.2.2.2.2.2.2.1) r2.1))), ((imin (imin (IntKind.i64.wrap (x0.2.1 - x0.1)) x0.2.2.2.2.2.2.1) r2.1) == (IntKind.i64.wrap (x0.2.1 - x0.1)))), true, (0 : Int), ()) else
            some ((x0.1, (IntKind.i64.wrap (x0.1 + (imin (imin (IntKind.i64.wrap (x0.2.1 - x0.1)) x0.2.2.2.2.2.2.1) r2.1))), false, ((imin (imin (IntKind.i64.wrap (x0.2.1 - x0.1)) x0.2.2.2.2.2.2.1) r2.1) == (IntKind.i64.wrap (x0.2.1 - x0.1)))), true, (0 : Int), ())
          else
            some ((x0.1, (IntKind.i64.wrap (x0.1 + (imin (imin (IntKind.i64.wrap (x0.2.1 - x0.1)) x0.2.2.2.2.2.2.1) r2.1))), false, ((imin (imin (IntKind.i64.wrap (x0.2.1 - x0.1)) x0.2.2.2.2.2.2.1) r2.1) == (IntKind.i64.wrap (x0.2.1 - x0.1)))), true, (0 : Int), ())
        else
          bif (IntKind.i64.wrap (x0.2.1 - x0.1)) == (0 : Int) then some (((0 : Int), (0 : Int), false, false), false, (0 : Int), ()) else
          bif (imin (imin (IntKind.i64.wrap (x0.2.1 - x0.1)) x0.2.2.2.2.2.2.1) r2.1) == (0 : Int) then some (((0 : Int), (0 : Int), false, false), false, (0 : Int), ()) else
          bif decide (x0.2.2.2.2.2.2.2.1 < (imin (imin (IntKind.i64.wrap (x0.2.1 - x0.1)) x0.2.2.2.2.2.2.1) r2.1)) then some (((0 : Int), (0 : Int), false, false), false, (0 : Int), ()) else
          (f17 x0 (imin (imin (IntKind.i64.wrap (x0.2.1 - x0.1)) x0.2.2.2.2.2.2.1) r2.1) (IntKind.i64.wrap (x0.2.1 - x0.1))).bind fun r13 =>
          bif !r13.1 then some (((0 : Int), (0 : Int), false, false), false, (0 : Int), ()) else
          bif x0.2.2.1 then
            bif (imin (imin (IntKind.i64.wrap (x0.2.1 - x0.1)) x0.2.2.2.2.2.2.1) r2.1) == (IntKind.i64.wrap (x0.2.1 - x0.1)) then some ((x0.1, (IntKind.i64.wrap (x0.1 + (imin (imin (IntKind.i64.wrap (x0.2.1 - x0.1)) x0.2.2.2.2.2.2.1) r2.1))), (decide (r2.1 > (imin (imin (IntKind.i64.wrap (x0.2.1 - x0.1)) x0.2.2.2.2.2.2.1) r2.1))), ((imin (imin (IntKind.i64.wrap (x0.2.1 - x0.1)) x0.2.2.2.2.2.2.1) r2.1) == (IntKind.i64.wrap (x0.2.1 - x0.1)))), true, (0 : Int), ()) else
            some ((x0.1, (IntKind.i64.wrap (x0.1 + (imin (imin (IntKind.i64.wrap (x0.2.1 - x0.1)) x0.2.2.2.2.2.2.1) r2.1))), false, ((imin (imin (IntKind.i64.wrap (x0.2.1 - x0.1)) x0.2.2.2.2.2.2.1) r2.1) == (IntKind.i64.wrap (x0.2.1 - x0.1)))), true, (0 : Int), ())
          else
            some ((x0.1, (IntKind.i64.wrap (x0.1 + (imin (imin (IntKind.i64.wrap (x0.2.1 - x0.1)) x0.2.2.2.2.2.2.1) r2.1))), false, ((imin (imin (IntKind.i64.wrap (x0.2.1 - x0.1)) x0.2.2.2.2.2.2.1) r2.1) == (IntKind.i64.wrap (x0.2.1 - x0.1)))), true, (0 : Int), ())
      else
        bif (IntKind.i64.wrap (x0.2.1 - x0.1)) == (0 : Int) then some (((0 : Int), (0 : Int), false, false), false, (0 : Int), ()) else
        bif (imin (imin (IntKind.i64.wrap (x0.2.1 - x0.1)) x0.2.2.2.2.2.2.1) r2.1) == (0 : Int) then some (((0 : Int), (0 : Int), false, false), false, (0 : Int), ()) else
        bif decide (x0.2.2.2.2.2.2.2.1 < (imin (imin (IntKind.i64.wrap (x0.2.1 - x0.1)) x0.2.2.2.2.2.2.1) r2.1)) then some (((0 : Int), (0 : Int), false, false), false, (0 : Int), ()) else
        (f17 x0 (imin (imin (IntKind.i64.wrap (x0.2.1 - x0.1)) x0.2.2.2.2.2.2.1) r2.1) (IntKind.i64.wrap (x0.2.1 - x0.1))).bind fun r14 =>
        bif !r14.1 then some (((0 : Int), (0 : Int), false, false), false, (0 : Int), ()) else
        bif x0.2.2.1 then
          bif (imin (imin (IntKind.i64.wrap (x0.2.1 - x0.1)) x0.2.2.2.2.2.2.1) r2.1) == (IntKind.i64.wrap (x0.2.1 - x0.1)) then some ((x0.1, (IntKind.i64.wrap (x0.1 + (imin (imin (IntKind.i64.wrap (x0.2.1 - x0.1)) x0.2.2.2.2.2.2.1) r2.1))), (decide (r2.1 > (imin (imin (IntKind.i64.wrap (x0.2.1 - x0.1)) x0.2.2.2.2.2.2.1) r2.1))), ((imin (imin (IntKind.i64.wrap (x0.2.1 - x0.1)) x0.2.2.2.2.2.2.1) r2.1) == (IntKind.i64.wrap (x0.2.1 - x0.1)))), true, (0 : Int), ()) else
          some ((x0.1, (IntKind.i64.wrap (x0.1 + (imin (imin (IntKind.i64.wrap (x0.2.1 - x0.1)) x0.2.2.2.2.2.2.1) r2.1))), false, ((imin (imin (IntKind.i64.wrap (x0.2.1 - x0.1)) x0.2.2.2.2.2.2.1) r2.1) == (IntKind.i64.wrap (x0.2.1 - x0.1)))), true, (0 : Int), ())
        else
          some ((x0.1, (IntKind.i64.wrap (x0.1 + (imin (imin (IntKind.i64.wrap (x0.2.1 - x0.1)) x0.2.2.2.2.2.2.1) r2.1))), false, ((imin (imin (IntKind.i64.wrap (x0.2.1 - x0.1)) x0.2.2.2.2.2.2.1) r2.1) == (IntKind.i64.wrap (x0.2.1 - x0.1)))), true, (0 : Int), ())

/-- tidewaylaw09.heads -/
def f14  : Option (Bool × Unit) :=
  (f8 ((0 : Int), (5 : Int), false, false, (20 : Int), (0 : Int), (10 : Int), (99 : Int), (0 : Int), true, false)).bind fun r1 =>
  (f8 ((7 : Int), (12 : Int), false, false, (20 : Int), (0 : Int), (10 : Int), (99 : Int), (0 : Int), true, false)).bind fun r2 =>
  (f8 ((7 : Int), (12 : Int), false, false, (20 : Int), (0 : Int), (10 : Int), (99 : Int), (0 : Int), false, false)).bind fun r3 =>
  (f8 ((0 : Int), (0 : Int), false, false, (0 : Int), (0 : Int), (0 : Int), (0 : Int), (0 : Int), false, false)).bind fun r4 =>
  bif r1.2.1 then
    bif r1.2.2.1 == (0 : Int) then
      bif (r1.1.1 == (0 : Int)) && ((r1.1.2.1 == (5 : Int)) && ((r1.1.2.2.1 == false) && (r1.1.2.2.2 == true))) then
        bif !r2.2.1 then
          bif r2.2.2.1 == (0 : Int) then
            bif r3.2.1 then
              bif r3.2.2.1 == (0 : Int) then
                bif (r3.1.1 == (7 : Int)) && ((r3.1.2.1 == (12 : Int)) && ((r3.1.2.2.1 == false) && (r3.1.2.2.2 == true))) then some ((r4.2.2.1 == (2 : Int)), ()) else
                some (false, ())
              else
                some (false, ())
            else
              some (false, ())
          else
            some (false, ())
        else
          some (false, ())
      else
        some (false, ())
    else
      some (false, ())
  else
    some (false, ())

/-- tidewaylaw09.SegNext -/
def f3 (x0 : TWant) : Option (Bool × Unit) :=
  (f8 x0).bind fun r1 =>
  (f9 x0).bind fun r2 =>
  bif (r1.1.1 == r2.1.1) && ((r1.1.2.1 == r2.1.2.1) && ((r1.1.2.2.1 == r2.1.2.2.1) && (r1.1.2.2.2 == r2.1.2.2.2))) then
    bif r1.2.1 == r2.2.1 then
      bif r1.2.2.1 == r2.2.2.1 then
        (f10 x0).bind fun r3 =>
        (f11 x0).bind fun r4 =>
        bif r3.1 == r4.1 then
          (f12 x0).bind fun r5 =>
          (f13 x0).bind fun r6 =>
          bif r5.1 == r6.1 then
            (f14).bind fun r7 =>
            some (r7.1, ())
          else
            some (false, ())
        else
          some (false, ())
      else
        some (false, ())
    else
      some (false, ())
  else
    some (false, ())

/-- tidewaylaw09.SegBounds -/
def f4 (x0 : TWant) : Option (Bool × Unit) :=
  (f8 x0).bind fun r1 =>
  bif r1.2.2.1 != (0 : Int) then
    bif (r1.1.1 == (0 : Int)) && ((r1.1.2.1 == (0 : Int)) && ((r1.1.2.2.1 == false) && (r1.1.2.2.2 == false))) then
      (f14).bind fun r2 =>
      some (r2.1, ())
    else
      some (false, ())
  else
    bif !r1.2.1 then
      bif (r1.1.1 == (0 : Int)) && ((r1.1.2.1 == (0 : Int)) && ((r1.1.2.2.1 == false) && (r1.1.2.2.2 == false))) then
        (f14).bind fun r3 =>
        some (r3.1, ())
      else
        some (false, ())
    else
      bif r1.1.1 != x0.1 then some (false, ()) else
      bif decide ((IntKind.i64.wrap (r1.1.2.1 - r1.1.1)) < (0 : Int)) then some (false, ()) else
      bif decide ((IntKind.i64.wrap (r1.1.2.1 - r1.1.1)) > x0.2.2.2.2.2.2.1) then some (false, ()) else
      bif decide (r1.1.2.1 > x0.2.1) then some (false, ()) else
      bif (IntKind.i64.wrap (r1.1.2.1 - r1.1.1)) == (0 : Int) then
        bif !r1.1.2.2.1 then some (false, ()) else
        bif r1.1.2.2.1 then
          bif !x0.2.2.1 then some (false, ()) else
          bif r1.1.2.1 != x0.2.1 then some (false, ()) else
          bif decide ((IntKind.i64.wrap (r1.1.2.1 - r1.1.1)) > (0 : Int)) then
            bif !(r1.1.2.2.2 == (r1.1.2.1 == x0.2.1)) then some (false, ()) else
            bif x0.2.2.2.2.2.2.2.2.2.2 then
              bif decide ((IntKind.i64.wrap (r1.1.2.1 - r1.1.1)) ≤ (1 : Int)) then
                (f14).bind fun r4 =>
                some (r4.1, ())
              else
                some (false, ())
            else
              bif r1.1.2.2.1 then
                bif decide ((IntKind.i64.wrap ((IntKind.i64.wrap (r1.1.2.1 - r1.1.1)) + (1 : Int))) ≤ (IntKind.i64.wrap (x0.2.2.2.2.1 - x0.1))) then
                  bif (IntKind.i64.wrap (r1.1.2.1 - r1.1.1)) == (0 : Int) then
                    (f14).bind fun r5 =>
                    some (r5.1, ())
                  else
                    bif decide ((IntKind.i64.wrap (r1.1.2.1 - r1.1.1)) ≤ x0.2.2.2.2.2.2.2.1) then
                      (f14).bind fun r6 =>
                      some (r6.1, ())
                    else
                      some (false, ())
                else
                  some (false, ())
              else
                bif decide ((IntKind.i64.wrap (r1.1.2.1 - r1.1.1)) ≤ (IntKind.i64.wrap (x0.2.2.2.2.1 - x0.1))) then
                  bif (IntKind.i64.wrap (r1.1.2.1 - r1.1.1)) == (0 : Int) then
                    (f14).bind fun r7 =>
                    some (r7.1, ())
                  else
                    bif decide ((IntKind.i64.wrap (r1.1.2.1 - r1.1.1)) ≤ x0.2.2.2.2.2.2.2.1) then
                      (f14).bind fun r8 =>
                      some (r8.1, ())
                    else
                      some (false, ())
                else
                  some (false, ())
          else
            bif !(r1.1.2.2.2 == false) then some (false, ()) else
            bif x0.2.2.2.2.2.2.2.2.2.2 then
              bif decide ((IntKind.i64.wrap (r1.1.2.1 - r1.1.1)) ≤ (1 : Int)) then
                (f14).bind fun r9 =>
                some (r9.1, ())
              else
                some (false, ())
            else
              bif r1.1.2.2.1 then
                bif decide ((IntKind.i64.wrap ((IntKind.i64.wrap (r1.1.2.1 - r1.1.1)) + (1 : Int))) ≤ (IntKind.i64.wrap (x0.2.2.2.2.1 - x0.1))) then
                  bif (IntKind.i64.wrap (r1.1.2.1 - r1.1.1)) == (0 : Int) then
                    (f14).bind fun r10 =>
                    some (r10.1, ())
                  else
                    bif decide ((IntKind.i64.wrap (r1.1.2.1 - r1.1.1)) ≤ x0.2.2.2.2.2.2.2.1) then
                      (f14).bind fun r11 =>
                      some (r11.1, ())
                    else
                      some (false, ())
                else
                  some (false, ())
              else
                bif decide ((IntKind.i64.wrap (r1.1.2.1 - r1.1.1)) ≤ (IntKind.i64.wrap (x0.2.2.2.2.1 - x0.1))) then
                  bif (IntKind.i64.wrap (r1.1.2.1 - r1.1.1)) == (0 : Int) then
                    (f14).bind fun r12 =>
                    some (r12.1, ())
                  else
                    bif decide ((IntKind.i64.wrap (r1.1.2.1 - r1.1.1)) ≤ x0.2.2.2.2.2.2.2.1) then
                      (f14).bind fun r13 =>
                      some (r13.1, ())
                    else
                      some (false, ())
                else
                  some (false, ())
        else
          bif decide ((IntKind.i64.wrap (r1.1.2.1 - r1.1.1)) > (0 : Int)) then
            bif !(r1.1.2.2.2 == (r1.1.2.1 == x0.2.1)) then some (false, ()) else
            bif x0.2.2.2.2.2.2.2.2.2.2 then
              bif decide ((IntKind.i64.wrap (r1.1.2.1 - r1.1.1)) ≤ (1 : Int)) then
                (f14).bind fun r14 =>
                some (r14.1, ())
              else
                some (false, ())
            else
              bif r1.1.2.2.1 then
                bif decide ((IntKind.i64.wrap ((IntKind.i64.wrap (r1.1.2.1 - r1.1.1)) + (1 : Int))) ≤ (IntKind.i64.wrap (x0.2.2.2.2.1 - x0.1))) then
                  bif (IntKind.i64.wrap (r1.1.2.1 - r1.1.1)) == (0 : Int) then
                    (f14).bind fun r15 =>
                    some (r15.1, ())
                  else
                    bif decide ((IntKind.i64.wrap (r1.1.2.1 - r1.1.1)) ≤ x0.2.2.2.2.2.2.2.1) then
                      (f14).bind fun r16 =>
                      some (r16.1, ())
                    else
                      some (false, ())
                else
                  some (false, ())
              else
                bif decide ((IntKind.i64.wrap (r1.1.2.1 - r1.1.1)) ≤ (IntKind.i64.wrap (x0.2.2.2.2.1 - x0.1))) then
                  bif (IntKind.i64.wrap (r1.1.2.1 - r1.1.1)) == (0 : Int) then
                    (f14).bind fun r17 =>
                    some (r17.1, ())
                  else
                    bif decide ((IntKind.i64.wrap (r1.1.2.1 - r1.1.1)) ≤ x0.2.2.2.2.2.2.2.1) then
                      (f14).bind fun r18 =>
                      some (r18.1, ())
                    else
                      some (false, ())
                else
                  some (false, ())
          else
            bif !(r1.1.2.2.2 == false) then some (false, ()) else
            bif x0.2.2.2.2.2.2.2.2.2.2 then
              bif decide ((IntKind.i64.wrap (r1.1.2.1 - r1.1.1)) ≤ (1 : Int)) then
                (f14).bind fun r19 =>
                some (r19.1, ())
              else
                some (false, ())
            else
              bif r1.1.2.2.1 then
                bif decide ((IntKind.i64.wrap ((IntKind.i64.wrap (r1.1.2.1 - r1.1.1)) + (1 : Int))) ≤ (IntKind.i64.wrap (x0.2.2.2.2.1 - x0.1))) then
                  bif (IntKind.i64.wrap (r1.1.2.1 - r1.1.1)) == (0 : Int) then
                    (f14).bind fun r20 =>
                    some (r20.1, ())
                  else
                    bif decide ((IntKind.i64.wrap (r1.1.2.1 - r1.1.1)) ≤ x0.2.2.2.2.2.2.2.1) then
                      (f14).bind fun r21 =>
                      some (r21.1, ())
                    else
                      some (false, ())
                else
                  some (false, ())
              else
                bif decide ((IntKind.i64.wrap (r1.1.2.1 - r1.1.1)) ≤ (IntKind.i64.wrap (x0.2.2.2.2.1 - x0.1))) then
                  bif (IntKind.i64.wrap (r1.1.2.1 - r1.1.1)) == (0 : Int) then
                    (f14).bind fun r22 =>
                    some (r22.1, ())
                  else
                    bif decide ((IntKind.i64.wrap (r1.1.2.1 - r1.1.1)) ≤ x0.2.2.2.2.2.2.2.1) then
                      (f14).bind fun r23 =>
                      some (r23.1, ())
                    else
                      some (false, ())
                else
                  some (false, ())
      else
        bif r1.1.2.2.1 then
          bif !x0.2.2.1 then some (false, ()) else
          bif r1.1.2.1 != x0.2.1 then some (false, ()) else
          bif decide ((IntKind.i64.wrap (r1.1.2.1 - r1.1.1)) > (0 : Int)) then
            bif !(r1.1.2.2.2 == (r1.1.2.1 == x0.2.1)) then some (false, ()) else
            bif x0.2.2.2.2.2.2.2.2.2.2 then
              bif decide ((IntKind.i64.wrap (r1.1.2.1 - r1.1.1)) ≤ (1 : Int)) then
                (f14).bind fun r24 =>
                some (r24.1, ())
              else
                some (false, ())
            else
              bif r1.1.2.2.1 then
                bif decide ((IntKind.i64.wrap ((IntKind.i64.wrap (r1.1.2.1 - r1.1.1)) + (1 : Int))) ≤ (IntKind.i64.wrap (x0.2.2.2.2.1 - x0.1))) then
                  bif (IntKind.i64.wrap (r1.1.2.1 - r1.1.1)) == (0 : Int) then
                    (f14).bind fun r25 =>
                    some (r25.1, ())
                  else
                    bif decide ((IntKind.i64.wrap (r1.1.2.1 - r1.1.1)) ≤ x0.2.2.2.2.2.2.2.1) then
                      (f14).bind fun r26 =>
                      some (r26.1, ())
                    else
                      some (false, ())
                else
                  some (false, ())
              else
                bif decide ((IntKind.i64.wrap (r1.1.2.1 - r1.1.1)) ≤ (IntKind.i64.wrap (x0.2.2.2.2.1 - x0.1))) then
                  bif (IntKind.i64.wrap (r1.1.2.1 - r1.1.1)) == (0 : Int) then
                    (f14).bind fun r27 =>
                    some (r27.1, ())
                  else
                    bif decide ((IntKind.i64.wrap (r1.1.2.1 - r1.1.1)) ≤ x0.2.2.2.2.2.2.2.1) then
                      (f14).bind fun r28 =>
                      some (r28.1, ())
                    else
                      some (false, ())
                else
                  some (false, ())
          else
            bif !(r1.1.2.2.2 == false) then some (false, ()) else
            bif x0.2.2.2.2.2.2.2.2.2.2 then
              bif decide ((IntKind.i64.wrap (r1.1.2.1 - r1.1.1)) ≤ (1 : Int)) then
                (f14).bind fun r29 =>
                some (r29.1, ())
              else
                some (false, ())
            else
              bif r1.1.2.2.1 then
                bif decide ((IntKind.i64.wrap ((IntKind.i64.wrap (r1.1.2.1 - r1.1.1)) + (1 : Int))) ≤ (IntKind.i64.wrap (x0.2.2.2.2.1 - x0.1))) then
                  bif (IntKind.i64.wrap (r1.1.2.1 - r1.1.1)) == (0 : Int) then
                    (f14).bind fun r30 =>
                    some (r30.1, ())
                  else
                    bif decide ((IntKind.i64.wrap (r1.1.2.1 - r1.1.1)) ≤ x0.2.2.2.2.2.2.2.1) then
                      (f14).bind fun r31 =>
                      some (r31.1, ())
                    else
                      some (false, ())
                else
                  some (false, ())
              else
                bif decide ((IntKind.i64.wrap (r1.1.2.1 - r1.1.1)) ≤ (IntKind.i64.wrap (x0.2.2.2.2.1 - x0.1))) then
                  bif (IntKind.i64.wrap (r1.1.2.1 - r1.1.1)) == (0 : Int) then
                    (f14).bind fun r32 =>
                    some (r32.1, ())
                  else
                    bif decide ((IntKind.i64.wrap (r1.1.2.1 - r1.1.1)) ≤ x0.2.2.2.2.2.2.2.1) then
                      (f14).bind fun r33 =>
                      some (r33.1, ())
                    else
                      some (false, ())
                else
                  some (false, ())
        else
          bif decide ((IntKind.i64.wrap (r1.1.2.1 - r1.1.1)) > (0 : Int)) then
            bif !(r1.1.2.2.2 == (r1.1.2.1 == x0.2.1)) then some (false, ()) else
            bif x0.2.2.2.2.2.2.2.2.2.2 then
              bif decide ((IntKind.i64.wrap (r1.1.2.1 - r1.1.1)) ≤ (1 : Int)) then
                (f14).bind fun r34 =>
                some (r34.1, ())
              else
                some (false, ())
            else
              bif r1.1.2.2.1 then
                bif decide ((IntKind.i64.wrap ((IntKind.i64.wrap (r1.1.2.1 - r1.1.1)) + (1 : Int))) ≤ (IntKind.i64.wrap (x0.2.2.2.2.1 - x0.1))) then
                  bif (IntKind.i64.wrap (r1.1.2.1 - r1.1.1)) == (0 : Int) then
                    (f14).bind fun r35 =>
                    some (r35.1, ())
                  else
                    bif decide ((IntKind.i64.wrap (r1.1.2.1 - r1.1.1)) ≤ x0.2.2.2.2.2.2.2.1) then
                      (f14).bind fun r36 =>
                      some (r36.1, ())
                    else
                      some (false, ())
                else
                  some (false, ())
              else
                bif decide ((IntKind.i64.wrap (r1.1.2.1 - r1.1.1)) ≤ (IntKind.i64.wrap (x0.2.2.2.2.1 - x0.1))) then
                  bif (IntKind.i64.wrap (r1.1.2.1 - r1.1.1)) == (0 : Int) then
                    (f14).bind fun r37 =>
                    some (r37.1, ())
                  else
                    bif decide ((IntKind.i64.wrap (r1.1.2.1 - r1.1.1)) ≤ x0.2.2.2.2.2.2.2.1) then
                      (f14).bind fun r38 =>
                      some (r38.1, ())
                    else
                      some (false, ())
                else
                  some (false, ())
          else
            bif !(r1.1.2.2.2 == false) then some (false, ()) else
            bif x0.2.2.2.2.2.2.2.2.2.2 then
              bif decide ((IntKind.i64.wrap (r1.1.2.1 - r1.1.1)) ≤ (1 : Int)) then
                (f14).bind fun r39 =>
                some (r39.1, ())
              else
                some (false, ())
            else
              bif r1.1.2.2.1 then
                bif decide ((IntKind.i64.wrap ((IntKind.i64.wrap (r1.1.2.1 - r1.1.1)) + (1 : Int))) ≤ (IntKind.i64.wrap (x0.2.2.2.2.1 - x0.1))) then
                  bif (IntKind.i64.wrap (r1.1.2.1 - r1.1.1)) == (0 : Int) then
                    (f14).bind fun r40 =>
                    some (r40.1, ())
                  else
                    bif decide ((IntKind.i64.wrap (r1.1.2.1 - r1.1.1)) ≤ x0.2.2.2.2.2.2.2.1) then
                      (f14).bind fun r41 =>
                      some (r41.1, ())
                    else
                      some (false, ())
                else
                  some (false, ())
              else
                bif decide ((IntKind.i64.wrap (r1.1.2.1 - r1.1.1)) ≤ (IntKind.i64.wrap (x0.2.2.2.2.1 - x0.1))) then
                  bif (IntKind.i64.wrap (r1.1.2.1 - r1.1.1)) == (0 : Int) then
                    (f14).bind fun r42 =>
                    some (r42.1, ())
                  else
                    bif decide ((IntKind.i64.wrap (r1.1.2.1 - r1.1.1)) ≤ x0.2.2.2.2.2.2.2.1) then
                      (f14).bind fun r43 =>
                      some (r43.1, ())
                    else
                      some (false, ())
                else
                  some (false, ())

/-- tidewaylaw09.SegFull -/
def f5 (x0 : TWant) : Option (Bool × Unit) :=
  (f10 x0).bind fun r1 =>
  bif r1.1 != (0 : Int) then
    (f14).bind fun r2 =>
    some (r2.1, ())
  else
    bif x0.2.2.2.1 then
      (f14).bind fun r3 =>
      some (r3.1, ())
    else
      bif x0.2.2.2.2.2.2.2.2.2.2 then
        (f14).bind fun r4 =>
        some (r4.1, ())
      else
        bif decide ((IntKind.i64.wrap (x0.2.1 - x0.1)) < x0.2.2.2.2.2.2.1) then
          (f14).bind fun r5 =>
          some (r5.1, ())
        else
          bif decide ((IntKind.i64.wrap (x0.2.2.2.2.1 - x0.1)) < x0.2.2.2.2.2.2.1) then
            (f14).bind fun r6 =>
            some (r6.1, ())
          else
            bif decide (x0.2.2.2.2.2.2.2.1 < x0.2.2.2.2.2.2.1) then
              (f14).bind fun r7 =>
              some (r7.1, ())
            else
              (f8 x0).bind fun r8 =>
              bif r8.2.1 then
                bif r8.2.2.1 == (0 : Int) then
                  bif r8.1.1 == x0.1 then
                    bif r8.1.2.1 == (IntKind.i64.wrap (x0.1 + x0.2.2.2.2.2.2.1)) then
                      (f14).bind fun r9 =>
                      some (r9.1, ())
                    else
                      some (false, ())
                  else
                    some (false, ())
                else
                  some (false, ())
              else
                some (false, ())

/-- tidewaylaw09.SegNagle -/
def f6 (x0 : TWant) : Option (Bool × Unit) :=
  (f8 (x0.1, x0.2.1, false, false, x0.2.2.2.2.1, x0.2.2.2.2.2.1, x0.2.2.2.2.2.2.1, x0.2.2.2.2.2.2.2.1, x0.2.2.2.2.2.2.2.2.1, true, false)).bind fun r1 =>
  bif r1.2.2.1 != (0 : Int) then
    (f14).bind fun r2 =>
    some (r2.1, ())
  else
    bif x0.2.2.2.2.2.1 == x0.1 then
      (f14).bind fun r3 =>
      some (r3.1, ())
    else
      bif !r1.2.1 then
        (f14).bind fun r4 =>
        some (r4.1, ())
      else
        bif (IntKind.i64.wrap (r1.1.2.1 - r1.1.1)) == x0.2.2.2.2.2.2.1 then
          (f14).bind fun r5 =>
          some (r5.1, ())
        else
          some (false, ())

/-- tidewaylaw09.SegDrains -/
def f7e (k1 : Int → Int → Int → TWant → Option (Bool × Unit)) (x0 : Int) (x1 : Int) (x2 : Bool) : Option (Bool × Unit) :=
  bif decide (x0 < (0 : Int)) then
    (f14).bind fun r1 =>
    some (r1.1, ())
  else
    bif decide (x0 > (500 : Int)) then
      (f14).bind fun r2 =>
      some (r2.1, ())
    else
      bif decide (x1 < (1 : Int)) then
        (f14).bind fun r3 =>
        some (r3.1, ())
      else
        bif decide (x1 > (65000 : Int)) then
          (f14).bind fun r4 =>
          some (r4.1, ())
        else
          k1 x0 (0 : Int) (0 : Int) ((0 : Int), x0, true, false, (10000 : Int), (0 : Int), x1, (100000 : Int), (10000 : Int), x2, false)

def f7s1 (k1 : Int → Int → Int → TWant → Option (Bool × Unit)) (s1 : Int) (s2 : Int) (s3 : Int) (s4 : TWant) : Option (Bool × Unit) :=
  bif decide (s3 ≤ (IntKind.i64.wrap (s1 + (1 : Int)))) then
    (f8 s4).bind fun r1 =>
    bif r1.2.2.1 != (0 : Int) then some (false, ()) else
    bif !r1.2.1 then some (false, ()) else
    bif r1.1.1 != s4.1 then some (false, ()) else
    bif r1.1.2.2.1 then
      (f8 (r1.1.2.1, s4.2.1, s4.2.2.1, true, s4.2.2.2.2.1, s4.2.2.2.2.2.1, s4.2.2.2.2.2.2.1, s4.2.2.2.2.2.2.2.1, s4.2.2.2.2.2.2.2.2.1, s4.2.2.2.2.2.2.2.2.2.1, s4.2.2.2.2.2.2.2.2.2.2)).bind fun r2 =>
      bif (IntKind.i64.wrap ((IntKind.i64.wrap (s2 + r1.1.2.1)) - r1.1.1)) == s1 then
        bif !r2.2.1 then
          bif r2.2.2.1 == (0 : Int) then
            (f14).bind fun r3 =>
            some (r3.1, ())
          else
            some (false, ())
        else
          some (false, ())
      else
        some (false, ())
    else
      k1 s1 (IntKind.i64.wrap ((IntKind.i64.wrap (s2 + r1.1.2.1)) - r1.1.1)) (IntKind.i64.wrap (s3 + (1 : Int))) (r1.1.2.1, s4.2.1, s4.2.2.1, s4.2.2.2.1, s4.2.2.2.2.1, s4.2.2.2.2.2.1, s4.2.2.2.2.2.2.1, s4.2.2.2.2.2.2.2.1, s4.2.2.2.2.2.2.2.2.1, s4.2.2.2.2.2.2.2.2.2.1, s4.2.2.2.2.2.2.2.2.2.2)
  else
    some (false, ())

def f7L : Nat → Int → Int → Int → TWant → Option (Bool × Unit)
  | 0 => fun _ _ _ _ => none
  | n + 1 => fun s1 s2 s3 s4 => f7s1 (f7L n) s1 s2 s3 s4

def f7 (x0 : Int) (x1 : Int) (x2 : Bool) : Option (Bool × Unit) := f7e (f7L (1005)) x0 x1 x2

end Go.Proofs.Ytlomifklceagmaa.Fn
