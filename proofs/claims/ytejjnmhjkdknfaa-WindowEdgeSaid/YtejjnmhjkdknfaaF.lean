/-
  Ytejjnmhjkdknfaa: what each Go function comes to, as a Lean function. Printed by gen.py, a program of this claim's own.
-/
import Derived.Test.YtejjnmhjkdknfaaVb
namespace Go.Proofs.Ytejjnmhjkdknfaa.Fn
open Go Go.Proofs.Ytejjnmhjkdknfaa.Vx
set_option linter.unusedVariables false

abbrev TWindow := Int × Int × Int × Int × Int × Int × Int

/-- window.within -/
def f23 (x0 : Int) : Option ((Int) × Unit) := some (x0, ())

/-- window.Check -/
def f8 (x0 : TWindow) : Option (Int × Unit) :=
  (f23 (1125900980584448 : Int)).bind fun r1 =>
  bif decide (x0.1 < (0 : Int)) then some ((230 : Int), ()) else
  bif decide (x0.1 > r1.1) then some ((230 : Int), ()) else
  bif decide (x0.2.2.1 < (0 : Int)) then some ((230 : Int), ()) else
  bif decide (x0.2.2.1 > r1.1) then some ((230 : Int), ()) else
  bif decide (x0.2.2.2.1 < (0 : Int)) then some ((230 : Int), ()) else
  bif decide (x0.2.2.2.1 > r1.1) then some ((230 : Int), ()) else
  bif decide (x0.2.2.2.2.1 < (0 : Int)) then some ((230 : Int), ()) else
  bif decide (x0.2.2.2.2.1 > r1.1) then some ((230 : Int), ()) else
  (f23 (1073741824 : Int)).bind fun r2 =>
  bif decide (x0.2.1 < (0 : Int)) then some ((230 : Int), ()) else
  bif decide (x0.2.1 > r2.1) then some ((230 : Int), ()) else
  bif decide (x0.2.2.2.2.2.1 < (0 : Int)) then some ((230 : Int), ()) else
  bif decide (x0.2.2.2.2.2.1 > r2.1) then some ((230 : Int), ()) else
  (f23 (100 : Int)).bind fun r3 =>
  bif decide (x0.2.2.2.2.2.2 < (0 : Int)) then some ((230 : Int), ()) else
  bif decide (x0.2.2.2.2.2.2 > r3.1) then some ((230 : Int), ()) else
  bif decide (x0.2.1 > x0.2.2.2.2.2.1) then some ((230 : Int), ()) else
  bif decide (x0.2.2.1 < (IntKind.i64.wrap (x0.2.2.2.2.1 + x0.2.1))) then some ((230 : Int), ()) else
  some ((0 : Int), ())

/-- window.New -/
def f15 (x0 : Int) : Option (TWindow × Int × Unit) :=
  (f23 (1073741824 : Int)).bind fun r1 =>
  bif decide (x0 < (0 : Int)) then some (((0 : Int), (0 : Int), (0 : Int), (0 : Int), (0 : Int), (0 : Int), (0 : Int)), (2 : Int), ()) else
  bif decide (x0 > r1.1) then some (((0 : Int), (0 : Int), (0 : Int), (0 : Int), (0 : Int), (0 : Int), (0 : Int)), (2 : Int), ()) else
  some (((0 : Int), x0, x0, (0 : Int), (0 : Int), x0, (0 : Int)), (0 : Int), ())

/-- window.Told -/
def f11 (x0 : TWindow) (x1 : Int) (x2 : Int) (x3 : Int) : Option (TWindow × Int × Unit) :=
  (f8 x0).bind fun r1 =>
  bif r1.1 != (0 : Int) then some (((0 : Int), (0 : Int), (0 : Int), (0 : Int), (0 : Int), (0 : Int), (0 : Int)), r1.1, ()) else
  (f23 (1125899906842624 : Int)).bind fun r2 =>
  bif decide (x1 < (0 : Int)) then some (((0 : Int), (0 : Int), (0 : Int), (0 : Int), (0 : Int), (0 : Int), (0 : Int)), (2 : Int), ()) else
  bif decide (x1 > r2.1) then some (((0 : Int), (0 : Int), (0 : Int), (0 : Int), (0 : Int), (0 : Int), (0 : Int)), (2 : Int), ()) else
  bif decide (x2 < (0 : Int)) then some (((0 : Int), (0 : Int), (0 : Int), (0 : Int), (0 : Int), (0 : Int), (0 : Int)), (2 : Int), ()) else
  bif decide (x2 > r2.1) then some (((0 : Int), (0 : Int), (0 : Int), (0 : Int), (0 : Int), (0 : Int), (0 : Int)), (2 : Int), ()) else
  (f23 (1073741824 : Int)).bind fun r3 =>
  bif decide (x3 < (0 : Int)) then some (((0 : Int), (0 : Int), (0 : Int), (0 : Int), (0 : Int), (0 : Int), (0 : Int)), (2 : Int), ()) else
  bif decide (x3 > r3.1) then some (((0 : Int), (0 : Int), (0 : Int), (0 : Int), (0 : Int), (0 : Int), (0 : Int)), (2 : Int), ()) else
  bif decide (x1 < x0.2.2.2.1) then some (((imax x0.1 x2), x0.2.1, x0.2.2.1, x0.2.2.2.1, x0.2.2.2.2.1, x0.2.2.2.2.2.1, x0.2.2.2.2.2.2), (0 : Int), ()) else
  bif x1 == x0.2.2.2.1 then
    bif decide (x2 < x0.2.2.2.2.1) then some (((imax x0.1 x2), x0.2.1, x0.2.2.1, x0.2.2.2.1, x0.2.2.2.2.1, x0.2.2.2.2.2.1, x0.2.2.2.2.2.2), (0 : Int), ()) else
    bif decide (x3 > (0 : Int)) then some (((imax x0.1 x2), x3, (imax x0.2.2.1 (IntKind.i64.wrap (x2 + x3))), x1, x2, (imax x0.2.2.2.2.2.1 x3), (0 : Int)), (0 : Int), ()) else
    some (((imax x0.1 x2), x3, (imax x0.2.2.1 (IntKind.i64.wrap (x2 + x3))), x1, x2, (imax x0.2.2.2.2.2.1 x3), x0.2.2.2.2.2.2), (0 : Int), ())
  else
    bif decide (x3 > (0 : Int)) then some (((imax x0.1 x2), x3, (imax x0.2.2.1 (IntKind.i64.wrap (x2 + x3))), x1, x2, (imax x0.2.2.2.2.2.1 x3), (0 : Int)), (0 : Int), ()) else
    some (((imax x0.1 x2), x3, (imax x0.2.2.1 (IntKind.i64.wrap (x2 + x3))), x1, x2, (imax x0.2.2.2.2.2.1 x3), x0.2.2.2.2.2.2), (0 : Int), ())

/-- window.Tried -/
def f13 (x0 : TWindow) : Option (TWindow × Int × Unit) :=
  (f8 x0).bind fun r1 =>
  bif r1.1 != (0 : Int) then some (((0 : Int), (0 : Int), (0 : Int), (0 : Int), (0 : Int), (0 : Int), (0 : Int)), r1.1, ()) else
  some ((x0.1, x0.2.1, x0.2.2.1, x0.2.2.2.1, x0.2.2.2.2.1, x0.2.2.2.2.2.1, (imin (100 : Int) (IntKind.i64.wrap (x0.2.2.2.2.2.2 + (1 : Int))))), (0 : Int), ())

/-- window.Right -/
def f18 (x0 : TWindow) : Option (Int × Unit) :=
  (f8 x0).bind fun r1 =>
  bif r1.1 != (0 : Int) then some ((0 : Int), ()) else
  some ((IntKind.i64.wrap (x0.2.2.2.2.1 + x0.2.1)), ())

/-- seq.Clamp -/
def f27 (x0 : Int) (x1 : Int) (x2 : Int) : Option (Int × Unit) :=
  some ((imax x1 (imin x0 x2)), ())

/-- window.Wait -/
def f21e (k1 : Int → Int → Int → Int → TWindow → Option (Int × Unit)) (x0 : TWindow) (x1 : Int) (x2 : Int) (x3 : Int) : Option (Int × Unit) :=
  (f8 x0).bind fun r1 =>
  bif r1.1 != (0 : Int) then some ((0 : Int), ()) else
  k1 x2 x3 (imin x1 (1125899906842624 : Int)) (0 : Int) x0

def f21s1 (k1 : Int → Int → Int → Int → TWindow → Option (Int × Unit)) (s1 : Int) (s2 : Int) (s3 : Int) (s4 : Int) (s5 : TWindow) : Option (Int × Unit) :=
  bif decide (s4 < s5.2.2.2.2.2.2) then
    bif decide (s3 > (0 : Int)) then
      bif decide (s3 < (1125899906842624 : Int)) then k1 s1 s2 (imin (1125899906842624 : Int) (IntKind.i64.wrap ((2 : Int) * s3))) (IntKind.i64.wrap (s4 + (1 : Int))) s5 else
      (f27 s3 s1 s2).bind fun r1 =>
      some (r1.1, ())
    else
      (f27 s3 s1 s2).bind fun r2 =>
      some (r2.1, ())
  else
    (f27 s3 s1 s2).bind fun r3 =>
    some (r3.1, ())

def f21L : Nat → Int → Int → Int → Int → TWindow → Option (Int × Unit)
  | 0 => fun _ _ _ _ _ => none
  | n + 1 => fun s1 s2 s3 s4 s5 => f21s1 (f21L n) s1 s2 s3 s4 s5

def f21 (x0 : TWindow) (x1 : Int) (x2 : Int) (x3 : Int) : Option (Int × Unit) := f21e (f21L (1005)) x0 x1 x2 x3

/-- window.Shut -/
def f10 (x0 : TWindow) (x1 : Int) : Option (Bool × Unit) :=
  (f8 x0).bind fun r1 =>
  bif r1.1 == (0 : Int) then
    (f18 x0).bind fun r2 =>
    some ((decide (x1 ≥ r2.1)), ())
  else
    some (false, ())

/-- tidewaylaw21.heads -/
def f9  : Option (Bool × Unit) :=
  (f15 (10 : Int)).bind fun r1 =>
  (f11 r1.1 (0 : Int) (4 : Int) (10 : Int)).bind fun r2 =>
  (f11 r2.1 (0 : Int) (3 : Int) (99 : Int)).bind fun r3 =>
  (f13 r2.1).bind fun r4 =>
  (f15 (-1 : Int)).bind fun r5 =>
  bif r1.2.1 == (0 : Int) then
    bif r2.2.1 == (0 : Int) then
      bif r3.2.1 == (0 : Int) then
        (f18 r2.1).bind fun r6 =>
        bif r6.1 == (14 : Int) then
          bif (r3.1.1 == r2.1.1) && ((r3.1.2.1 == r2.1.2.1) && ((r3.1.2.2.1 == r2.1.2.2.1) && ((r3.1.2.2.2.1 == r2.1.2.2.2.1) && ((r3.1.2.2.2.2.1 == r2.1.2.2.2.2.1) && ((r3.1.2.2.2.2.2.1 == r2.1.2.2.2.2.2.1) && (r3.1.2.2.2.2.2.2 == r2.1.2.2.2.2.2.2)))))) then
            bif r4.2.1 == (0 : Int) then
              (f21 r4.1 (100 : Int) (1 : Int) (150 : Int)).bind fun r7 =>
              bif r7.1 == (150 : Int) then
                (f10 r2.1 (14 : Int)).bind fun r8 =>
                bif r8.1 then
                  (f10 r2.1 (13 : Int)).bind fun r9 =>
                  bif !r9.1 then some ((r5.2.1 == (2 : Int)), ()) else
                  some (false, ())
                else
                  some (false, ())
              else
                some (false, ())
            else
              some (false, ())
          else
            some (false, ())
        else
          some (false, ())
      else
        some (false, ())
    else
      some (false, ())
  else
    some (false, ())

/-- tidewaylaw21.WindowShuts -/
def f3 (x0 : TWindow) (x1 : Int) (x2 : Int) : Option (Bool × Unit) :=
  (f8 x0).bind fun r1 =>
  bif r1.1 != (0 : Int) then
    (f9).bind fun r2 =>
    some (r2.1, ())
  else
    bif decide (x1 < (0 : Int)) then
      (f9).bind fun r3 =>
      some (r3.1, ())
    else
      bif decide (x1 > (1125899906842623 : Int)) then
        (f9).bind fun r4 =>
        some (r4.1, ())
      else
        (f10 x0 x1).bind fun r5 =>
        bif r5.1 then
          (f10 x0 (IntKind.i64.wrap (x1 + (1 : Int)))).bind fun r6 =>
          bif !r6.1 then some (false, ()) else
          (f11 x0 (imin x0.2.2.2.1 (1125899906842624 : Int)) (imax x1 (imin x0.2.2.2.2.1 (1125899906842624 : Int))) x2).bind fun r7 =>
          bif r7.2.1 != (0 : Int) then
            (f9).bind fun r8 =>
            some (r8.1, ())
          else
            bif decide (x0.2.2.2.1 > (1125899906842624 : Int)) then
              (f9).bind fun r9 =>
              some (r9.1, ())
            else
              bif decide (x0.2.2.2.2.1 > (1125899906842624 : Int)) then
                (f9).bind fun r10 =>
                some (r10.1, ())
              else
                bif decide (x2 < (1 : Int)) then
                  (f9).bind fun r11 =>
                  some (r11.1, ())
                else
                  (f10 r7.1 x1).bind fun r12 =>
                  bif !r12.1 then
                    bif r7.1.2.2.2.2.2.2 == (0 : Int) then
                      (f9).bind fun r13 =>
                      some (r13.1, ())
                    else
                      some (false, ())
                  else
                    some (false, ())
        else
          (f11 x0 (imin x0.2.2.2.1 (1125899906842624 : Int)) (imax x1 (imin x0.2.2.2.2.1 (1125899906842624 : Int))) x2).bind fun r14 =>
          bif r14.2.1 != (0 : Int) then
            (f9).bind fun r15 =>
            some (r15.1, ())
          else
            bif decide (x0.2.2.2.1 > (1125899906842624 : Int)) then
              (f9).bind fun r16 =>
              some (r16.1, ())
            else
              bif decide (x0.2.2.2.2.1 > (1125899906842624 : Int)) then
                (f9).bind fun r17 =>
                some (r17.1, ())
              else
                bif decide (x2 < (1 : Int)) then
                  (f9).bind fun r18 =>
                  some (r18.1, ())
                else
                  (f10 r14.1 x1).bind fun r19 =>
                  bif !r19.1 then
                    bif r14.1.2.2.2.2.2.2 == (0 : Int) then
                      (f9).bind fun r20 =>
                      some (r20.1, ())
                    else
                      some (false, ())
                  else
                    some (false, ())

/-- tidewayref21.far -/
def f26 (x0 : Int) : Option (Bool × Unit) :=
  bif decide (x0 ≥ (0 : Int)) then some ((decide (x0 ≤ (1125900980584448 : Int))), ()) else
  some (false, ())

/-- tidewayref21.size -/
def f25 (x0 : Int) : Option (Bool × Unit) :=
  bif decide (x0 ≥ (0 : Int)) then some ((decide (x0 ≤ (1073741824 : Int))), ()) else
  some (false, ())

/-- tidewayref21.Check -/
def f17 (x0 : TWindow) : Option (Int × Unit) :=
  (f26 x0.1).bind fun r1 =>
  bif !r1.1 then some ((230 : Int), ()) else
  (f26 x0.2.2.1).bind fun r2 =>
  bif !r2.1 then some ((230 : Int), ()) else
  (f26 x0.2.2.2.1).bind fun r3 =>
  bif !r3.1 then some ((230 : Int), ()) else
  (f26 x0.2.2.2.2.1).bind fun r4 =>
  bif !r4.1 then some ((230 : Int), ()) else
  (f25 x0.2.1).bind fun r5 =>
  bif !r5.1 then some ((230 : Int), ()) else
  (f25 x0.2.2.2.2.2.1).bind fun r6 =>
  bif !r6.1 then some ((230 : Int), ()) else
  bif decide (x0.2.1 > x0.2.2.2.2.2.1) then some ((230 : Int), ()) else
  bif decide ((IntKind.i64.wrap (x0.2.2.2.2.1 + x0.2.1)) > x0.2.2.1) then some ((230 : Int), ()) else
  bif decide (x0.2.2.2.2.2.2 < (0 : Int)) then some ((230 : Int), ()) else
  bif decide (x0.2.2.2.2.2.2 > (100 : Int)) then some ((230 : Int), ()) else
  some ((0 : Int), ())

/-- tidewayref21.off -/
def f24 (x0 : Int) : Option (Bool × Unit) :=
  bif decide (x0 ≥ (0 : Int)) then some ((decide (x0 ≤ (1125899906842624 : Int))), ()) else
  some (false, ())

/-- tidewayref21.Told -/
def f12 (x0 : TWindow) (x1 : Int) (x2 : Int) (x3 : Int) : Option (TWindow × Int × Unit) :=
  (f17 x0).bind fun r1 =>
  bif r1.1 != (0 : Int) then some (((0 : Int), (0 : Int), (0 : Int), (0 : Int), (0 : Int), (0 : Int), (0 : Int)), (230 : Int), ()) else
  (f24 x1).bind fun r2 =>
  bif !r2.1 then some (((0 : Int), (0 : Int), (0 : Int), (0 : Int), (0 : Int), (0 : Int), (0 : Int)), (2 : Int), ()) else
  (f24 x2).bind fun r3 =>
  bif !r3.1 then some (((0 : Int), (0 : Int), (0 : Int), (0 : Int), (0 : Int), (0 : Int), (0 : Int)), (2 : Int), ()) else
  (f25 x3).bind fun r4 =>
  bif !r4.1 then some (((0 : Int), (0 : Int), (0 : Int), (0 : Int), (0 : Int), (0 : Int), (0 : Int)), (2 : Int), ()) else
  bif decide (x1 > x0.2.2.2.1) then
    bif decide (x3 > (0 : Int)) then some (((imax x0.1 x2), x3, (imax x0.2.2.1 (IntKind.i64.wrap (x2 + x3))), x1, x2, (imax x0.2.2.2.2.2.1 x3), (0 : Int)), (0 : Int), ()) else
    some (((imax x0.1 x2), x3, (imax x0.2.2.1 (IntKind.i64.wrap (x2 + x3))), x1, x2, (imax x0.2.2.2.2.2.1 x3), x0.2.2.2.2.2.2), (0 : Int), ())
  else
    bif x1 == x0.2.2.2.1 then
      bif decide (x2 ≥ x0.2.2.2.2.1) then
        bif decide (x3 > (0 : Int)) then some (((imax x0.1 x2), x3, (imax x0.2.2.1 (IntKind.i64.wrap (x2 + x3))), x1, x2, (imax x0.2.2.2.2.2.1 x3), (0 : Int)), (0 : Int), ()) else
        some (((imax x0.1 x2), x3, (imax x0.2.2.1 (IntKind.i64.wrap (x2 + x3))), x1, x2, (imax x0.2.2.2.2.2.1 x3), x0.2.2.2.2.2.2), (0 : Int), ())
      else
        some (((imax x0.1 x2), x0.2.1, x0.2.2.1, x0.2.2.2.1, x0.2.2.2.2.1, x0.2.2.2.2.2.1, x0.2.2.2.2.2.2), (0 : Int), ())
    else
      some (((imax x0.1 x2), x0.2.1, x0.2.2.1, x0.2.2.2.1, x0.2.2.2.2.1, x0.2.2.2.2.2.1, x0.2.2.2.2.2.2), (0 : Int), ())

/-- tidewayref21.Tried -/
def f14 (x0 : TWindow) : Option (TWindow × Int × Unit) :=
  (f17 x0).bind fun r1 =>
  bif r1.1 != (0 : Int) then some (((0 : Int), (0 : Int), (0 : Int), (0 : Int), (0 : Int), (0 : Int), (0 : Int)), (230 : Int), ()) else
  some ((x0.1, x0.2.1, x0.2.2.1, x0.2.2.2.1, x0.2.2.2.2.1, x0.2.2.2.2.2.1, (imin (IntKind.i64.wrap (x0.2.2.2.2.2.2 + (1 : Int))) (100 : Int))), (0 : Int), ())

/-- tidewayref21.New -/
def f16 (x0 : Int) : Option (TWindow × Int × Unit) :=
  (f25 x0).bind fun r1 =>
  bif !r1.1 then some (((0 : Int), (0 : Int), (0 : Int), (0 : Int), (0 : Int), (0 : Int), (0 : Int)), (2 : Int), ()) else
  some (((0 : Int), x0, x0, (0 : Int), (0 : Int), x0, (0 : Int)), (0 : Int), ())

/-- tidewayref21.Right -/
def f19 (x0 : TWindow) : Option (Int × Unit) :=
  (f17 x0).bind fun r1 =>
  bif r1.1 != (0 : Int) then some ((0 : Int), ()) else
  some ((IntKind.i64.wrap (x0.2.2.2.2.1 + x0.2.1)), ())

/-- tidewayref21.Shut -/
def f20 (x0 : TWindow) (x1 : Int) : Option (Bool × Unit) :=
  (f17 x0).bind fun r1 =>
  bif r1.1 == (0 : Int) then
    (f19 x0).bind fun r2 =>
    some ((decide (r2.1 ≤ x1)), ())
  else
    some (false, ())

/-- tidewayref01.Clamp -/
def f28 (x0 : Int) (x1 : Int) (x2 : Int) : Option (Int × Unit) :=
  bif decide (x0 < x1) then some (x1, ()) else
  bif decide (x0 > x2) then
    bif decide (x2 < x1) then some (x1, ()) else
    some (x2, ())
  else
    some (x0, ())

/-- tidewayref21.Wait -/
def f22e (k1 : Int → Int → Int → Int → TWindow → Option (Int × Unit)) (x0 : TWindow) (x1 : Int) (x2 : Int) (x3 : Int) : Option (Int × Unit) :=
  (f17 x0).bind fun r1 =>
  bif r1.1 != (0 : Int) then some ((0 : Int), ()) else
  k1 x2 x3 (imin x1 (1125899906842624 : Int)) (0 : Int) x0

def f22s1 (k1 : Int → Int → Int → Int → TWindow → Option (Int × Unit)) (s1 : Int) (s2 : Int) (s3 : Int) (s4 : Int) (s5 : TWindow) : Option (Int × Unit) :=
  bif decide (s4 < s5.2.2.2.2.2.2) then
    bif decide (s3 > (0 : Int)) then k1 s1 s2 (imin (IntKind.i64.wrap ((2 : Int) * s3)) (1125899906842624 : Int)) (IntKind.i64.wrap (s4 + (1 : Int))) s5 else
    (f28 s3 s1 s2).bind fun r1 =>
    some (r1.1, ())
  else
    (f28 s3 s1 s2).bind fun r2 =>
    some (r2.1, ())

def f22L : Nat → Int → Int → Int → Int → TWindow → Option (Int × Unit)
  | 0 => fun _ _ _ _ _ => none
  | n + 1 => fun s1 s2 s3 s4 s5 => f22s1 (f22L n) s1 s2 s3 s4 s5

def f22 (x0 : TWindow) (x1 : Int) (x2 : Int) (x3 : Int) : Option (Int × Unit) := f22e (f22L (1005)) x0 x1 x2 x3

/-- tidewaylaw21.WindowTells -/
def f4 (x0 : TWindow) (x1 : Int) (x2 : Int) (x3 : Int) : Option (Bool × Unit) :=
  (f11 x0 x1 x2 x3).bind fun r1 =>
  (f12 x0 x1 x2 x3).bind fun r2 =>
  (f13 x0).bind fun r3 =>
  (f14 x0).bind fun r4 =>
  (f15 x3).bind fun r5 =>
  (f16 x3).bind fun r6 =>
  bif (r1.1.1 == r2.1.1) && ((r1.1.2.1 == r2.1.2.1) && ((r1.1.2.2.1 == r2.1.2.2.1) && ((r1.1.2.2.2.1 == r2.1.2.2.2.1) && ((r1.1.2.2.2.2.1 == r2.1.2.2.2.2.1) && ((r1.1.2.2.2.2.2.1 == r2.1.2.2.2.2.2.1) && (r1.1.2.2.2.2.2.2 == r2.1.2.2.2.2.2.2)))))) then
    bif r1.2.1 == r2.2.1 then
      bif (r3.1.1 == r4.1.1) && ((r3.1.2.1 == r4.1.2.1) && ((r3.1.2.2.1 == r4.1.2.2.1) && ((r3.1.2.2.2.1 == r4.1.2.2.2.1) && ((r3.1.2.2.2.2.1 == r4.1.2.2.2.2.1) && ((r3.1.2.2.2.2.2.1 == r4.1.2.2.2.2.2.1) && (r3.1.2.2.2.2.2.2 == r4.1.2.2.2.2.2.2)))))) then
        bif r3.2.1 == r4.2.1 then
          bif (r5.1.1 == r6.1.1) && ((r5.1.2.1 == r6.1.2.1) && ((r5.1.2.2.1 == r6.1.2.2.1) && ((r5.1.2.2.2.1 == r6.1.2.2.2.1) && ((r5.1.2.2.2.2.1 == r6.1.2.2.2.2.1) && ((r5.1.2.2.2.2.2.1 == r6.1.2.2.2.2.2.1) && (r5.1.2.2.2.2.2.2 == r6.1.2.2.2.2.2.2)))))) then
            bif r5.2.1 == r6.2.1 then
              (f8 x0).bind fun r7 =>
              (f17 x0).bind fun r8 =>
              bif r7.1 == r8.1 then
                (f18 x0).bind fun r9 =>
                (f19 x0).bind fun r10 =>
                bif r9.1 == r10.1 then
                  (f10 x0 x1).bind fun r11 =>
                  (f20 x0 x1).bind fun r12 =>
                  bif r11.1 == r12.1 then
                    (f21 x0 x1 x2 x3).bind fun r13 =>
                    (f22 x0 x1 x2 x3).bind fun r14 =>
                    bif r13.1 == r14.1 then
                      (f9).bind fun r15 =>
                      some (r15.1, ())
                    else
                      some (false, ())
                  else
                    some (false, ())
                else
                  some (false, ())
              else
                some (false, ())
            else
              some (false, ())
          else
            some (false, ())
        else
          some (false, ())
      else
        some (false, ())
    else
      some (false, ())
  else
    some (false, ())

/-- tidewaylaw21.WindowEdge -/
def f5e (k1 : (List (Int × Int)) → (List (Int)) → Int → Int → TWindow → Option (Bool × Unit)) (x0 : Int) (x1 : List (Int × Int)) (x2 : List (Int)) : Option (Bool × Unit) :=
  (f15 x0).bind fun r1 =>
  bif r1.2.1 != (0 : Int) then
    (f9).bind fun r2 =>
    some (r2.1, ())
  else
    bif decide (((x1.length : Nat) : Int) > (300 : Int)) then
      (f9).bind fun r3 =>
      some (r3.1, ())
    else
      bif decide (((x2.length : Nat) : Int) < ((x1.length : Nat) : Int)) then
        (f9).bind fun r4 =>
        some (r4.1, ())
      else
        k1 x1 x2 x0 (0 : Int) r1.1

def f5s1 (k1 : (List (Int × Int)) → (List (Int)) → Int → Int → TWindow → Option (Bool × Unit)) (s1 : List (Int × Int)) (s2 : List (Int)) (s3 : Int) (s4 : Int) (s5 : TWindow) : Option (Bool × Unit) :=
  bif decide (s4 < ((s1.length : Nat) : Int)) then
    (getI s1 s4).bind fun e1 =>
    (getI s1 s4).bind fun e2 =>
    (getI s2 s4).bind fun e3 =>
    (f11 s5 e1.1 e2.2 e3).bind fun r4 =>
    bif r4.2.1 != (0 : Int) then
      bif r4.2.1 == (2 : Int) then
        (f9).bind fun r5 =>
        some (r5.1, ())
      else
        some (false, ())
    else
      (getI s1 s4).bind fun e6 =>
      (getI s2 s4).bind fun e7 =>
      (f8 r4.1).bind fun r8 =>
      bif r8.1 != (0 : Int) then some (false, ()) else
      bif decide (r4.1.2.2.1 < s5.2.2.1) then some (false, ()) else
      (f18 r4.1).bind fun r9 =>
      bif decide (r9.1 > r4.1.2.2.1) then some (false, ()) else
      bif decide (r4.1.2.2.1 > (imax s3 (IntKind.i64.wrap (e6.2 + e7)))) then some (false, ()) else
      bif decide (r4.1.1 < s5.1) then some (false, ()) else
      k1 s1 s2 (imax s3 (IntKind.i64.wrap (e6.2 + e7))) (IntKind.i64.wrap (s4 + (1 : Int))) r4.1
  else
    (f9).bind fun r10 =>
    some (r10.1, ())

def f5L : Nat → (List (Int × Int)) → (List (Int)) → Int → Int → TWindow → Option (Bool × Unit)
  | 0 => fun _ _ _ _ _ => none
  | n + 1 => fun s1 s2 s3 s4 s5 => f5s1 (f5L n) s1 s2 s3 s4 s5

def f5 (x0 : Int) (x1 : List (Int × Int)) (x2 : List (Int)) : Option (Bool × Unit) := f5e (f5L (x1.length + x2.length + 1005)) x0 x1 x2

/-- tidewaylaw21.WindowOld -/
def f6 (x0 : TWindow) (x1 : Int) (x2 : Int) (x3 : Int) : Option (Bool × Unit) :=
  (f11 x0 x1 x2 x3).bind fun r1 =>
  bif r1.2.1 != (0 : Int) then
    (f9).bind fun r2 =>
    some (r2.1, ())
  else
    bif decide (x1 > x0.2.2.2.1) then
      (f9).bind fun r3 =>
      some (r3.1, ())
    else
      bif x1 == x0.2.2.2.1 then
        bif decide (x2 ≥ x0.2.2.2.2.1) then
          (f9).bind fun r4 =>
          some (r4.1, ())
        else
          bif (x0.1 == x0.1) && ((r1.1.2.1 == x0.2.1) && ((r1.1.2.2.1 == x0.2.2.1) && ((r1.1.2.2.2.1 == x0.2.2.2.1) && ((r1.1.2.2.2.2.1 == x0.2.2.2.2.1) && ((r1.1.2.2.2.2.2.1 == x0.2.2.2.2.2.1) && (r1.1.2.2.2.2.2.2 == x0.2.2.2.2.2.2)))))) then
            (f9).bind fun r5 =>
            some (r5.1, ())
          else
            some (false, ())
      else
        bif (x0.1 == x0.1) && ((r1.1.2.1 == x0.2.1) && ((r1.1.2.2.1 == x0.2.2.1) && ((r1.1.2.2.2.1 == x0.2.2.2.1) && ((r1.1.2.2.2.2.1 == x0.2.2.2.2.1) && ((r1.1.2.2.2.2.2.1 == x0.2.2.2.2.2.1) && (r1.1.2.2.2.2.2.2 == x0.2.2.2.2.2.2)))))) then
          (f9).bind fun r6 =>
          some (r6.1, ())
        else
          some (false, ())

/-- tidewaylaw21.WindowWaits -/
def f7 (x0 : TWindow) (x1 : Int) (x2 : Int) (x3 : Int) : Option (Bool × Unit) :=
  (f13 x0).bind fun r1 =>
  bif r1.2.1 != (0 : Int) then
    (f9).bind fun r2 =>
    some (r2.1, ())
  else
    bif decide (x1 < (0 : Int)) then
      (f9).bind fun r3 =>
      some (r3.1, ())
    else
      bif decide (x2 < (0 : Int)) then
        (f9).bind fun r4 =>
        some (r4.1, ())
      else
        bif decide (x2 > x3) then
          (f9).bind fun r5 =>
          some (r5.1, ())
        else
          bif decide (x3 > (1125899906842624 : Int)) then
            (f9).bind fun r6 =>
            some (r6.1, ())
          else
            (f21 x0 x1 x2 x3).bind fun r7 =>
            (f21 r1.1 x1 x2 x3).bind fun r8 =>
            bif decide (r7.1 ≥ x2) then
              bif decide (r8.1 ≤ x3) then
                bif decide (r8.1 ≥ r7.1) then
                  bif decide (r8.1 ≤ (IntKind.i64.wrap ((2 : Int) * r7.1))) then
                    (f9).bind fun r9 =>
                    some (r9.1, ())
                  else
                    bif r8.1 == x2 then
                      (f9).bind fun r10 =>
                      some (r10.1, ())
                    else
                      some (false, ())
                else
                  some (false, ())
              else
                some (false, ())
            else
              some (false, ())

end Go.Proofs.Ytejjnmhjkdknfaa.Fn
