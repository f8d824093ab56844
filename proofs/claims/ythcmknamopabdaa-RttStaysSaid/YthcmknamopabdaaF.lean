/-
  Ythcmknamopabdaa: what each Go function comes to, as a Lean function. Printed by gen.py, a program of this claim's own.
-/
import Derived.Test.YthcmknamopabdaaVb
namespace Go.Proofs.Ythcmknamopabdaa.Fn
open Go Go.Proofs.Ythcmknamopabdaa.Vx
set_option linter.unusedVariables false

abbrev TRtt := Int × Int × Int × Int × Int

/-- rtt.time -/
def f19 (x0 : Int) : Option (Bool × Unit) :=
  bif decide (x0 ≥ (0 : Int)) then some ((decide (x0 ≤ (1125899906842624 : Int))), ()) else
  some (false, ())

/-- seq.Clamp -/
def f21 (x0 : Int) (x1 : Int) (x2 : Int) : Option (Int × Unit) :=
  some ((imax x1 (imin x0 x2)), ())

/-- rtt.New -/
def f10 (x0 : Int) (x1 : Int) : Option (TRtt × Int × Unit) :=
  bif decide (x0 < (1 : Int)) then some (((0 : Int), (0 : Int), (0 : Int), (0 : Int), (0 : Int)), (2 : Int), ()) else
  bif decide (x0 > x1) then some (((0 : Int), (0 : Int), (0 : Int), (0 : Int), (0 : Int)), (2 : Int), ()) else
  (f19 x1).bind fun r1 =>
  bif !r1.1 then some (((0 : Int), (0 : Int), (0 : Int), (0 : Int), (0 : Int)), (2 : Int), ()) else
  (f21 (1000000 : Int) x0 x1).bind fun r2 =>
  some (((0 : Int), (0 : Int), r2.1, x0, x1), (0 : Int), ())

/-- rtt.Check -/
def f12 (x0 : TRtt) : Option (Int × Unit) :=
  (f10 x0.2.2.2.1 x0.2.2.2.2).bind fun r1 =>
  (f21 x0.2.2.1 x0.2.2.2.1 x0.2.2.2.2).bind fun r2 =>
  (f21 x0.1 (0 : Int) (1125899906842624 : Int)).bind fun r3 =>
  (f21 x0.2.1 (0 : Int) (1125899906842624 : Int)).bind fun r4 =>
  bif r1.2.1 != (0 : Int) then some ((230 : Int), ()) else
  bif !((r3.1 == x0.1) && ((r4.1 == x0.2.1) && ((r2.1 == x0.2.2.1) && ((r1.1.2.2.2.1 == x0.2.2.2.1) && (r1.1.2.2.2.2 == x0.2.2.2.2))))) then some ((230 : Int), ()) else
  some ((0 : Int), ())

/-- rtt.waits -/
def f20 (x0 : TRtt) : Option (TRtt × Unit) :=
  bif decide (x0.1 > (0 : Int)) then
    (f21 (IntKind.i64.wrap (x0.1 + (imax (1000 : Int) (IntKind.i64.wrap ((4 : Int) * x0.2.1))))) x0.2.2.2.1 x0.2.2.2.2).bind fun r1 =>
    some ((x0.1, x0.2.1, r1.1, x0.2.2.2.1, x0.2.2.2.2), ())
  else
    (f21 (1000000 : Int) x0.2.2.2.1 x0.2.2.2.2).bind fun r2 =>
    some ((x0.1, x0.2.1, r2.1, x0.2.2.2.1, x0.2.2.2.2), ())

/-- rtt.Sample -/
def f9 (x0 : TRtt) (x1 : Int) : Option (TRtt × Int × Unit) :=
  (f12 x0).bind fun r1 =>
  bif r1.1 != (0 : Int) then some (((0 : Int), (0 : Int), (0 : Int), (0 : Int), (0 : Int)), (230 : Int), ()) else
  bif x1 == (0 : Int) then some (((0 : Int), (0 : Int), (0 : Int), (0 : Int), (0 : Int)), (2 : Int), ()) else
  (f19 x1).bind fun r2 =>
  bif !r2.1 then some (((0 : Int), (0 : Int), (0 : Int), (0 : Int), (0 : Int)), (2 : Int), ()) else
  bif x0.1 == (0 : Int) then
    (f20 (x1, (IntKind.i64.wrap (Int.tdiv x1 (2 : Int))), x0.2.2.1, x0.2.2.2.1, x0.2.2.2.2)).bind fun r3 =>
    some (r3.1, (0 : Int), ())
  else
    (f20 ((imax (1 : Int) (IntKind.i64.wrap (Int.tdiv (IntKind.i64.wrap ((IntKind.i64.wrap ((7 : Int) * x0.1)) + x1)) (8 : Int)))), (IntKind.i64.wrap (Int.tdiv (IntKind.i64.wrap ((IntKind.i64.wrap ((3 : Int) * x0.2.1)) + (imax (IntKind.i64.wrap (x0.1 - x1)) (IntKind.i64.wrap (x1 - x0.1))))) (4 : Int))), x0.2.2.1, x0.2.2.2.1, x0.2.2.2.2)).bind fun r4 =>
    some (r4.1, (0 : Int), ())

/-- rtt.Back -/
def f11 (x0 : TRtt) : Option (TRtt × Int × Unit) :=
  (f12 x0).bind fun r1 =>
  bif r1.1 != (0 : Int) then some (((0 : Int), (0 : Int), (0 : Int), (0 : Int), (0 : Int)), r1.1, ()) else
  some ((x0.1, x0.2.1, (imin x0.2.2.2.2 (IntKind.i64.wrap ((2 : Int) * x0.2.2.1))), x0.2.2.2.1, x0.2.2.2.2), (0 : Int), ())

/-- tidewaylaw11.heads -/
def f8  : Option (Bool × Unit) :=
  (f10 (200000 : Int) (60000000 : Int)).bind fun r1 =>
  (f9 r1.1 (100000 : Int)).bind fun r2 =>
  (f11 r2.1).bind fun r3 =>
  (f10 (0 : Int) (1 : Int)).bind fun r4 =>
  (f9 ((0 : Int), (0 : Int), (0 : Int), (0 : Int), (0 : Int)) (1 : Int)).bind fun r5 =>
  bif r1.2.1 == (0 : Int) then
    bif r2.2.1 == (0 : Int) then
      bif r3.2.1 == (0 : Int) then
        bif r2.1.1 == (100000 : Int) then
          bif r2.1.2.1 == (50000 : Int) then
            bif r2.1.2.2.1 == (300000 : Int) then
              bif r3.1.2.2.1 == (600000 : Int) then
                bif r4.2.1 == (2 : Int) then some ((r5.2.1 == (230 : Int)), ()) else
                some (false, ())
              else
                some (false, ())
            else
              some (false, ())
          else
            some (false, ())
        else
          some (false, ())
      else
        some (false, ())
    else
      some (false, ())
  else
    some (false, ())

/-- tidewaylaw11.RttRises -/
def f3 (x0 : TRtt) (x1 : Int) (x2 : Int) : Option (Bool × Unit) :=
  bif decide (x2 < (0 : Int)) then
    (f8).bind fun r1 =>
    some (r1.1, ())
  else
    bif decide (x2 > (1099511627776 : Int)) then
      (f8).bind fun r2 =>
      some (r2.1, ())
    else
      bif decide (x1 < (1 : Int)) then
        (f8).bind fun r3 =>
        some (r3.1, ())
      else
        bif decide (x1 > (1099511627776 : Int)) then
          (f8).bind fun r4 =>
          some (r4.1, ())
        else
          (f9 x0 x1).bind fun r5 =>
          (f9 x0 (IntKind.i64.wrap (x1 + x2))).bind fun r6 =>
          bif r5.2.1 != (0 : Int) then
            bif r5.2.1 == r6.2.1 then
              (f8).bind fun r7 =>
              some (r7.1, ())
            else
              some (false, ())
          else
            bif r6.2.1 != (0 : Int) then
              bif r5.2.1 == r6.2.1 then
                (f8).bind fun r8 =>
                some (r8.1, ())
              else
                some (false, ())
            else
              bif decide (r6.1.1 ≥ r5.1.1) then
                bif decide (r6.1.1 ≤ (IntKind.i64.wrap (r5.1.1 + x2))) then
                  bif r5.1.2.2.2.1 == x0.2.2.2.1 then
                    bif r5.1.2.2.2.2 == x0.2.2.2.2 then
                      (f8).bind fun r9 =>
                      some (r9.1, ())
                    else
                      some (false, ())
                  else
                    some (false, ())
                else
                  some (false, ())
              else
                some (false, ())

/-- tidewaylaw11.RttStays -/
def f4e (k1 : Int → Int → (List (Int)) → Int → Int → Int → TRtt → Option (Bool × Unit)) (x0 : Int) (x1 : Int) (x2 : List (Int)) : Option (Bool × Unit) :=
  (f10 x0 x1).bind fun r1 =>
  bif r1.2.1 != (0 : Int) then
    (f8).bind fun r2 =>
    some (r2.1, ())
  else
    bif decide (((x2.length : Nat) : Int) > (1000 : Int)) then
      (f8).bind fun r3 =>
      some (r3.1, ())
    else
      k1 x0 x1 x2 (1125899906842624 : Int) (0 : Int) (0 : Int) r1.1

def f4s1 (k1 : Int → Int → (List (Int)) → Int → Int → Int → TRtt → Option (Bool × Unit)) (s1 : Int) (s2 : Int) (s3 : List (Int)) (s4 : Int) (s5 : Int) (s6 : Int) (s7 : TRtt) : Option (Bool × Unit) :=
  bif decide (s6 < ((s3.length : Nat) : Int)) then
    (getI s3 s6).bind fun e1 =>
    bif e1 == (0 : Int) then
      (f11 s7).bind fun r2 =>
      bif r2.2.1 != (0 : Int) then some (false, ()) else
      bif decide (r2.1.2.2.1 < s7.2.2.1) then some (false, ()) else
      (f12 r2.1).bind fun r3 =>
      bif r3.1 != (0 : Int) then some (false, ()) else
      bif decide (r2.1.2.2.1 < s1) then some (false, ()) else
      bif decide (r2.1.2.2.1 > s2) then some (false, ()) else
      k1 s1 s2 s3 s4 s5 (IntKind.i64.wrap (s6 + (1 : Int))) r2.1
    else
      (getI s3 s6).bind fun e4 =>
      (f9 s7 e4).bind fun r5 =>
      bif r5.2.1 != (0 : Int) then
        (getI s3 s6).bind fun e6 =>
        bif decide (e6 < (1 : Int)) then
          bif r5.2.1 == (2 : Int) then
            (f8).bind fun r7 =>
            some (r7.1, ())
          else
            some (false, ())
        else
          (getI s3 s6).bind fun e8 =>
          bif decide (e8 > (1125899906842624 : Int)) then
            bif r5.2.1 == (2 : Int) then
              (f8).bind fun r9 =>
              some (r9.1, ())
            else
              some (false, ())
          else
            some (false, ())
      else
        (getI s3 s6).bind fun e10 =>
        (getI s3 s6).bind fun e11 =>
        bif decide (r5.1.1 < (IntKind.i64.wrap ((imin s4 e10) - (7 : Int)))) then some (false, ()) else
        bif decide (r5.1.1 > (imax s5 e11)) then some (false, ()) else
        bif decide (r5.1.1 < (1 : Int)) then some (false, ()) else
        (f12 r5.1).bind fun r12 =>
        bif r12.1 != (0 : Int) then some (false, ()) else
        bif decide (r5.1.2.2.1 < s1) then some (false, ()) else
        bif decide (r5.1.2.2.1 > s2) then some (false, ()) else
        k1 s1 s2 s3 (imin s4 e10) (imax s5 e11) (IntKind.i64.wrap (s6 + (1 : Int))) r5.1
  else
    (f8).bind fun r13 =>
    some (r13.1, ())

def f4L : Nat → Int → Int → (List (Int)) → Int → Int → Int → TRtt → Option (Bool × Unit)
  | 0 => fun _ _ _ _ _ _ _ => none
  | n + 1 => fun s1 s2 s3 s4 s5 s6 s7 => f4s1 (f4L n) s1 s2 s3 s4 s5 s6 s7

def f4 (x0 : Int) (x1 : Int) (x2 : List (Int)) : Option (Bool × Unit) := f4e (f4L (x2.length + 1005)) x0 x1 x2

/-- tidewaylaw11.RttSteady -/
def f5e (k1 : Int → Int → Int → TRtt → Option (Bool × Unit)) (x0 : Int) (x1 : Int) : Option (Bool × Unit) :=
  bif decide (x0 < (8 : Int)) then
    (f8).bind fun r1 =>
    some (r1.1, ())
  else
    bif decide (x0 > (1099511627776 : Int)) then
      (f8).bind fun r2 =>
      some (r2.1, ())
    else
      bif decide (x1 < (8 : Int)) then
        (f8).bind fun r3 =>
        some (r3.1, ())
      else
        bif decide (x1 > (1099511627776 : Int)) then
          (f8).bind fun r4 =>
          some (r4.1, ())
        else
          (f10 (1 : Int) (1125899906842624 : Int)).bind fun r5 =>
          (f9 r5.1 x1).bind fun r6 =>
          k1 x0 x1 (0 : Int) r6.1

def f5s1 (k1 : Int → Int → Int → TRtt → Option (Bool × Unit)) (s1 : Int) (s2 : Int) (s3 : Int) (s4 : TRtt) : Option (Bool × Unit) :=
  bif decide (s3 < (600 : Int)) then
    (f9 s4 s1).bind fun r1 =>
    bif r1.2.1 != (0 : Int) then some (false, ()) else
    k1 s1 s2 (IntKind.i64.wrap (s3 + (1 : Int))) r1.1
  else
    bif decide (s2 ≤ s1) then
      bif decide (s2 > s1) then
        bif decide (s4.1 ≥ (IntKind.i64.wrap (s1 - (8 : Int)))) then
          bif decide (s4.2.1 ≤ (12 : Int)) then
            bif decide (s4.2.2.1 ≤ (IntKind.i64.wrap (s1 + (1008 : Int)))) then
              bif decide (s4.2.2.1 ≥ (IntKind.i64.wrap ((IntKind.i64.wrap (s1 - (8 : Int))) + (1000 : Int)))) then
                (f8).bind fun r2 =>
                some (r2.1, ())
              else
                some (false, ())
            else
              some (false, ())
          else
            some (false, ())
        else
          some (false, ())
      else
        bif decide (s4.1 ≤ s1) then
          bif decide (s4.1 ≥ (IntKind.i64.wrap (s1 - (8 : Int)))) then
            bif decide (s4.2.1 ≤ (12 : Int)) then
              bif decide (s4.2.2.1 ≤ (IntKind.i64.wrap (s1 + (1008 : Int)))) then
                bif decide (s4.2.2.1 ≥ (IntKind.i64.wrap ((IntKind.i64.wrap (s1 - (8 : Int))) + (1000 : Int)))) then
                  (f8).bind fun r3 =>
                  some (r3.1, ())
                else
                  some (false, ())
              else
                some (false, ())
            else
              some (false, ())
          else
            some (false, ())
        else
          some (false, ())
    else
      bif decide (s4.1 ≤ (IntKind.i64.wrap (s1 + (8 : Int)))) then
        bif decide (s2 > s1) then
          bif decide (s4.1 ≥ (IntKind.i64.wrap (s1 - (8 : Int)))) then
            bif decide (s4.2.1 ≤ (12 : Int)) then
              bif decide (s4.2.2.1 ≤ (IntKind.i64.wrap (s1 + (1008 : Int)))) then
                bif decide (s4.2.2.1 ≥ (IntKind.i64.wrap ((IntKind.i64.wrap (s1 - (8 : Int))) + (1000 : Int)))) then
                  (f8).bind fun r4 =>
                  some (r4.1, ())
                else
                  some (false, ())
              else
                some (false, ())
            else
              some (false, ())
          else
            some (false, ())
        else
          bif decide (s4.1 ≤ s1) then
            bif decide (s4.1 ≥ (IntKind.i64.wrap (s1 - (8 : Int)))) then
              bif decide (s4.2.1 ≤ (12 : Int)) then
                bif decide (s4.2.2.1 ≤ (IntKind.i64.wrap (s1 + (1008 : Int)))) then
                  bif decide (s4.2.2.1 ≥ (IntKind.i64.wrap ((IntKind.i64.wrap (s1 - (8 : Int))) + (1000 : Int)))) then
                    (f8).bind fun r5 =>
                    some (r5.1, ())
                  else
                    some (false, ())
                else
                  some (false, ())
              else
                some (false, ())
            else
              some (false, ())
          else
            some (false, ())
      else
        some (false, ())

def f5L : Nat → Int → Int → Int → TRtt → Option (Bool × Unit)
  | 0 => fun _ _ _ _ => none
  | n + 1 => fun s1 s2 s3 s4 => f5s1 (f5L n) s1 s2 s3 s4

def f5 (x0 : Int) (x1 : Int) : Option (Bool × Unit) := f5e (f5L (1005)) x0 x1

/-- rtt.Calm -/
def f13 (x0 : TRtt) : Option (TRtt × Int × Unit) :=
  (f12 x0).bind fun r1 =>
  bif r1.1 != (0 : Int) then some (((0 : Int), (0 : Int), (0 : Int), (0 : Int), (0 : Int)), r1.1, ()) else
  (f20 x0).bind fun r2 =>
  some (r2.1, (0 : Int), ())

/-- tidewaylaw11.RttBacks -/
def f6e (k1 : Int → Int → Int → TRtt → TRtt → TRtt → Option (Bool × Unit)) (x0 : TRtt) (x1 : Int) : Option (Bool × Unit) :=
  (f13 x0).bind fun r1 =>
  bif r1.2.1 != (0 : Int) then
    (f8).bind fun r2 =>
    some (r2.1, ())
  else
    bif decide (x1 < (0 : Int)) then
      (f8).bind fun r3 =>
      some (r3.1, ())
    else
      bif decide (x1 > (60 : Int)) then
        (f8).bind fun r4 =>
        some (r4.1, ())
      else
        k1 x1 r1.1.2.2.1 (0 : Int) x0 r1.1 r1.1

def f6s1 (k1 : Int → Int → Int → TRtt → TRtt → TRtt → Option (Bool × Unit)) (s1 : Int) (s2 : Int) (s3 : Int) (s4 : TRtt) (s5 : TRtt) (s6 : TRtt) : Option (Bool × Unit) :=
  bif decide (s3 < s1) then
    (f11 s6).bind fun r1 =>
    bif r1.2.1 != (0 : Int) then some (false, ()) else
    bif r1.1.2.2.1 != (imin (IntKind.i64.wrap ((2 : Int) * s2)) s4.2.2.2.2) then some (false, ()) else
    k1 s1 (imin (IntKind.i64.wrap ((2 : Int) * s2)) s4.2.2.2.2) (IntKind.i64.wrap (s3 + (1 : Int))) s4 s5 r1.1
  else
    (f13 s6).bind fun r2 =>
    bif r2.2.1 == (0 : Int) then
      bif (r2.1.1 == s5.1) && ((r2.1.2.1 == s5.2.1) && ((r2.1.2.2.1 == s5.2.2.1) && ((r2.1.2.2.2.1 == s5.2.2.2.1) && (r2.1.2.2.2.2 == s5.2.2.2.2)))) then
        (f8).bind fun r3 =>
        some (r3.1, ())
      else
        some (false, ())
    else
      some (false, ())

def f6L : Nat → Int → Int → Int → TRtt → TRtt → TRtt → Option (Bool × Unit)
  | 0 => fun _ _ _ _ _ _ => none
  | n + 1 => fun s1 s2 s3 s4 s5 s6 => f6s1 (f6L n) s1 s2 s3 s4 s5 s6

def f6 (x0 : TRtt) (x1 : Int) : Option (Bool × Unit) := f6e (f6L (1005)) x0 x1

/-- tidewayref11.bounds -/
def f23 (x0 : Int) (x1 : Int) : Option (Bool × Unit) :=
  bif decide (x0 ≥ (1 : Int)) then
    bif decide (x0 ≤ x1) then some ((decide (x1 ≤ (1125899906842624 : Int))), ()) else
    some (false, ())
  else
    some (false, ())

/-- tidewayref11.Check -/
def f18 (x0 : TRtt) : Option (Int × Unit) :=
  (f23 x0.2.2.2.1 x0.2.2.2.2).bind fun r1 =>
  bif !r1.1 then some ((230 : Int), ()) else
  bif decide (x0.2.2.1 < x0.2.2.2.1) then some ((230 : Int), ()) else
  bif decide (x0.2.2.1 > x0.2.2.2.2) then some ((230 : Int), ()) else
  bif decide (x0.1 < (0 : Int)) then some ((230 : Int), ()) else
  bif decide (x0.1 > (1125899906842624 : Int)) then some ((230 : Int), ()) else
  bif decide (x0.2.1 < (0 : Int)) then some ((230 : Int), ()) else
  bif decide (x0.2.1 > (1125899906842624 : Int)) then some ((230 : Int), ()) else
  some ((0 : Int), ())

/-- tidewayref01.Clamp -/
def f22 (x0 : Int) (x1 : Int) (x2 : Int) : Option (Int × Unit) :=
  bif decide (x0 < x1) then some (x1, ()) else
  bif decide (x0 > x2) then
    bif decide (x2 < x1) then some (x1, ()) else
    some (x2, ())
  else
    some (x0, ())

/-- tidewayref11.Calm -/
def f16 (x0 : TRtt) : Option (TRtt × Int × Unit) :=
  (f18 x0).bind fun r1 =>
  bif r1.1 != (0 : Int) then some (((0 : Int), (0 : Int), (0 : Int), (0 : Int), (0 : Int)), (230 : Int), ()) else
  bif x0.1 == (0 : Int) then
    (f22 (1000000 : Int) x0.2.2.2.1 x0.2.2.2.2).bind fun r2 =>
    some ((x0.1, x0.2.1, r2.1, x0.2.2.2.1, x0.2.2.2.2), (0 : Int), ())
  else
    (f22 (IntKind.i64.wrap (x0.1 + (imax (1000 : Int) (IntKind.i64.wrap ((4 : Int) * x0.2.1))))) x0.2.2.2.1 x0.2.2.2.2).bind fun r3 =>
    some ((x0.1, x0.2.1, r3.1, x0.2.2.2.1, x0.2.2.2.2), (0 : Int), ())

/-- tidewayref11.Sample -/
def f14 (x0 : TRtt) (x1 : Int) : Option (TRtt × Int × Unit) :=
  (f18 x0).bind fun r1 =>
  bif r1.1 != (0 : Int) then some (((0 : Int), (0 : Int), (0 : Int), (0 : Int), (0 : Int)), (230 : Int), ()) else
  bif decide (x1 < (1 : Int)) then some (((0 : Int), (0 : Int), (0 : Int), (0 : Int), (0 : Int)), (2 : Int), ()) else
  bif decide (x1 > (1125899906842624 : Int)) then some (((0 : Int), (0 : Int), (0 : Int), (0 : Int), (0 : Int)), (2 : Int), ()) else
  bif x0.1 == (0 : Int) then
    (f16 (x1, (IntKind.i64.wrap (Int.tdiv x1 (2 : Int))), x0.2.2.1, x0.2.2.2.1, x0.2.2.2.2)).bind fun r2 =>
    some (r2.1, r2.2.1, ())
  else
    bif decide ((IntKind.i64.wrap (x0.1 - x1)) < (0 : Int)) then
      (f16 ((imax (IntKind.i64.wrap (Int.tdiv (IntKind.i64.wrap ((IntKind.i64.wrap ((7 : Int) * x0.1)) + x1)) (8 : Int))) (1 : Int)), (IntKind.i64.wrap (Int.tdiv (IntKind.i64.wrap ((IntKind.i64.wrap ((3 : Int) * x0.2.1)) + (IntKind.i64.wrap (0 - (IntKind.i64.wrap (x0.1 - x1)))))) (4 : Int))), x0.2.2.1, x0.2.2.2.1, x0.2.2.2.2)).bind fun r3 =>
      some (r3.1, r3.2.1, ())
    else
      (f16 ((imax (IntKind.i64.wrap (Int.tdiv (IntKind.i64.wrap ((IntKind.i64.wrap ((7 : Int) * x0.1)) + x1)) (8 : Int))) (1 : Int)), (IntKind.i64.wrap (Int.tdiv (IntKind.i64.wrap ((IntKind.i64.wrap ((3 : Int) * x0.2.1)) + (IntKind.i64.wrap (x0.1 - x1)))) (4 : Int))), x0.2.2.1, x0.2.2.2.1, x0.2.2.2.2)).bind fun r4 =>
      some (r4.1, r4.2.1, ())

/-- tidewayref11.Back -/
def f15 (x0 : TRtt) : Option (TRtt × Int × Unit) :=
  (f18 x0).bind fun r1 =>
  bif r1.1 != (0 : Int) then some (((0 : Int), (0 : Int), (0 : Int), (0 : Int), (0 : Int)), (230 : Int), ()) else
  some ((x0.1, x0.2.1, (imin (IntKind.i64.wrap ((2 : Int) * x0.2.2.1)) x0.2.2.2.2), x0.2.2.2.1, x0.2.2.2.2), (0 : Int), ())

/-- tidewayref11.New -/
def f17 (x0 : Int) (x1 : Int) : Option (TRtt × Int × Unit) :=
  (f23 x0 x1).bind fun r1 =>
  bif !r1.1 then some (((0 : Int), (0 : Int), (0 : Int), (0 : Int), (0 : Int)), (2 : Int), ()) else
  (f22 (1000000 : Int) x0 x1).bind fun r2 =>
  some (((0 : Int), (0 : Int), r2.1, x0, x1), (0 : Int), ())

/-- tidewaylaw11.RttReckons -/
def f7 (x0 : TRtt) (x1 : Int) (x2 : Int) (x3 : Int) : Option (Bool × Unit) :=
  (f9 x0 x1).bind fun r1 =>
  (f14 x0 x1).bind fun r2 =>
  (f11 x0).bind fun r3 =>
  (f15 x0).bind fun r4 =>
  (f13 x0).bind fun r5 =>
  (f16 x0).bind fun r6 =>
  (f10 x2 x3).bind fun r7 =>
  (f17 x2 x3).bind fun r8 =>
  bif (r1.1.1 == r2.1.1) && ((r1.1.2.1 == r2.1.2.1) && ((r1.1.2.2.1 == r2.1.2.2.1) && ((r1.1.2.2.2.1 == r2.1.2.2.2.1) && (r1.1.2.2.2.2 == r2.1.2.2.2.2)))) then
    bif r1.2.1 == r2.2.1 then
      bif (r3.1.1 == r4.1.1) && ((r3.1.2.1 == r4.1.2.1) && ((r3.1.2.2.1 == r4.1.2.2.1) && ((r3.1.2.2.2.1 == r4.1.2.2.2.1) && (r3.1.2.2.2.2 == r4.1.2.2.2.2)))) then
        bif r3.2.1 == r4.2.1 then
          bif (r5.1.1 == r6.1.1) && ((r5.1.2.1 == r6.1.2.1) && ((r5.1.2.2.1 == r6.1.2.2.1) && ((r5.1.2.2.2.1 == r6.1.2.2.2.1) && (r5.1.2.2.2.2 == r6.1.2.2.2.2)))) then
            bif r5.2.1 == r6.2.1 then
              bif (r7.1.1 == r8.1.1) && ((r7.1.2.1 == r8.1.2.1) && ((r7.1.2.2.1 == r8.1.2.2.1) && ((r7.1.2.2.2.1 == r8.1.2.2.2.1) && (r7.1.2.2.2.2 == r8.1.2.2.2.2)))) then
                bif r7.2.1 == r8.2.1 then
                  (f12 x0).bind fun r9 =>
                  (f18 x0).bind fun r10 =>
                  bif r9.1 == r10.1 then
                    (f8).bind fun r11 =>
                    some (r11.1, ())
                  else
                    some (false, ())
                else
                  some (false, ())
              else
                some (false, ())
            else
              some (false, ())
          else
            some (false, ())
        else
          some (false, ())
      else
        some (false, ())
    else
      some (false, ())
  else
    some (false, ())

end Go.Proofs.Ythcmknamopabdaa.Fn
