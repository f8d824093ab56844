/-
  Ytgghbpijmdljgaa: what each Go function comes to, as a Lean function. Printed by gen.py, a program of this claim's own.
-/
import Derived.Test.YtgghbpijmdljgaaVb
namespace Go.Proofs.Ytgghbpijmdljgaa.Fn
open Go Go.Proofs.Ytgghbpijmdljgaa.Vx
set_option linter.unusedVariables false

abbrev TCc := Int × Int × Int × Int × Int × Int × Int × Int × Int × Int × Int × (List (Int × Int)) × Int × Int × Int × Int × Int × Int × Int × Int × Int × Int

/-- reno.New -/
def f8 (x0 : Int) (x1 : Int) : Option (TCc × Int × Unit) :=
  bif decide (x0 < (1 : Int)) then some (((0 : Int), (0 : Int), (0 : Int), (0 : Int), (0 : Int), (0 : Int), (0 : Int), (0 : Int), (0 : Int), (0 : Int), (0 : Int), ([] : List (Int × Int)), (0 : Int), (0 : Int), (0 : Int), (0 : Int), (0 : Int), (0 : Int), (0 : Int), (0 : Int), (0 : Int), (0 : Int)), (2 : Int), ()) else
  bif decide (x0 > (65000 : Int)) then some (((0 : Int), (0 : Int), (0 : Int), (0 : Int), (0 : Int), (0 : Int), (0 : Int), (0 : Int), (0 : Int), (0 : Int), (0 : Int), ([] : List (Int × Int)), (0 : Int), (0 : Int), (0 : Int), (0 : Int), (0 : Int), (0 : Int), (0 : Int), (0 : Int), (0 : Int), (0 : Int)), (2 : Int), ()) else
  bif decide (x1 < (1 : Int)) then some (((0 : Int), (0 : Int), (0 : Int), (0 : Int), (0 : Int), (0 : Int), (0 : Int), (0 : Int), (0 : Int), (0 : Int), (0 : Int), ([] : List (Int × Int)), (0 : Int), (0 : Int), (0 : Int), (0 : Int), (0 : Int), (0 : Int), (0 : Int), (0 : Int), (0 : Int), (0 : Int)), (2 : Int), ()) else
  bif decide (x1 > (100 : Int)) then some (((0 : Int), (0 : Int), (0 : Int), (0 : Int), (0 : Int), (0 : Int), (0 : Int), (0 : Int), (0 : Int), (0 : Int), (0 : Int), ([] : List (Int × Int)), (0 : Int), (0 : Int), (0 : Int), (0 : Int), (0 : Int), (0 : Int), (0 : Int), (0 : Int), (0 : Int), (0 : Int)), (2 : Int), ()) else
  some (((1 : Int), x0, (IntKind.i64.wrap (x0 * x1)), (1073741824 : Int), (0 : Int), (0 : Int), (0 : Int), (0 : Int), (0 : Int), (0 : Int), (0 : Int), ([] : List (Int × Int)), (0 : Int), (0 : Int), (0 : Int), (0 : Int), (0 : Int), (0 : Int), (0 : Int), (0 : Int), (0 : Int), (0 : Int)), (0 : Int), ())

/-- tidewayref15.New -/
def f9 (x0 : Int) (x1 : Int) : Option (TCc × Int × Unit) :=
  bif decide (x0 < (1 : Int)) then some (((0 : Int), (0 : Int), (0 : Int), (0 : Int), (0 : Int), (0 : Int), (0 : Int), (0 : Int), (0 : Int), (0 : Int), (0 : Int), ([] : List (Int × Int)), (0 : Int), (0 : Int), (0 : Int), (0 : Int), (0 : Int), (0 : Int), (0 : Int), (0 : Int), (0 : Int), (0 : Int)), (2 : Int), ()) else
  bif decide (x0 > (65000 : Int)) then some (((0 : Int), (0 : Int), (0 : Int), (0 : Int), (0 : Int), (0 : Int), (0 : Int), (0 : Int), (0 : Int), (0 : Int), (0 : Int), ([] : List (Int × Int)), (0 : Int), (0 : Int), (0 : Int), (0 : Int), (0 : Int), (0 : Int), (0 : Int), (0 : Int), (0 : Int), (0 : Int)), (2 : Int), ()) else
  bif decide (x1 < (1 : Int)) then some (((0 : Int), (0 : Int), (0 : Int), (0 : Int), (0 : Int), (0 : Int), (0 : Int), (0 : Int), (0 : Int), (0 : Int), (0 : Int), ([] : List (Int × Int)), (0 : Int), (0 : Int), (0 : Int), (0 : Int), (0 : Int), (0 : Int), (0 : Int), (0 : Int), (0 : Int), (0 : Int)), (2 : Int), ()) else
  bif decide (x1 > (100 : Int)) then some (((0 : Int), (0 : Int), (0 : Int), (0 : Int), (0 : Int), (0 : Int), (0 : Int), (0 : Int), (0 : Int), (0 : Int), (0 : Int), ([] : List (Int × Int)), (0 : Int), (0 : Int), (0 : Int), (0 : Int), (0 : Int), (0 : Int), (0 : Int), (0 : Int), (0 : Int), (0 : Int)), (2 : Int), ()) else
  some (((1 : Int), x0, (IntKind.i64.wrap (x1 * x0)), (1073741824 : Int), (0 : Int), (0 : Int), (0 : Int), (0 : Int), (0 : Int), (0 : Int), (0 : Int), ([] : List (Int × Int)), (0 : Int), (0 : Int), (0 : Int), (0 : Int), (0 : Int), (0 : Int), (0 : Int), (0 : Int), (0 : Int), (0 : Int)), (0 : Int), ())

/-- tidewayref15.Same -/
def f10e (k1 : Int → TCc → TCc → Option (Bool × Unit)) (x0 : TCc) (x1 : TCc) : Option (Bool × Unit) :=
  bif x0.1 != x1.1 then some (false, ()) else
  bif x0.2.1 != x1.2.1 then some (false, ()) else
  bif x0.2.2.1 != x1.2.2.1 then some (false, ()) else
  bif x0.2.2.2.1 != x1.2.2.2.1 then some (false, ()) else
  bif x0.2.2.2.2.1 != x1.2.2.2.2.1 then some (false, ()) else
  bif x0.2.2.2.2.2.1 != x1.2.2.2.2.2.1 then some (false, ()) else
  bif x0.2.2.2.2.2.2.1 != x1.2.2.2.2.2.2.1 then some (false, ()) else
  bif x0.2.2.2.2.2.2.2.1 != x1.2.2.2.2.2.2.2.1 then some (false, ()) else
  bif x0.2.2.2.2.2.2.2.2.1 != x1.2.2.2.2.2.2.2.2.1 then some (false, ()) else
  bif x0.2.2.2.2.2.2.2.2.2.1 != x1.2.2.2.2.2.2.2.2.2.1 then some (false, ()) else
  bif x0.2.2.2.2.2.2.2.2.2.2.1 != x1.2.2.2.2.2.2.2.2.2.2.1 then some (false, ()) else
  bif x0.2.2.2.2.2.2.2.2.2.2.2.2.1 != x1.2.2.2.2.2.2.2.2.2.2.2.2.1 then some (false, ()) else
  bif x0.2.2.2.2.2.2.2.2.2.2.2.2.2.1 != x1.2.2.2.2.2.2.2.2.2.2.2.2.2.1 then some (false, ()) else
  bif x0.2.2.2.2.2.2.2.2.2.2.2.2.2.2.1 != x1.2.2.2.2.2.2.2.2.2.2.2.2.2.2.1 then some (false, ()) else
  bif x0.2.2.2.2.2.2.2.2.2.2.2.2.2.2.2.1 != x1.2.2.2.2.2.2.2.2.2.2.2.2.2.2.2.1 then some (false, ()) else
  bif x0.2.2.2.2.2.2.2.2.2.2.2.2.2.2.2.2.1 != x1.2.2.2.2.2.2.2.2.2.2.2.2.2.2.2.2.1 then some (false, ()) else
  bif x0.2.2.2.2.2.2.2.2.2.2.2.2.2.2.2.2.2.1 != x1.2.2.2.2.2.2.2.2.2.2.2.2.2.2.2.2.2.1 then some (false, ()) else
  bif x0.2.2.2.2.2.2.2.2.2.2.2.2.2.2.2.2.2.2.1 != x1.2.2.2.2.2.2.2.2.2.2.2.2.2.2.2.2.2.2.1 then some (false, ()) else
  bif x0.2.2.2.2.2.2.2.2.2.2.2.2.2.2.2.2.2.2.2.1 != x1.2.2.2.2.2.2.2.2.2.2.2.2.2.2.2.2.2.2.2.1 then some (false, ()) else
  bif x0.2.2.2.2.2.2.2.2.2.2.2.2.2.2.2.2.2.2.2.2.1 != x1.2.2.2.2.2.2.2.2.2.2.2.2.2.2.2.2.2.2.2.2.1 then some (false, ()) else
  bif x0.2.2.2.2.2.2.2.2.2.2.2.2.2.2.2.2.2.2.2.2.2 != x1.2.2.2.2.2.2.2.2.2.2.2.2.2.2.2.2.2.2.2.2.2 then some (false, ()) else
  bif ((x0.2.2.2.2.2.2.2.2.2.2.2.1.length : Nat) : Int) != ((x1.2.2.2.2.2.2.2.2.2.2.2.1.length : Nat) : Int) then some (false, ()) else
  k1 (0 : Int) x0 x1

def f10s1 (k1 : Int → TCc → TCc → Option (Bool × Unit)) (s1 : Int) (s2 : TCc) (s3 : TCc) : Option (Bool × Unit) :=
  bif decide (s1 < ((s2.2.2.2.2.2.2.2.2.2.2.2.1.length : Nat) : Int)) then
    (getI s2.2.2.2.2.2.2.2.2.2.2.2.1 s1).bind fun e1 =>
    (getI s3.2.2.2.2.2.2.2.2.2.2.2.1 s1).bind fun e2 =>
    bif !((e1.1 == e2.1) && (e1.2 == e2.2)) then some (false, ()) else
    k1 (IntKind.i64.wrap (s1 + (1 : Int))) s2 s3
  else
    some (true, ())

def f10L : Nat → Int → TCc → TCc → Option (Bool × Unit)
  | 0 => fun _ _ _ => none
  | n + 1 => fun s1 s2 s3 => f10s1 (f10L n) s1 s2 s3

def f10 (x0 : TCc) (x1 : TCc) : Option (Bool × Unit) := f10e (f10L (1005)) x0 x1

/-- reno.size -/
def f22 (x0 : Int) : Option (Bool × Unit) :=
  bif decide (x0 ≥ (0 : Int)) then some ((decide (x0 ≤ (1073741824 : Int))), ()) else
  some (false, ())

/-- reno.Check -/
def f11 (x0 : TCc) : Option (Int × Unit) :=
  bif x0.1 != (1 : Int) then some ((230 : Int), ()) else
  bif decide (x0.2.1 < (1 : Int)) then some ((230 : Int), ()) else
  bif decide (x0.2.1 > (65000 : Int)) then some ((230 : Int), ()) else
  bif decide (x0.2.2.1 < x0.2.1) then some ((230 : Int), ()) else
  (f22 x0.2.2.1).bind fun r1 =>
  bif !r1.1 then some ((230 : Int), ()) else
  bif decide (x0.2.2.2.1 < (IntKind.i64.wrap ((2 : Int) * x0.2.1))) then some ((230 : Int), ()) else
  (f22 x0.2.2.2.1).bind fun r2 =>
  bif !r2.1 then some ((230 : Int), ()) else
  (f22 x0.2.2.2.2.1).bind fun r3 =>
  bif !r3.1 then some ((230 : Int), ()) else
  bif x0.2.2.2.2.2.1 == (0 : Int) then
    bif x0.2.2.2.2.2.2.1 == (0 : Int) then
      bif x0.2.2.2.2.2.2.2.1 == (0 : Int) then
        bif x0.2.2.2.2.2.2.2.2.1 == (0 : Int) then
          bif x0.2.2.2.2.2.2.2.2.2.1 == (0 : Int) then
            bif x0.2.2.2.2.2.2.2.2.2.2.1 == (0 : Int) then
              bif ((x0.2.2.2.2.2.2.2.2.2.2.2.1.length : Nat) : Int) == (0 : Int) then
                bif x0.2.2.2.2.2.2.2.2.2.2.2.2.1 == (0 : Int) then
                  bif x0.2.2.2.2.2.2.2.2.2.2.2.2.2.1 == (0 : Int) then
                    bif x0.2.2.2.2.2.2.2.2.2.2.2.2.2.2.1 == (0 : Int) then
                      bif x0.2.2.2.2.2.2.2.2.2.2.2.2.2.2.2.1 == (0 : Int) then
                        bif x0.2.2.2.2.2.2.2.2.2.2.2.2.2.2.2.2.1 == (0 : Int) then
                          bif x0.2.2.2.2.2.2.2.2.2.2.2.2.2.2.2.2.2.1 == (0 : Int) then
                            bif x0.2.2.2.2.2.2.2.2.2.2.2.2.2.2.2.2.2.2.1 == (0 : Int) then
                              bif x0.2.2.2.2.2.2.2.2.2.2.2.2.2.2.2.2.2.2.2.1 == (0 : Int) then
                                bif x0.2.2.2.2.2.2.2.2.2.2.2.2.2.2.2.2.2.2.2.2.1 == (0 : Int) then
                                  bif !(x0.2.2.2.2.2.2.2.2.2.2.2.2.2.2.2.2.2.2.2.2.2 == (0 : Int)) then some ((230 : Int), ()) else
                                  some ((0 : Int), ())
                                else
                                  some ((230 : Int), ())
                              else
                                some ((230 : Int), ())
                            else
                              some ((230 : Int), ())
                          else
                            some ((230 : Int), ())
                        else
                          some ((230 : Int), ())
                      else
                        some ((230 : Int), ())
                    else
                      some ((230 : Int), ())
                  else
                    some ((230 : Int), ())
                else
                  some ((230 : Int), ())
              else
                some ((230 : Int), ())
            else
              some ((230 : Int), ())
          else
            some ((230 : Int), ())
        else
          some ((230 : Int), ())
      else
        some ((230 : Int), ())
    else
      some ((230 : Int), ())
  else
    some ((230 : Int), ())

/-- reno.Acked -/
def f13 (x0 : TCc) (x1 : Int) (x2 : Bool) : Option (TCc × Int × Unit) :=
  (f11 x0).bind fun r1 =>
  bif r1.1 != (0 : Int) then some (((0 : Int), (0 : Int), (0 : Int), (0 : Int), (0 : Int), (0 : Int), (0 : Int), (0 : Int), (0 : Int), (0 : Int), (0 : Int), ([] : List (Int × Int)), (0 : Int), (0 : Int), (0 : Int), (0 : Int), (0 : Int), (0 : Int), (0 : Int), (0 : Int), (0 : Int), (0 : Int)), (230 : Int), ()) else
  (f22 x1).bind fun r2 =>
  bif !r2.1 then some (((0 : Int), (0 : Int), (0 : Int), (0 : Int), (0 : Int), (0 : Int), (0 : Int), (0 : Int), (0 : Int), (0 : Int), (0 : Int), ([] : List (Int × Int)), (0 : Int), (0 : Int), (0 : Int), (0 : Int), (0 : Int), (0 : Int), (0 : Int), (0 : Int), (0 : Int), (0 : Int)), (2 : Int), ()) else
  bif x2 then some (x0, (0 : Int), ()) else
  bif decide (x0.2.2.1 < x0.2.2.2.1) then some ((x0.1, x0.2.1, (imin (1073741824 : Int) (IntKind.i64.wrap (x0.2.2.1 + (imin x1 x0.2.1)))), x0.2.2.2.1, x0.2.2.2.2.1, x0.2.2.2.2.2.1, x0.2.2.2.2.2.2.1, x0.2.2.2.2.2.2.2.1, x0.2.2.2.2.2.2.2.2.1, x0.2.2.2.2.2.2.2.2.2.1, x0.2.2.2.2.2.2.2.2.2.2.1, x0.2.2.2.2.2.2.2.2.2.2.2.1, x0.2.2.2.2.2.2.2.2.2.2.2.2.1, x0.2.2.2.2.2.2.2.2.2.2.2.2.2.1, x0.2.2.2.2.2.2.2.2.2.2.2.2.2.2.1, x0.2.2.2.2.2.2.2.2.2.2.2.2.2.2.2.1, x0.2.2.2.2.2.2.2.2.2.2.2.2.2.2.2.2.1, x0.2.2.2.2.2.2.2.2.2.2.2.2.2.2.2.2.2.1, x0.2.2.2.2.2.2.2.2.2.2.2.2.2.2.2.2.2.2.1, x0.2.2.2.2.2.2.2.2.2.2.2.2.2.2.2.2.2.2.2.1, x0.2.2.2.2.2.2.2.2.2.2.2.2.2.2.2.2.2.2.2.2.1, x0.2.2.2.2.2.2.2.2.2.2.2.2.2.2.2.2.2.2.2.2.2), (0 : Int), ()) else
  bif decide ((imin (1073741824 : Int) (IntKind.i64.wrap (x0.2.2.2.2.1 + x1))) ≥ x0.2.2.1) then some ((x0.1, x0.2.1, (imin (1073741824 : Int) (IntKind.i64.wrap (x0.2.2.1 + x0.2.1))), x0.2.2.2.1, (IntKind.i64.wrap ((imin (1073741824 : Int) (IntKind.i64.wrap (x0.2.2.2.2.1 + x1))) - x0.2.2.1)), x0.2.2.2.2.2.1, x0.2.2.2.2.2.2.1, x0.2.2.2.2.2.2.2.1, x0.2.2.2.2.2.2.2.2.1, x0.2.2.2.2.2.2.2.2.2.1, x0.2.2.2.2.2.2.2.2.2.2.1, x0.2.2.2.2.2.2.2.2.2.2.2.1, x0.2.2.2.2.2.2.2.2.2.2.2.2.1, x0.2.2.2.2.2.2.2.2.2.2.2.2.2.1, x0.2.2.2.2.2.2.2.2.2.2.2.2.2.2.1, x0.2.2.2.2.2.2.2.2.2.2.2.2.2.2.2.1, x0.2.2.2.2.2.2.2.2.2.2.2.2.2.2.2.2.1, x0.2.2.2.2.2.2.2.2.2.2.2.2.2.2.2.2.2.1, x0.2.2.2.2.2.2.2.2.2.2.2.2.2.2.2.2.2.2.1, x0.2.2.2.2.2.2.2.2.2.2.2.2.2.2.2.2.2.2.2.1, x0.2.2.2.2.2.2.2.2.2.2.2.2.2.2.2.2.2.2.2.2.1, x0.2.2.2.2.2.2.2.2.2.2.2.2.2.2.2.2.2.2.2.2.2), (0 : Int), ()) else
  some ((x0.1, x0.2.1, x0.2.2.1, x0.2.2.2.1, (imin (1073741824 : Int) (IntKind.i64.wrap (x0.2.2.2.2.1 + x1))), x0.2.2.2.2.2.1, x0.2.2.2.2.2.2.1, x0.2.2.2.2.2.2.2.1, x0.2.2.2.2.2.2.2.2.1, x0.2.2.2.2.2.2.2.2.2.1, x0.2.2.2.2.2.2.2.2.2.2.1, x0.2.2.2.2.2.2.2.2.2.2.2.1, x0.2.2.2.2.2.2.2.2.2.2.2.2.1, x0.2.2.2.2.2.2.2.2.2.2.2.2.2.1, x0.2.2.2.2.2.2.2.2.2.2.2.2.2.2.1, x0.2.2.2.2.2.2.2.2.2.2.2.2.2.2.2.1, x0.2.2.2.2.2.2.2.2.2.2.2.2.2.2.2.2.1, x0.2.2.2.2.2.2.2.2.2.2.2.2.2.2.2.2.2.1, x0.2.2.2.2.2.2.2.2.2.2.2.2.2.2.2.2.2.2.1, x0.2.2.2.2.2.2.2.2.2.2.2.2.2.2.2.2.2.2.2.1, x0.2.2.2.2.2.2.2.2.2.2.2.2.2.2.2.2.2.2.2.2.1, x0.2.2.2.2.2.2.2.2.2.2.2.2.2.2.2.2.2.2.2.2.2), (0 : Int), ())

/-- reno.Loss -/
def f14 (x0 : TCc) (x1 : Int) : Option (TCc × Int × Unit) :=
  (f11 x0).bind fun r1 =>
  bif r1.1 != (0 : Int) then some (((0 : Int), (0 : Int), (0 : Int), (0 : Int), (0 : Int), (0 : Int), (0 : Int), (0 : Int), (0 : Int), (0 : Int), (0 : Int), ([] : List (Int × Int)), (0 : Int), (0 : Int), (0 : Int), (0 : Int), (0 : Int), (0 : Int), (0 : Int), (0 : Int), (0 : Int), (0 : Int)), (230 : Int), ()) else
  (f22 x1).bind fun r2 =>
  bif !r2.1 then some (((0 : Int), (0 : Int), (0 : Int), (0 : Int), (0 : Int), (0 : Int), (0 : Int), (0 : Int), (0 : Int), (0 : Int), (0 : Int), ([] : List (Int × Int)), (0 : Int), (0 : Int), (0 : Int), (0 : Int), (0 : Int), (0 : Int), (0 : Int), (0 : Int), (0 : Int), (0 : Int)), (2 : Int), ()) else
  some ((x0.1, x0.2.1, x0.2.2.1, (imax (IntKind.i64.wrap ((2 : Int) * x0.2.1)) (IntKind.i64.wrap (Int.tdiv x1 (2 : Int)))), (0 : Int), x0.2.2.2.2.2.1, x0.2.2.2.2.2.2.1, x0.2.2.2.2.2.2.2.1, x0.2.2.2.2.2.2.2.2.1, x0.2.2.2.2.2.2.2.2.2.1, x0.2.2.2.2.2.2.2.2.2.2.1, x0.2.2.2.2.2.2.2.2.2.2.2.1, x0.2.2.2.2.2.2.2.2.2.2.2.2.1, x0.2.2.2.2.2.2.2.2.2.2.2.2.2.1, x0.2.2.2.2.2.2.2.2.2.2.2.2.2.2.1, x0.2.2.2.2.2.2.2.2.2.2.2.2.2.2.2.1, x0.2.2.2.2.2.2.2.2.2.2.2.2.2.2.2.2.1, x0.2.2.2.2.2.2.2.2.2.2.2.2.2.2.2.2.2.1, x0.2.2.2.2.2.2.2.2.2.2.2.2.2.2.2.2.2.2.1, x0.2.2.2.2.2.2.2.2.2.2.2.2.2.2.2.2.2.2.2.1, x0.2.2.2.2.2.2.2.2.2.2.2.2.2.2.2.2.2.2.2.2.1, x0.2.2.2.2.2.2.2.2.2.2.2.2.2.2.2.2.2.2.2.2.2), (0 : Int), ())

/-- reno.Done -/
def f20 (x0 : TCc) : Option (TCc × Int × Unit) :=
  (f11 x0).bind fun r1 =>
  bif r1.1 != (0 : Int) then some (((0 : Int), (0 : Int), (0 : Int), (0 : Int), (0 : Int), (0 : Int), (0 : Int), (0 : Int), (0 : Int), (0 : Int), (0 : Int), ([] : List (Int × Int)), (0 : Int), (0 : Int), (0 : Int), (0 : Int), (0 : Int), (0 : Int), (0 : Int), (0 : Int), (0 : Int), (0 : Int)), (230 : Int), ()) else
  (f22 (0 : Int)).bind fun r2 =>
  bif !r2.1 then some (((0 : Int), (0 : Int), (0 : Int), (0 : Int), (0 : Int), (0 : Int), (0 : Int), (0 : Int), (0 : Int), (0 : Int), (0 : Int), ([] : List (Int × Int)), (0 : Int), (0 : Int), (0 : Int), (0 : Int), (0 : Int), (0 : Int), (0 : Int), (0 : Int), (0 : Int), (0 : Int)), (2 : Int), ()) else
  some ((x0.1, x0.2.1, x0.2.2.2.1, x0.2.2.2.1, x0.2.2.2.2.1, x0.2.2.2.2.2.1, x0.2.2.2.2.2.2.1, x0.2.2.2.2.2.2.2.1, x0.2.2.2.2.2.2.2.2.1, x0.2.2.2.2.2.2.2.2.2.1, x0.2.2.2.2.2.2.2.2.2.2.1, x0.2.2.2.2.2.2.2.2.2.2.2.1, x0.2.2.2.2.2.2.2.2.2.2.2.2.1, x0.2.2.2.2.2.2.2.2.2.2.2.2.2.1, x0.2.2.2.2.2.2.2.2.2.2.2.2.2.2.1, x0.2.2.2.2.2.2.2.2.2.2.2.2.2.2.2.1, x0.2.2.2.2.2.2.2.2.2.2.2.2.2.2.2.2.1, x0.2.2.2.2.2.2.2.2.2.2.2.2.2.2.2.2.2.1, x0.2.2.2.2.2.2.2.2.2.2.2.2.2.2.2.2.2.2.1, x0.2.2.2.2.2.2.2.2.2.2.2.2.2.2.2.2.2.2.2.1, x0.2.2.2.2.2.2.2.2.2.2.2.2.2.2.2.2.2.2.2.2.1, x0.2.2.2.2.2.2.2.2.2.2.2.2.2.2.2.2.2.2.2.2.2), (0 : Int), ())

/-- tidewaylaw15.heads -/
def f12  : Option (Bool × Unit) :=
  (f8 (10 : Int) (2 : Int)).bind fun r1 =>
  (f13 r1.1 (15 : Int) false).bind fun r2 =>
  (f14 r2.1 (40 : Int)).bind fun r3 =>
  (f20 r3.1).bind fun r4 =>
  (f13 ((0 : Int), (0 : Int), (0 : Int), (0 : Int), (0 : Int), (0 : Int), (0 : Int), (0 : Int), (0 : Int), (0 : Int), (0 : Int), ([] : List (Int × Int)), (0 : Int), (0 : Int), (0 : Int), (0 : Int), (0 : Int), (0 : Int), (0 : Int), (0 : Int), (0 : Int), (0 : Int)) (1 : Int) false).bind fun r5 =>
  bif r1.2.1 == (0 : Int) then
    bif r1.1.2.2.1 == (20 : Int) then
      bif r2.2.1 == (0 : Int) then
        bif r2.1.2.2.1 == (30 : Int) then
          bif r3.2.1 == (0 : Int) then
            bif r4.2.1 == (0 : Int) then
              bif r4.1.2.2.1 == (20 : Int) then some ((r5.2.1 == (230 : Int)), ()) else
              some (false, ())
            else
              some (false, ())
          else
            some (false, ())
        else
          some (false, ())
      else
        some (false, ())
    else
      some (false, ())
  else
    some (false, ())

/-- tidewaylaw15.RenoBegins -/
def f3 (x0 : Int) (x1 : Int) : Option (Bool × Unit) :=
  (f8 x0 x1).bind fun r1 =>
  (f9 x0 x1).bind fun r2 =>
  (f10 r1.1 r2.1).bind fun r3 =>
  bif r3.1 then
    bif r1.2.1 == r2.2.1 then
      bif r1.2.1 != (0 : Int) then
        (f12).bind fun r4 =>
        some (r4.1, ())
      else
        (f11 r1.1).bind fun r5 =>
        bif r5.1 == (0 : Int) then
          (f12).bind fun r6 =>
          some (r6.1, ())
        else
          some (false, ())
    else
      some (false, ())
  else
    some (false, ())

/-- tidewaylaw15.RenoSlow -/
def f4e (k1 : (List (Int)) → Int → Int → Int → TCc → Option (Bool × Unit)) (x0 : TCc) (x1 : List (Int)) : Option (Bool × Unit) :=
  (f11 x0).bind fun r1 =>
  bif r1.1 != (0 : Int) then
    (f12).bind fun r2 =>
    some (r2.1, ())
  else
    bif decide (x0.2.2.1 < x0.2.2.2.1) then
      (f12).bind fun r3 =>
      some (r3.1, ())
    else
      bif decide (((x1.length : Nat) : Int) > (200 : Int)) then
        (f12).bind fun r4 =>
        some (r4.1, ())
      else
        bif decide (x0.2.2.1 > (536870912 : Int)) then
          (f12).bind fun r5 =>
          some (r5.1, ())
        else
          k1 x1 x0.2.2.1 x0.2.2.2.2.1 (0 : Int) x0

def f4s1 (k1 : (List (Int)) → Int → Int → Int → TCc → Option (Bool × Unit)) (s1 : List (Int)) (s2 : Int) (s3 : Int) (s4 : Int) (s5 : TCc) : Option (Bool × Unit) :=
  bif decide (s4 < ((s1.length : Nat) : Int)) then
    (getI s1 s4).bind fun e1 =>
    (f13 s5 (IntKind.i64.wrap (Int.tmod (IntKind.u64.wrap e1) (100000 : Int))) false).bind fun r2 =>
    bif r2.2.1 != (0 : Int) then some (false, ()) else
    bif decide (r2.1.2.2.1 < s5.2.2.1) then some (false, ()) else
    bif decide (r2.1.2.2.1 > (IntKind.i64.wrap (s5.2.2.1 + s5.2.1))) then some (false, ()) else
    (f11 r2.1).bind fun r3 =>
    bif r3.1 != (0 : Int) then some (false, ()) else
    bif decide (r2.1.2.1 = 0) then none else
    bif decide (s2 = 0) then none else
    bif decide ((IntKind.i64.wrap (Int.tdiv (IntKind.i64.wrap (r2.1.2.2.1 - s2)) r2.1.2.1)) > (IntKind.i64.wrap (Int.tdiv (IntKind.i64.wrap (s3 + (IntKind.i64.wrap (Int.tmod (IntKind.u64.wrap e1) (100000 : Int))))) s2))) then some (false, ()) else
    k1 s1 s2 (IntKind.i64.wrap (s3 + (IntKind.i64.wrap (Int.tmod (IntKind.u64.wrap e1) (100000 : Int))))) (IntKind.i64.wrap (s4 + (1 : Int))) r2.1
  else
    (f12).bind fun r4 =>
    some (r4.1, ())

def f4L : Nat → (List (Int)) → Int → Int → Int → TCc → Option (Bool × Unit)
  | 0 => fun _ _ _ _ _ => none
  | n + 1 => fun s1 s2 s3 s4 s5 => f4s1 (f4L n) s1 s2 s3 s4 s5

def f4 (x0 : TCc) (x1 : List (Int)) : Option (Bool × Unit) := f4e (f4L (x1.length + 1005)) x0 x1

/-- reno.Timeout -/
def f15 (x0 : TCc) (x1 : Int) : Option (TCc × Int × Unit) :=
  (f14 x0 x1).bind fun r1 =>
  some ((r1.1.1, r1.1.2.1, r1.1.2.1, r1.1.2.2.2.1, r1.1.2.2.2.2.1, r1.1.2.2.2.2.2.1, r1.1.2.2.2.2.2.2.1, r1.1.2.2.2.2.2.2.2.1, r1.1.2.2.2.2.2.2.2.2.1, r1.1.2.2.2.2.2.2.2.2.2.1, r1.1.2.2.2.2.2.2.2.2.2.2.1, r1.1.2.2.2.2.2.2.2.2.2.2.2.1, r1.1.2.2.2.2.2.2.2.2.2.2.2.2.1, r1.1.2.2.2.2.2.2.2.2.2.2.2.2.2.1, r1.1.2.2.2.2.2.2.2.2.2.2.2.2.2.2.1, r1.1.2.2.2.2.2.2.2.2.2.2.2.2.2.2.2.1, r1.1.2.2.2.2.2.2.2.2.2.2.2.2.2.2.2.2.1, r1.1.2.2.2.2.2.2.2.2.2.2.2.2.2.2.2.2.2.1, r1.1.2.2.2.2.2.2.2.2.2.2.2.2.2.2.2.2.2.2.1, r1.1.2.2.2.2.2.2.2.2.2.2.2.2.2.2.2.2.2.2.2.1, r1.1.2.2.2.2.2.2.2.2.2.2.2.2.2.2.2.2.2.2.2.2.1, r1.1.2.2.2.2.2.2.2.2.2.2.2.2.2.2.2.2.2.2.2.2.2), r1.2.1, ())

/-- tidewaylaw15.RenoTwice -/
def f5 (x0 : TCc) (x1 : Int) : Option (Bool × Unit) :=
  (f14 x0 x1).bind fun r1 =>
  (f14 r1.1 x1).bind fun r2 =>
  (f15 x0 x1).bind fun r3 =>
  (f15 r3.1 x1).bind fun r4 =>
  bif r1.2.1 != (0 : Int) then
    bif r1.2.1 == r3.2.1 then
      (f12).bind fun r5 =>
      some (r5.1, ())
    else
      some (false, ())
  else
    bif r2.2.1 == (0 : Int) then
      bif r3.2.1 == (0 : Int) then
        bif r4.2.1 == (0 : Int) then
          (f10 r1.1 r2.1).bind fun r6 =>
          bif r6.1 then
            (f10 r3.1 r4.1).bind fun r7 =>
            bif r7.1 then
              (f12).bind fun r8 =>
              some (r8.1, ())
            else
              some (false, ())
          else
            some (false, ())
        else
          some (false, ())
      else
        some (false, ())
    else
      some (false, ())

/-- tidewayref15.Size -/
def f29 (x0 : Int) : Option (Bool × Unit) :=
  bif decide (x0 ≥ (0 : Int)) then some ((decide (x0 ≤ (1073741824 : Int))), ()) else
  some (false, ())

/-- tidewayref15.Common -/
def f27 (x0 : TCc) : Option (Bool × Unit) :=
  bif decide (x0.2.1 ≥ (1 : Int)) then
    bif decide (x0.2.1 ≤ (65000 : Int)) then
      bif decide (x0.2.2.1 ≥ x0.2.1) then
        bif decide (x0.2.2.1 ≤ (1073741824 : Int)) then
          bif decide (x0.2.2.2.1 ≥ (IntKind.i64.wrap ((2 : Int) * x0.2.1))) then
            bif decide (x0.2.2.2.1 ≤ (1073741824 : Int)) then
              (f29 x0.2.2.2.2.1).bind fun r1 =>
              some (r1.1, ())
            else
              some (false, ())
          else
            some (false, ())
        else
          some (false, ())
      else
        some (false, ())
    else
      some (false, ())
  else
    some (false, ())

/-- tidewayref15.Plain -/
def f28 (x0 : TCc) (x1 : Bool) (x2 : Bool) : Option (Bool × Unit) :=
  bif !x1 then
    bif x0.2.2.2.2.2.1 != (0 : Int) then some (false, ()) else
    bif x0.2.2.2.2.2.2.1 != (0 : Int) then some (false, ()) else
    bif x0.2.2.2.2.2.2.2.1 != (0 : Int) then some (false, ()) else
    bif x0.2.2.2.2.2.2.2.2.1 != (0 : Int) then some (false, ()) else
    bif x0.2.2.2.2.2.2.2.2.2.1 != (0 : Int) then some (false, ()) else
    bif !x2 then
      bif x0.2.2.2.2.2.2.2.2.2.2.1 != (0 : Int) then some (false, ()) else
      bif decide (((x0.2.2.2.2.2.2.2.2.2.2.2.1.length : Nat) : Int) > (0 : Int)) then some (false, ()) else
      bif x0.2.2.2.2.2.2.2.2.2.2.2.2.1 != (0 : Int) then some (false, ()) else
      bif x0.2.2.2.2.2.2.2.2.2.2.2.2.2.1 != (0 : Int) then some (false, ()) else
      bif x0.2.2.2.2.2.2.2.2.2.2.2.2.2.2.1 != (0 : Int) then some (false, ()) else
      bif x0.2.2.2.2.2.2.2.2.2.2.2.2.2.2.2.1 != (0 : Int) then some (false, ()) else
      bif x0.2.2.2.2.2.2.2.2.2.2.2.2.2.2.2.2.1 != (0 : Int) then some (false, ()) else
      bif x0.2.2.2.2.2.2.2.2.2.2.2.2.2.2.2.2.2.1 != (0 : Int) then some (false, ()) else
      bif x0.2.2.2.2.2.2.2.2.2.2.2.2.2.2.2.2.2.2.1 != (0 : Int) then some (false, ()) else
      bif x0.2.2.2.2.2.2.2.2.2.2.2.2.2.2.2.2.2.2.2.1 != (0 : Int) then some (false, ()) else
      bif x0.2.2.2.2.2.2.2.2.2.2.2.2.2.2.2.2.2.2.2.2.1 != (0 : Int) then some (false, ()) else
      bif x0.2.2.2.2.2.2.2.2.2.2.2.2.2.2.2.2.2.2.2.2.2 != (0 : Int) then some (false, ()) else
      some (true, ())
    else
      some (true, ())
  else
    bif !x2 then
      bif x0.2.2.2.2.2.2.2.2.2.2.1 != (0 : Int) then some (false, ()) else
      bif decide (((x0.2.2.2.2.2.2.2.2.2.2.2.1.length : Nat) : Int) > (0 : Int)) then some (false, ()) else
      bif x0.2.2.2.2.2.2.2.2.2.2.2.2.1 != (0 : Int) then some (false, ()) else
      bif x0.2.2.2.2.2.2.2.2.2.2.2.2.2.1 != (0 : Int) then some (false, ()) else
      bif x0.2.2.2.2.2.2.2.2.2.2.2.2.2.2.1 != (0 : Int) then some (false, ()) else
      bif x0.2.2.2.2.2.2.2.2.2.2.2.2.2.2.2.1 != (0 : Int) then some (false, ()) else
      bif x0.2.2.2.2.2.2.2.2.2.2.2.2.2.2.2.2.1 != (0 : Int) then some (false, ()) else
      bif x0.2.2.2.2.2.2.2.2.2.2.2.2.2.2.2.2.2.1 != (0 : Int) then some (false, ()) else
      bif x0.2.2.2.2.2.2.2.2.2.2.2.2.2.2.2.2.2.2.1 != (0 : Int) then some (false, ()) else
      bif x0.2.2.2.2.2.2.2.2.2.2.2.2.2.2.2.2.2.2.2.1 != (0 : Int) then some (false, ()) else
      bif x0.2.2.2.2.2.2.2.2.2.2.2.2.2.2.2.2.2.2.2.2.1 != (0 : Int) then some (false, ()) else
      bif x0.2.2.2.2.2.2.2.2.2.2.2.2.2.2.2.2.2.2.2.2.2 != (0 : Int) then some (false, ()) else
      some (true, ())
    else
      some (true, ())

/-- tidewayref15.Check -/
def f18 (x0 : TCc) : Option (Int × Unit) :=
  bif x0.1 != (1 : Int) then some ((230 : Int), ()) else
  (f27 x0).bind fun r1 =>
  bif !r1.1 then some ((230 : Int), ()) else
  (f28 x0 false false).bind fun r2 =>
  bif !r2.1 then some ((230 : Int), ()) else
  some ((0 : Int), ())

/-- tidewayref15.ask -/
def f26 (x0 : TCc) (x1 : Int) : Option (Int × Unit) :=
  (f18 x0).bind fun r1 =>
  bif r1.1 != (0 : Int) then some ((230 : Int), ()) else
  (f29 x1).bind fun r2 =>
  bif !r2.1 then some ((2 : Int), ()) else
  some ((0 : Int), ())

/-- tidewayref15.Acked -/
def f16 (x0 : TCc) (x1 : Int) (x2 : Bool) : Option (TCc × Int × Unit) :=
  (f26 x0 x1).bind fun r1 =>
  bif r1.1 != (0 : Int) then some (((0 : Int), (0 : Int), (0 : Int), (0 : Int), (0 : Int), (0 : Int), (0 : Int), (0 : Int), (0 : Int), (0 : Int), (0 : Int), ([] : List (Int × Int)), (0 : Int), (0 : Int), (0 : Int), (0 : Int), (0 : Int), (0 : Int), (0 : Int), (0 : Int), (0 : Int), (0 : Int)), r1.1, ()) else
  bif x2 then some (x0, (0 : Int), ()) else
  bif decide (x0.2.2.1 < x0.2.2.2.1) then some ((x0.1, x0.2.1, (imin (IntKind.i64.wrap (x0.2.2.1 + (imin x1 x0.2.1))) (1073741824 : Int)), x0.2.2.2.1, x0.2.2.2.2.1, x0.2.2.2.2.2.1, x0.2.2.2.2.2.2.1, x0.2.2.2.2.2.2.2.1, x0.2.2.2.2.2.2.2.2.1, x0.2.2.2.2.2.2.2.2.2.1, x0.2.2.2.2.2.2.2.2.2.2.1, x0.2.2.2.2.2.2.2.2.2.2.2.1, x0.2.2.2.2.2.2.2.2.2.2.2.2.1, x0.2.2.2.2.2.2.2.2.2.2.2.2.2.1, x0.2.2.2.2.2.2.2.2.2.2.2.2.2.2.1, x0.2.2.2.2.2.2.2.2.2.2.2.2.2.2.2.1, x0.2.2.2.2.2.2.2.2.2.2.2.2.2.2.2.2.1, x0.2.2.2.2.2.2.2.2.2.2.2.2.2.2.2.2.2.1, x0.2.2.2.2.2.2.2.2.2.2.2.2.2.2.2.2.2.2.1, x0.2.2.2.2.2.2.2.2.2.2.2.2.2.2.2.2.2.2.2.1, x0.2.2.2.2.2.2.2.2.2.2.2.2.2.2.2.2.2.2.2.2.1, x0.2.2.2.2.2.2.2.2.2.2.2.2.2.2.2.2.2.2.2.2.2), (0 : Int), ()) else
  bif decide ((imin (IntKind.i64.wrap (x0.2.2.2.2.1 + x1)) (1073741824 : Int)) ≥ x0.2.2.1) then some ((x0.1, x0.2.1, (imin (IntKind.i64.wrap (x0.2.2.1 + x0.2.1)) (1073741824 : Int)), x0.2.2.2.1, (IntKind.i64.wrap ((imin (IntKind.i64.wrap (x0.2.2.2.2.1 + x1)) (1073741824 : Int)) - x0.2.2.1)), x0.2.2.2.2.2.1, x0.2.2.2.2.2.2.1, x0.2.2.2.2.2.2.2.1, x0.2.2.2.2.2.2.2.2.1, x0.2.2.2.2.2.2.2.2.2.1, x0.2.2.2.2.2.2.2.2.2.2.1, x0.2.2.2.2.2.2.2.2.2.2.2.1, x0.2.2.2.2.2.2.2.2.2.2.2.2.1, x0.2.2.2.2.2.2.2.2.2.2.2.2.2.1, x0.2.2.2.2.2.2.2.2.2.2.2.2.2.2.1, x0.2.2.2.2.2.2.2.2.2.2.2.2.2.2.2.1, x0.2.2.2.2.2.2.2.2.2.2.2.2.2.2.2.2.1, x0.2.2.2.2.2.2.2.2.2.2.2.2.2.2.2.2.2.1, x0.2.2.2.2.2.2.2.2.2.2.2.2.2.2.2.2.2.2.1, x0.2.2.2.2.2.2.2.2.2.2.2.2.2.2.2.2.2.2.2.1, x0.2.2.2.2.2.2.2.2.2.2.2.2.2.2.2.2.2.2.2.2.1, x0.2.2.2.2.2.2.2.2.2.2.2.2.2.2.2.2.2.2.2.2.2), (0 : Int), ()) else
  some ((x0.1, x0.2.1, x0.2.2.1, x0.2.2.2.1, (imin (IntKind.i64.wrap (x0.2.2.2.2.1 + x1)) (1073741824 : Int)), x0.2.2.2.2.2.1, x0.2.2.2.2.2.2.1, x0.2.2.2.2.2.2.2.1, x0.2.2.2.2.2.2.2.2.1, x0.2.2.2.2.2.2.2.2.2.1, x0.2.2.2.2.2.2.2.2.2.2.1, x0.2.2.2.2.2.2.2.2.2.2.2.1, x0.2.2.2.2.2.2.2.2.2.2.2.2.1, x0.2.2.2.2.2.2.2.2.2.2.2.2.2.1, x0.2.2.2.2.2.2.2.2.2.2.2.2.2.2.1, x0.2.2.2.2.2.2.2.2.2.2.2.2.2.2.2.1, x0.2.2.2.2.2.2.2.2.2.2.2.2.2.2.2.2.1, x0.2.2.2.2.2.2.2.2.2.2.2.2.2.2.2.2.2.1, x0.2.2.2.2.2.2.2.2.2.2.2.2.2.2.2.2.2.2.1, x0.2.2.2.2.2.2.2.2.2.2.2.2.2.2.2.2.2.2.2.1, x0.2.2.2.2.2.2.2.2.2.2.2.2.2.2.2.2.2.2.2.2.1, x0.2.2.2.2.2.2.2.2.2.2.2.2.2.2.2.2.2.2.2.2.2), (0 : Int), ())

/-- tidewayref15.Loss -/
def f17 (x0 : TCc) (x1 : Int) : Option (TCc × Int × Unit) :=
  (f26 x0 x1).bind fun r1 =>
  bif r1.1 != (0 : Int) then some (((0 : Int), (0 : Int), (0 : Int), (0 : Int), (0 : Int), (0 : Int), (0 : Int), (0 : Int), (0 : Int), (0 : Int), (0 : Int), ([] : List (Int × Int)), (0 : Int), (0 : Int), (0 : Int), (0 : Int), (0 : Int), (0 : Int), (0 : Int), (0 : Int), (0 : Int), (0 : Int)), r1.1, ()) else
  some ((x0.1, x0.2.1, x0.2.2.1, (imax (IntKind.i64.wrap (Int.tdiv x1 (2 : Int))) (IntKind.i64.wrap ((2 : Int) * x0.2.1))), (0 : Int), x0.2.2.2.2.2.1, x0.2.2.2.2.2.2.1, x0.2.2.2.2.2.2.2.1, x0.2.2.2.2.2.2.2.2.1, x0.2.2.2.2.2.2.2.2.2.1, x0.2.2.2.2.2.2.2.2.2.2.1, x0.2.2.2.2.2.2.2.2.2.2.2.1, x0.2.2.2.2.2.2.2.2.2.2.2.2.1, x0.2.2.2.2.2.2.2.2.2.2.2.2.2.1, x0.2.2.2.2.2.2.2.2.2.2.2.2.2.2.1, x0.2.2.2.2.2.2.2.2.2.2.2.2.2.2.2.1, x0.2.2.2.2.2.2.2.2.2.2.2.2.2.2.2.2.1, x0.2.2.2.2.2.2.2.2.2.2.2.2.2.2.2.2.2.1, x0.2.2.2.2.2.2.2.2.2.2.2.2.2.2.2.2.2.2.1, x0.2.2.2.2.2.2.2.2.2.2.2.2.2.2.2.2.2.2.2.1, x0.2.2.2.2.2.2.2.2.2.2.2.2.2.2.2.2.2.2.2.2.1, x0.2.2.2.2.2.2.2.2.2.2.2.2.2.2.2.2.2.2.2.2.2), (0 : Int), ())

/-- tidewayref15.Timeout -/
def f19 (x0 : TCc) (x1 : Int) : Option (TCc × Int × Unit) :=
  (f17 x0 x1).bind fun r1 =>
  bif r1.2.1 != (0 : Int) then some (((0 : Int), (0 : Int), (0 : Int), (0 : Int), (0 : Int), (0 : Int), (0 : Int), (0 : Int), (0 : Int), (0 : Int), (0 : Int), ([] : List (Int × Int)), (0 : Int), (0 : Int), (0 : Int), (0 : Int), (0 : Int), (0 : Int), (0 : Int), (0 : Int), (0 : Int), (0 : Int)), r1.2.1, ()) else
  some ((r1.1.1, r1.1.2.1, r1.1.2.1, r1.1.2.2.2.1, r1.1.2.2.2.2.1, r1.1.2.2.2.2.2.1, r1.1.2.2.2.2.2.2.1, r1.1.2.2.2.2.2.2.2.1, r1.1.2.2.2.2.2.2.2.2.1, r1.1.2.2.2.2.2.2.2.2.2.1, r1.1.2.2.2.2.2.2.2.2.2.2.1, r1.1.2.2.2.2.2.2.2.2.2.2.2.1, r1.1.2.2.2.2.2.2.2.2.2.2.2.2.1, r1.1.2.2.2.2.2.2.2.2.2.2.2.2.2.1, r1.1.2.2.2.2.2.2.2.2.2.2.2.2.2.2.1, r1.1.2.2.2.2.2.2.2.2.2.2.2.2.2.2.2.1, r1.1.2.2.2.2.2.2.2.2.2.2.2.2.2.2.2.2.1, r1.1.2.2.2.2.2.2.2.2.2.2.2.2.2.2.2.2.2.1, r1.1.2.2.2.2.2.2.2.2.2.2.2.2.2.2.2.2.2.2.1, r1.1.2.2.2.2.2.2.2.2.2.2.2.2.2.2.2.2.2.2.2.1, r1.1.2.2.2.2.2.2.2.2.2.2.2.2.2.2.2.2.2.2.2.2.1, r1.1.2.2.2.2.2.2.2.2.2.2.2.2.2.2.2.2.2.2.2.2.2), (0 : Int), ())

/-- tidewayref15.Done -/
def f21 (x0 : TCc) : Option (TCc × Int × Unit) :=
  (f26 x0 (0 : Int)).bind fun r1 =>
  bif r1.1 != (0 : Int) then some (((0 : Int), (0 : Int), (0 : Int), (0 : Int), (0 : Int), (0 : Int), (0 : Int), (0 : Int), (0 : Int), (0 : Int), (0 : Int), ([] : List (Int × Int)), (0 : Int), (0 : Int), (0 : Int), (0 : Int), (0 : Int), (0 : Int), (0 : Int), (0 : Int), (0 : Int), (0 : Int)), r1.1, ()) else
  some ((x0.1, x0.2.1, x0.2.2.2.1, x0.2.2.2.1, x0.2.2.2.2.1, x0.2.2.2.2.2.1, x0.2.2.2.2.2.2.1, x0.2.2.2.2.2.2.2.1, x0.2.2.2.2.2.2.2.2.1, x0.2.2.2.2.2.2.2.2.2.1, x0.2.2.2.2.2.2.2.2.2.2.1, x0.2.2.2.2.2.2.2.2.2.2.2.1, x0.2.2.2.2.2.2.2.2.2.2.2.2.1, x0.2.2.2.2.2.2.2.2.2.2.2.2.2.1, x0.2.2.2.2.2.2.2.2.2.2.2.2.2.2.1, x0.2.2.2.2.2.2.2.2.2.2.2.2.2.2.2.1, x0.2.2.2.2.2.2.2.2.2.2.2.2.2.2.2.2.1, x0.2.2.2.2.2.2.2.2.2.2.2.2.2.2.2.2.2.1, x0.2.2.2.2.2.2.2.2.2.2.2.2.2.2.2.2.2.2.1, x0.2.2.2.2.2.2.2.2.2.2.2.2.2.2.2.2.2.2.2.1, x0.2.2.2.2.2.2.2.2.2.2.2.2.2.2.2.2.2.2.2.2.1, x0.2.2.2.2.2.2.2.2.2.2.2.2.2.2.2.2.2.2.2.2.2), (0 : Int), ())

/-- tidewaylaw15.RenoMoves -/
def f6 (x0 : TCc) (x1 : Int) (x2 : Bool) : Option (Bool × Unit) :=
  (f13 x0 x1 x2).bind fun r1 =>
  (f16 x0 x1 x2).bind fun r2 =>
  (f14 x0 x1).bind fun r3 =>
  (f17 x0 x1).bind fun r4 =>
  (f10 r1.1 r2.1).bind fun r5 =>
  bif !r5.1 then some (false, ()) else
  bif r1.2.1 != r2.2.1 then some (false, ()) else
  (f10 r3.1 r4.1).bind fun r6 =>
  bif !r6.1 then some (false, ()) else
  bif r3.2.1 != r4.2.1 then some (false, ()) else
  (f11 x0).bind fun r7 =>
  (f18 x0).bind fun r8 =>
  bif r7.1 != r8.1 then some (false, ()) else
  (f15 x0 x1).bind fun r9 =>
  (f19 x0 x1).bind fun r10 =>
  (f20 x0).bind fun r11 =>
  (f21 x0).bind fun r12 =>
  (f10 r9.1 r10.1).bind fun r13 =>
  bif r13.1 then
    bif r9.2.1 == r10.2.1 then
      (f10 r11.1 r12.1).bind fun r14 =>
      bif r14.1 then
        bif r11.2.1 == r12.2.1 then
          (f12).bind fun r15 =>
          some (r15.1, ())
        else
          some (false, ())
      else
        some (false, ())
    else
      some (false, ())
  else
    some (false, ())

/-- tidewaylaw15.RenoFalls -/
def f7 (x0 : TCc) (x1 : Int) : Option (Bool × Unit) :=
  (f14 x0 x1).bind fun r1 =>
  (f15 x0 x1).bind fun r2 =>
  bif r1.2.1 != (0 : Int) then
    bif r1.2.1 == r2.2.1 then
      (f12).bind fun r3 =>
      some (r3.1, ())
    else
      some (false, ())
  else
    (f20 r1.1).bind fun r4 =>
    bif r4.2.1 == (0 : Int) then
      bif r4.1.2.2.1 == (imax (IntKind.i64.wrap (Int.tdiv x1 (2 : Int))) (IntKind.i64.wrap ((2 : Int) * x0.2.1))) then
        bif r2.2.1 == (0 : Int) then
          bif r2.1.2.2.1 == x0.2.1 then
            bif r2.1.2.2.2.1 == r4.1.2.2.1 then
              (f11 r4.1).bind fun r5 =>
              bif r5.1 == (0 : Int) then
                (f11 r2.1).bind fun r6 =>
                bif r6.1 == (0 : Int) then
                  (f12).bind fun r7 =>
                  some (r7.1, ())
                else
                  some (false, ())
              else
                some (false, ())
            else
              some (false, ())
          else
            some (false, ())
        else
          some (false, ())
      else
        some (false, ())
    else
      some (false, ())

end Go.Proofs.Ytgghbpijmdljgaa.Fn
