/-
  SegNext, in plain words.
-/
import Derived.Test.YtlomifklceagmaaG
import Derived.Test.YtlomifklceagmaaVu
import Derived.Test.YtlomifklceagmaaQ
namespace Go.Proofs.Ytlomifklceagmaa.segNext
open Go Go.Proofs.Ytlomifklceagmaa.Vx Go.Proofs.Ytlomifklceagmaa.Gn Go.Proofs.Ytlomifklceagmaa.Fn Go.Proofs.Ytlomifklceagmaa.Qn
set_option linter.unusedVariables false
set_option linter.unusedSimpArgs false

theorem cut_refl {α : Type} (a b : Int) (f p : Bool) (x y : α) : (bif (a == a) && ((b == b) && ((f == f) && (p == p))) then x else y) = x := by
  rw [beq_self_eq_true, beq_self_eq_true, beq_self_eq_true, beq_self_eq_true]; rfl
theorem bool_refl {α : Type} (f : Bool) (x y : α) : (bif (f == f) then x else y) = x := by
  rw [beq_self_eq_true]; rfl
theorem int_refl {α : Type} (f : Int) (x y : α) : (bif (f == f) then x else y) = x := by
  rw [beq_self_eq_true]; rfl

theorem plain (nx en : Int) (cl fin : Bool) (ed una mss room most : Int) (nagle force : Bool) : f3 (nx, en, cl, fin, ed, una, mss, room, most, nagle, force) = some (true, ()) := by
  unfold f3
  by_cases h : Ok nx en ed una mss most cl fin
  · rw [next_ok h, ref_ok h, (check_ok h).1, (check_ok h).2, (usable_ok h).1, (usable_ok h).2]
    generalize nxt nx en ed una mss room most cl fin nagle force = r
    simp only [pack, Option.bind_some, cut_refl, bool_refl, int_refl, heads]
  · rw [(next_bad h).1, (next_bad h).2, (check_bad h).1, (check_bad h).2, (usable_bad h).1, (usable_bad h).2]
    simp only [Option.bind_some, cut_refl, bool_refl, int_refl, heads]

theorem pure_law (x : Den s3.ps) (_ : DenFits s3.ps x) : s3.F x = some (true, ()) := plain _ _ _ _ _ _ _ _ _ _ _
end Go.Proofs.Ytlomifklceagmaa.segNext
