/-
  RenoBegins, in plain words.
-/
import Derived.Test.YtgghbpijmdljgaaG
import Derived.Test.YtgghbpijmdljgaaVu
import Derived.Test.YtgghbpijmdljgaaQ
namespace Go.Proofs.Ytgghbpijmdljgaa.renoBegins
open Go Go.Proofs.Ytgghbpijmdljgaa.Vx Go.Proofs.Ytgghbpijmdljgaa.Gn Go.Proofs.Ytgghbpijmdljgaa.Fn Go.Proofs.Ytgghbpijmdljgaa.Qn

theorem plain (m f : Int) : f3 m f = some (true, ()) := by
  have e : f9 m f = f8 m f := by unfold f8 f9; rw [Int.mul_comm f m]
  unfold f3
  rw [e]
  have bad : f8 m f = some ((0, 0, 0, 0, 0, 0, 0, 0, 0, 0, 0, [], 0, 0, 0, 0, 0, 0, 0, 0, 0, 0), 2, ()) ∨
      (1 ≤ m ∧ m ≤ 65000 ∧ 1 ≤ f ∧ f ≤ 100 ∧ f8 m f = some ((1, m, m * f, 1073741824, 0, 0, 0, 0, 0, 0, 0, [], 0, 0, 0, 0, 0, 0, 0, 0, 0, 0), 0, ())) := by
    unfold f8
    simp only [bif_dec]
    by_cases h1 : m < 1
    · rw [if_pos h1]; exact .inl rfl
    by_cases h2 : m > 65000
    · rw [if_neg h1, if_pos h2]; exact .inl rfl
    by_cases h3 : f < 1
    · rw [if_neg h1, if_neg h2, if_pos h3]; exact .inl rfl
    by_cases h4 : f > 100
    · rw [if_neg h1, if_neg h2, if_neg h3, if_pos h4]; exact .inl rfl
    right
    refine ⟨by omega, by omega, by omega, by omega, ?_⟩
    have hm : m * f ≤ 65000 * 100 := Int.mul_le_mul (by omega) (by omega) (by omega) (by omega)
    have hm0 : 0 ≤ m * f := Int.mul_nonneg (by omega) (by omega)
    rw [if_neg h1, if_neg h2, if_neg h3, if_neg h4, w64 (by omega) (by omega)]
  rcases bad with h | ⟨h1, h2, h3, h4, h⟩
  · rw [h]
    simp only [Option.bind_some]
    rw [same_refl _ rfl]
    simp [heads]
  · rw [h]
    simp only [Option.bind_some]
    rw [same_refl _ rfl]
    have hm : m * f ≤ 65000 * 100 := Int.mul_le_mul (by omega) (by omega) (by omega) (by omega)
    have hm1 : m * 1 ≤ m * f := Int.mul_le_mul_of_nonneg_left h3 (by omega)
    rw [check_fit _ ⟨rfl, h1, h2, by simpa using hm1, by show m * f ≤ 1073741824; omega, by show 2 * m ≤ 1073741824; omega, Int.le_refl _, Int.le_refl _, by show (0 : Int) ≤ 1073741824; omega, rfl⟩]
    simp [heads]

theorem pure_law (x : Den s3.ps) (_ : DenFits s3.ps x) : s3.F x = some (true, ()) := plain x.1 x.2.1
end Go.Proofs.Ytgghbpijmdljgaa.renoBegins
