/-
  RenoTwice, in plain words.
-/
import Derived.Test.YtgghbpijmdljgaaG
import Derived.Test.YtgghbpijmdljgaaVu
import Derived.Test.YtgghbpijmdljgaaQ
namespace Go.Proofs.Ytgghbpijmdljgaa.renoTwice
open Go Go.Proofs.Ytgghbpijmdljgaa.Vx Go.Proofs.Ytgghbpijmdljgaa.Gn Go.Proofs.Ytgghbpijmdljgaa.Fn Go.Proofs.Ytgghbpijmdljgaa.Qn

theorem plain (c : TCc) (n : Int) : f5 c n = some (true, ()) := by
  unfold f5
  by_cases hc : Fit c
  · obtain ⟨m, w, s, a, rfl, h⟩ := fit_ex hc
    by_cases hn : 0 ≤ n ∧ n ≤ 1073741824
    · have e3 := lost h hn
      have hl := ok_lost h hn
      rw [e3, timed_out e3]
      simp only [Option.bind_some]
      obtain ⟨q1, q2, q3, q4, q5, q6, q7, q8⟩ := h
      have o2 : Ok m m (max (2 * m) (n / 2)) 0 := ⟨q1, q2, by omega, by omega, by omega, by omega, by omega, by omega⟩
      have e5 := lost o2 hn
      rw [lost hl hn, timed_out e5]
      simp only [Option.bind_some]
      rw [same_refl (mkc m w (max (2 * m) (n / 2)) 0) rfl, same_refl (mkc m m (max (2 * m) (n / 2)) 0) rfl]
      simp [heads]
    · obtain ⟨e3, e4⟩ := lost_arg h hn
      have e5 := (lost_bad nul_unfit n).1
      rw [e3, timed_out e3]
      simp only [Option.bind_some]
      rw [e5, timed_out e5]
      simp [heads]
  · obtain ⟨e3, e4⟩ := lost_bad hc n
    have e5 := (lost_bad nul_unfit n).1
    rw [e3, timed_out e3]
    simp only [Option.bind_some]
    rw [e5, timed_out e5]
    simp [heads]

theorem pure_law (x : Den s5.ps) (_ : DenFits s5.ps x) : s5.F x = some (true, ()) := plain x.1 x.2.1
end Go.Proofs.Ytgghbpijmdljgaa.renoTwice
