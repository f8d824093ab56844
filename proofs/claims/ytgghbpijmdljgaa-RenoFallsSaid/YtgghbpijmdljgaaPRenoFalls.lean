/-
  RenoFalls, in plain words.
-/
import Derived.Test.YtgghbpijmdljgaaG
import Derived.Test.YtgghbpijmdljgaaVu
import Derived.Test.YtgghbpijmdljgaaQ
namespace Go.Proofs.Ytgghbpijmdljgaa.renoFalls
open Go Go.Proofs.Ytgghbpijmdljgaa.Vx Go.Proofs.Ytgghbpijmdljgaa.Gn Go.Proofs.Ytgghbpijmdljgaa.Fn Go.Proofs.Ytgghbpijmdljgaa.Qn

theorem plain (c : TCc) (n : Int) : f7 c n = some (true, ()) := by
  unfold f7
  by_cases hc : Fit c
  · obtain ⟨m, w, s, a, rfl, h⟩ := fit_ex hc
    by_cases hn : 0 ≤ n ∧ n ≤ 1073741824
    · have e3 := lost h hn
      have hl := ok_lost h hn
      rw [e3, timed_out e3]
      simp only [Option.bind_some]
      obtain ⟨q1, q2, q3, q4, q5, q6, q7, q8⟩ := h
      have o1 : Ok m (max (2 * m) (n / 2)) (max (2 * m) (n / 2)) 0 := ⟨q1, q2, by omega, by omega, by omega, by omega, by omega, by omega⟩
      have o2 : Ok m m (max (2 * m) (n / 2)) 0 := ⟨q1, q2, by omega, by omega, by omega, by omega, by omega, by omega⟩
      rw [(done hl).1]
      simp only [Option.bind_some, imax_eq]
      rw [half_eq hn.1 hn.2, w64 (n := 2 * m) (by omega) (by omega), check_mk o1, check_mk o2, Int.max_comm (n / 2)]
      simp [heads]
    · obtain ⟨e3, e4⟩ := lost_arg h hn
      rw [e3, timed_out e3]
      simp [heads]
  · obtain ⟨e3, e4⟩ := lost_bad hc n
    rw [e3, timed_out e3]
    simp [heads]

theorem pure_law (x : Den s7.ps) (_ : DenFits s7.ps x) : s7.F x = some (true, ()) := plain x.1 x.2.1
end Go.Proofs.Ytgghbpijmdljgaa.renoFalls
