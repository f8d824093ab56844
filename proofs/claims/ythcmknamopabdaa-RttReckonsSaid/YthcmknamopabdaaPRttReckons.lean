/-
  RttReckons, in plain words.
-/
import Derived.Test.YthcmknamopabdaaG
import Derived.Test.YthcmknamopabdaaVu
import Derived.Test.YthcmknamopabdaaQ
namespace Go.Proofs.Ythcmknamopabdaa.rttReckons
open Go Go.Proofs.Ythcmknamopabdaa.Vx Go.Proofs.Ythcmknamopabdaa.Gn Go.Proofs.Ythcmknamopabdaa.Fn Go.Proofs.Ythcmknamopabdaa.Qn

theorem plain (w : TRtt) (t lo2 hi2 : Int) : f7 w t lo2 hi2 = some (true, ()) := by
  obtain ⟨s, v, r, lo, hi⟩ := w
  unfold f7
  have e10 : ∃ d e, f10 lo2 hi2 = some (d, e, ()) ∧ f17 lo2 hi2 = some (d, e, ()) := by
    by_cases hb : Bd lo2 hi2
    · exact ⟨_, _, (new_ok hb).1, (new_ok hb).2⟩
    · exact ⟨_, _, (new_bad hb).1, (new_bad hb).2⟩
  obtain ⟨d3, e3, q5, q6⟩ := e10
  by_cases h : Ok s v r lo hi
  · have e9 : ∃ d e, f9 (s, v, r, lo, hi) t = some (d, e, ()) ∧ f14 (s, v, r, lo, hi) t = some (d, e, ()) := by
      by_cases ht : Time t
      · exact ⟨_, _, sample_ok h ht, sample2_ok h ht⟩
      · exact ⟨_, _, (sample_arg h ht).1, (sample_arg h ht).2⟩
    obtain ⟨d1, e1, q1, q2⟩ := e9
    rw [q1, q2, (back_ok h).1, (back_ok h).2, (calm_ok h).1, (calm_ok h).2, q5, q6, (check_ok h).1, (check_ok h).2]
    simp [heads]
  · rw [(sample_bad h t).1, (sample_bad h t).2, (back_bad h).1, (back_bad h).2, (calm_bad h).1, (calm_bad h).2, q5, q6, (check_bad h).1, (check_bad h).2]
    simp [heads]

theorem pure_law (x : Den s7.ps) (_ : DenFits s7.ps x) : s7.F x = some (true, ()) := plain x.1 x.2.1 x.2.2.1 x.2.2.2.1
end Go.Proofs.Ythcmknamopabdaa.rttReckons
