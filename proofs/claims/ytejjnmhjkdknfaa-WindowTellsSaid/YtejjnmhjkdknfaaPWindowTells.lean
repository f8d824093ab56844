/-
  WindowTells, in plain words.
-/
import Derived.Test.YtejjnmhjkdknfaaG
import Derived.Test.YtejjnmhjkdknfaaVu
import Derived.Test.YtejjnmhjkdknfaaQ
namespace Go.Proofs.Ytejjnmhjkdknfaa.windowTells
open Go Go.Proofs.Ytejjnmhjkdknfaa.Vx Go.Proofs.Ytejjnmhjkdknfaa.Gn Go.Proofs.Ytejjnmhjkdknfaa.Fn Go.Proofs.Ytejjnmhjkdknfaa.Qn

theorem plain (w : TWindow) (at_ ack n : Int) : f4 w at_ ack n = some (true, ()) := by
  obtain ⟨a1, a2, a3, a4, a5, a6, a7⟩ := w
  unfold f4
  have e15 : ∃ d e, f15 n = some (d, e, ()) ∧ f16 n = some (d, e, ()) := by
    by_cases hn : 0 ≤ n ∧ n ≤ 1073741824
    · exact ⟨_, _, new_ok hn, by rw [← new_eq]; exact new_ok hn⟩
    · exact ⟨_, _, new_bad hn, by rw [← new_eq]; exact new_bad hn⟩
  obtain ⟨d3, e3, q5, q6⟩ := e15
  by_cases h : Ok a1 a2 a3 a4 a5 a6 a7
  · have e11 : ∃ d e, f11 (a1, a2, a3, a4, a5, a6, a7) at_ ack n = some (d, e, ()) ∧ f12 (a1, a2, a3, a4, a5, a6, a7) at_ ack n = some (d, e, ()) := by
      by_cases ha : Arg at_ ack n
      · exact ⟨_, _, told_ok h ha, told2_ok h ha⟩
      · exact ⟨_, _, (told_arg h ha).1, (told_arg h ha).2⟩
    obtain ⟨d1, e1, q1, q2⟩ := e11
    rw [q1, q2, (tried_ok h).1, (tried_ok h).2, q5, q6, check_fit h, check2_fit h, (right_ok h).1, (right_ok h).2, (shut_ok h).1, (shut_ok h).2, (wait_ok h _ _ _).1, (wait_ok h _ _ _).2]
    simp [heads]
  · rw [(told_bad h).1, (told_bad h).2, (tried_bad h).1, (tried_bad h).2, q5, q6, check_unfit h, check2_unfit h, (right_bad h).1, (right_bad h).2, (shut_bad h).1, (shut_bad h).2, (wait_bad h _ _ _).1, (wait_bad h _ _ _).2]
    simp [heads]

theorem pure_law (x : Den s4.ps) (_ : DenFits s4.ps x) : s4.F x = some (true, ()) := plain x.1 x.2.1 x.2.2.1 x.2.2.2.1
end Go.Proofs.Ytejjnmhjkdknfaa.windowTells
