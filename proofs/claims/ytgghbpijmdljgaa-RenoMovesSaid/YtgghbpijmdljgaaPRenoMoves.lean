/-
  RenoMoves, in plain words.
-/
import Derived.Test.YtgghbpijmdljgaaG
import Derived.Test.YtgghbpijmdljgaaVu
import Derived.Test.YtgghbpijmdljgaaQ
namespace Go.Proofs.Ytgghbpijmdljgaa.renoMoves
open Go Go.Proofs.Ytgghbpijmdljgaa.Vx Go.Proofs.Ytgghbpijmdljgaa.Gn Go.Proofs.Ytgghbpijmdljgaa.Fn Go.Proofs.Ytgghbpijmdljgaa.Qn

theorem plain (c : TCc) (n : Int) (i : Bool) : f6 c n i = some (true, ()) := by
  unfold f6
  by_cases hc : Fit c
  · obtain ⟨m, w, s, a, rfl, h⟩ := fit_ex hc
    by_cases hn : 0 ≤ n ∧ n ≤ 1073741824
    · have h13 : ∃ d, f13 (mkc m w s a) n i = some (d, 0, ()) ∧ f16 (mkc m w s a) n i = some (d, 0, ()) ∧ bw d = [] := by
        cases i
        · refine ⟨_, acked h hn, acked2 h hn, ?_⟩
          unfold ack
          split
          · rfl
          · split <;> rfl
        · exact ⟨_, acked_idle h hn, acked2_idle h hn, rfl⟩
      obtain ⟨d, e1, e2, hd⟩ := h13
      have e3 := lost h hn
      have e4 := lost2 h hn
      rw [e1, e2, e3, e4, check_mk h, check2_mk h, timed_out e3, timed_out2 e4, (done h).1, (done h).2]
      simp only [Option.bind_some]
      rw [same_refl d hd, same_refl (mkc m w (max (2 * m) (n / 2)) 0) rfl, same_refl (mkc m m (max (2 * m) (n / 2)) 0) rfl, same_refl (mkc m s s a) rfl]
      simp [heads]
    · obtain ⟨e1, e2⟩ := acked_arg h hn i
      obtain ⟨e3, e4⟩ := lost_arg h hn
      rw [e1, e2, e3, e4, check_mk h, check2_mk h, timed_out e3, timed_out2_bad e4 (by decide), (done h).1, (done h).2]
      simp only [Option.bind_some]
      rw [same_refl nul rfl, same_refl (mkc m s s a) rfl]
      simp [heads]
  · obtain ⟨e1, e2⟩ := acked_bad hc n i
    obtain ⟨e3, e4⟩ := lost_bad hc n
    have e5 : f11 c = some (230, ()) := by
      rcases check_cases c with ⟨q, _⟩ | ⟨_, e⟩
      · exact absurd q hc
      · exact e
    have e6 : f18 c = some (230, ()) := by
      rcases check2_cases c with ⟨q, _⟩ | ⟨_, e⟩
      · exact absurd q hc
      · exact e
    rw [e1, e2, e3, e4, e5, e6, timed_out e3, timed_out2_bad e4 (by decide), (done_bad hc).1, (done_bad hc).2]
    simp only [Option.bind_some]
    rw [same_refl nul rfl]
    simp [heads]

theorem pure_law (x : Den s6.ps) (_ : DenFits s6.ps x) : s6.F x = some (true, ()) := plain x.1 x.2.1 x.2.2.1
end Go.Proofs.Ytgghbpijmdljgaa.renoMoves
