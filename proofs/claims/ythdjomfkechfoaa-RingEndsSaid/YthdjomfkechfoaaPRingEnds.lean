/-
  RingEnds, in plain words.
-/
import Derived.Test.YthdjomfkechfoaaG
import Derived.Test.YthdjomfkechfoaaVu
import Derived.Test.YthdjomfkechfoaaQ
namespace Go.Proofs.Ythdjomfkechfoaa.ringEnds
open Go Go.Proofs.Ythdjomfkechfoaa.Vx Go.Proofs.Ythdjomfkechfoaa.Gn Go.Proofs.Ythdjomfkechfoaa.Fn Go.Proofs.Ythdjomfkechfoaa.Qn
set_option linter.unusedVariables false
set_option linter.unusedSimpArgs false

theorem plain (b : Int) (d : B) (c : Int) (cl : Bool) (x : B) : f7 (b, d, c, cl) x = some (true, ()) := by
  unfold f7
  by_cases h : Ok b d c
  · cases cl
    · have hr : room b d c true = 0 := rfl
      rw [(close_ok h).1]
      simp only [Option.bind_some, write_end h, (close_end h).1, (room_ok h).1, hr, (end_ok h).1, same_refl, heads, bif_bne, bif_beq]
      simp
    · rw [(close_end h).1, (check_ok h).1]
      simp [heads]
  · rw [(close_bad h).1, (check_bad h).1]
    simp [heads]

theorem pure_law (x : Den s7.ps) (hf : DenFits s7.ps x) : s7.F x = some (true, ()) := by
  obtain ⟨⟨b, d, c, cl⟩, y, u⟩ := x
  exact plain b d c cl y
end Go.Proofs.Ythdjomfkechfoaa.ringEnds
