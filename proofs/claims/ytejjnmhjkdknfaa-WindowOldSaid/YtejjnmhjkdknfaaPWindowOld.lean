/-
  WindowOld, in plain words.
-/
import Derived.Test.YtejjnmhjkdknfaaG
import Derived.Test.YtejjnmhjkdknfaaVu
import Derived.Test.YtejjnmhjkdknfaaQ
namespace Go.Proofs.Ytejjnmhjkdknfaa.windowOld
open Go Go.Proofs.Ytejjnmhjkdknfaa.Vx Go.Proofs.Ytejjnmhjkdknfaa.Gn Go.Proofs.Ytejjnmhjkdknfaa.Fn Go.Proofs.Ytejjnmhjkdknfaa.Qn

theorem plain (w : TWindow) (at_ ack n : Int) : f6 w at_ ack n = some (true, ()) := by
  obtain ⟨a1, a2, a3, a4, a5, a6, a7⟩ := w
  unfold f6
  by_cases h : Ok a1 a2 a3 a4 a5 a6 a7
  · by_cases ha : Arg at_ ack n
    · rw [told_ok h ha]
      simp only [Option.bind_some, bif_bne, bif_beq, bif_dec, heads]
      rw [if_pos trivial]
      refine ite_to (fun _ => rfl) (fun c1 => ?_)
      refine ite_to (fun c2 => ?_) (fun c2 => ?_)
      · refine ite_to (fun _ => rfl) (fun c3 => ?_)
        unfold told
        rw [if_pos (by omega)]
        simp
      · unfold told
        rw [if_pos (by omega)]
        simp
    · rw [(told_arg h ha).1]
      simp [heads]
  · rw [(told_bad h).1]
    simp [heads]

theorem pure_law (x : Den s6.ps) (_ : DenFits s6.ps x) : s6.F x = some (true, ()) := plain x.1 x.2.1 x.2.2.1 x.2.2.2.1
end Go.Proofs.Ytejjnmhjkdknfaa.windowOld
