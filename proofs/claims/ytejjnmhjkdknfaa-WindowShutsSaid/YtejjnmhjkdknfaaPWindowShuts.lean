/-
  WindowShuts, in plain words.
-/
import Derived.Test.YtejjnmhjkdknfaaG
import Derived.Test.YtejjnmhjkdknfaaVu
import Derived.Test.YtejjnmhjkdknfaaQ
namespace Go.Proofs.Ytejjnmhjkdknfaa.windowShuts
open Go Go.Proofs.Ytejjnmhjkdknfaa.Vx Go.Proofs.Ytejjnmhjkdknfaa.Gn Go.Proofs.Ytejjnmhjkdknfaa.Fn Go.Proofs.Ytejjnmhjkdknfaa.Qn

theorem plain (w : TWindow) (nx n : Int) : f3 w nx n = some (true, ()) := by
  obtain ⟨a1, a2, a3, a4, a5, a6, a7⟩ := w
  unfold f3
  by_cases h : Ok a1 a2 a3 a4 a5 a6 a7
  · have h' := h
    unfold Ok at h'
    rw [check_fit h]
    simp only [Option.bind_some, bif_bne, bif_beq, bif_dec, heads, imin_eq, imax_eq, (shut_ok h).1, bif_not]
    rw [if_pos trivial]
    refine ite_to (fun _ => rfl) (fun c1 => ?_)
    refine ite_to (fun _ => rfl) (fun c2 => ?_)
    rw [w64 (n := nx + 1) (by omega) (by omega)]
    have tail : ((f11 (a1, a2, a3, a4, a5, a6, a7) (min a4 1125899906842624) (max nx (min a5 1125899906842624)) n).bind fun r7 =>
          if r7.2.1 = 0 then
            if a4 > 1125899906842624 then some (true, ()) else
            if a5 > 1125899906842624 then some (true, ()) else
            if n < 1 then some (true, ()) else
            (f10 r7.1 nx).bind fun r12 => bif r12.1 then some (false, ()) else if r7.1.2.2.2.2.2.2 = 0 then some (true, ()) else some (false, ())
          else some (true, ())) = some (true, ()) := by
      by_cases ha : Arg (min a4 1125899906842624) (max nx (min a5 1125899906842624)) n
      · rw [told_ok h ha]
        have hfit := told_fit h ha
        simp only [Option.bind_some]
        rw [if_pos trivial]
        refine ite_to (fun _ => rfl) (fun c3 => ?_)
        refine ite_to (fun _ => rfl) (fun c4 => ?_)
        refine ite_to (fun _ => rfl) (fun c5 => ?_)
        have e : told a1 a2 a3 a4 a5 a6 a7 (min a4 1125899906842624) (max nx (min a5 1125899906842624)) n = (max a1 (max nx (min a5 1125899906842624)), n, max a3 (max nx (min a5 1125899906842624) + n), min a4 1125899906842624, max nx (min a5 1125899906842624), max a6 n, 0) := by
          unfold told
          rw [if_neg (by omega), if_pos (by omega)]
        rw [e] at hfit ⊢
        rw [(shut_ok hfit).1]
        simp only [Option.bind_some, bif_dec]
        rw [if_neg (by omega)]
        rfl
      · rw [(told_arg h ha).1]
        rfl
    refine ite_to (fun c3 => ?_) (fun c3 => ?_)
    · rw [if_pos (by omega)]
      exact tail
    · exact tail
  · rw [check_unfit h]
    simp [heads]

theorem pure_law (x : Den s3.ps) (_ : DenFits s3.ps x) : s3.F x = some (true, ()) := plain x.1 x.2.1 x.2.2.1
end Go.Proofs.Ytejjnmhjkdknfaa.windowShuts
