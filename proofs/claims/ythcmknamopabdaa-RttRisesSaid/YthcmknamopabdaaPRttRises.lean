/-
  RttRises, in plain words.
-/
import Derived.Test.YthcmknamopabdaaG
import Derived.Test.YthcmknamopabdaaVu
import Derived.Test.YthcmknamopabdaaQ
namespace Go.Proofs.Ythcmknamopabdaa.rttRises
open Go Go.Proofs.Ythcmknamopabdaa.Vx Go.Proofs.Ythcmknamopabdaa.Gn Go.Proofs.Ythcmknamopabdaa.Fn Go.Proofs.Ythcmknamopabdaa.Qn

theorem plain (w : TRtt) (t more : Int) : f3 w t more = some (true, ()) := by
  obtain ⟨s, v, r, lo, hi⟩ := w
  unfold f3
  simp only [bif_dec, bif_bne, bif_beq, heads, Option.bind_some]
  refine ite_to (fun _ => rfl) (fun c1 => ?_)
  refine ite_to (fun _ => rfl) (fun c2 => ?_)
  refine ite_to (fun _ => rfl) (fun c3 => ?_)
  refine ite_to (fun _ => rfl) (fun c4 => ?_)
  rw [w64 (n := t + more) (by omega) (by omega)]
  by_cases h : Ok s v r lo hi
  · have h' := h
    unfold Ok at h'
    rw [sample_ok h (show Time t by unfold Time; omega), sample_ok h (show Time (t + more) by unfold Time; omega)]
    simp only [Option.bind_some]
    rw [if_pos trivial, if_pos trivial]
    have hS := sm_in (s := s) (t := t) ⟨by omega, by omega⟩ (by unfold Time; omega)
    rw [w64 (n := sm s t + more) (by omega) (by omega)]
    have k : sm s (t + more) ≥ sm s t ∧ sm s (t + more) ≤ sm s t + more := by
      unfold sm
      split <;> omega
    rw [if_pos k.1, if_pos k.2, if_pos trivial, if_pos trivial]
  · rw [(sample_bad h t).1, (sample_bad h (t + more)).1]
    rfl

theorem pure_law (x : Den s3.ps) (_ : DenFits s3.ps x) : s3.F x = some (true, ()) := plain x.1 x.2.1 x.2.2.1
end Go.Proofs.Ythcmknamopabdaa.rttRises
