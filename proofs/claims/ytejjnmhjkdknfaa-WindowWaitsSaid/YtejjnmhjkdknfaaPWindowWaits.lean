/-
  WindowWaits, in plain words.
-/
import Derived.Test.YtejjnmhjkdknfaaG
import Derived.Test.YtejjnmhjkdknfaaVu
import Derived.Test.YtejjnmhjkdknfaaQ
namespace Go.Proofs.Ytejjnmhjkdknfaa.windowWaits
open Go Go.Proofs.Ytejjnmhjkdknfaa.Vx Go.Proofs.Ytejjnmhjkdknfaa.Gn Go.Proofs.Ytejjnmhjkdknfaa.Fn Go.Proofs.Ytejjnmhjkdknfaa.Qn

theorem plain (w : TWindow) (rto lo hi : Int) (hr : rto ≤ 9223372036854775807) : f7 w rto lo hi = some (true, ()) := by
  obtain ⟨a1, a2, a3, a4, a5, a6, a7⟩ := w
  unfold f7
  by_cases h : Ok a1 a2 a3 a4 a5 a6 a7
  · have h' := h
    unfold Ok at h'
    have h2 : Ok a1 a2 a3 a4 a5 a6 (min 100 (a7 + 1)) := by unfold Ok; omega
    rw [(tried_ok h).1]
    simp only [Option.bind_some, bif_bne, bif_beq, bif_dec, heads]
    rw [if_pos trivial]
    refine ite_to (fun _ => rfl) (fun c1 => ?_)
    refine ite_to (fun _ => rfl) (fun c2 => ?_)
    refine ite_to (fun _ => rfl) (fun c3 => ?_)
    refine ite_to (fun _ => rfl) (fun c4 => ?_)
    rw [(wait_ok h rto lo hi).1, (wait_ok h2 rto lo hi).1]
    simp only [Option.bind_some]
    generalize ht : min rto 1125899906842624 = t
    have key : ∃ u v, dbl a7.toNat t = u ∧ dbl (min 100 (a7 + 1)).toNat t = v ∧ 0 ≤ u ∧ u ≤ v ∧ v ≤ 2 * u ∧ v ≤ 1125899906842624 := by
      have hb : ∀ k, 0 ≤ dbl k t ∧ dbl k t ≤ 1125899906842624 := by
        intro k
        induction k with
        | zero => exact ⟨by show 0 ≤ t; omega, by show t ≤ _; omega⟩
        | succ k ih =>
          rw [dbl_last]
          unfold Qn.step
          split <;> omega
      have hu := hb a7.toNat
      by_cases h100 : a7 = 100
      · refine ⟨_, _, rfl, rfl, hu.1, ?_⟩
        rw [show (min 100 (a7 + 1)).toNat = a7.toNat by omega]
        omega
      · refine ⟨_, _, rfl, rfl, hu.1, ?_⟩
        rw [show (min 100 (a7 + 1)).toNat = a7.toNat + 1 by omega, dbl_last]
        unfold Qn.step
        split <;> omega
    obtain ⟨u, v, hu, hv, k1, k2, k3, k4⟩ := key
    rw [hu, hv]
    unfold clamp
    rw [if_pos (by omega), if_pos (by omega), if_pos (by omega), w64 (by omega) (by omega)]
    refine ite_to (fun _ => rfl) (fun c5 => ?_)
    rw [if_pos (by omega)]
  · rw [(tried_bad h).1]
    simp [heads]

theorem pure_law (x : Den s7.ps) (hf : DenFits s7.ps x) : s7.F x = some (true, ()) := plain x.1 x.2.1 x.2.2.1 x.2.2.2.1 (wf64 hf.2.1).2
end Go.Proofs.Ytejjnmhjkdknfaa.windowWaits
