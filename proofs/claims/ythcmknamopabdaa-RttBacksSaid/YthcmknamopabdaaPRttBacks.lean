/-
  RttBacks, in plain words.
-/
import Derived.Test.YthcmknamopabdaaG
import Derived.Test.YthcmknamopabdaaVu
import Derived.Test.YthcmknamopabdaaQ
namespace Go.Proofs.Ythcmknamopabdaa.rttBacks
open Go Go.Proofs.Ythcmknamopabdaa.Vx Go.Proofs.Ythcmknamopabdaa.Gn Go.Proofs.Ythcmknamopabdaa.Fn Go.Proofs.Ythcmknamopabdaa.Qn

theorem loop {s v lo hi r0 : Int} (h0 : Ok s v r0 lo hi) {n : Int} (hn : 0 ≤ n ∧ n ≤ 60) : ∀ (m : Nat) (i r : Int), Ok s v r lo hi → 0 ≤ i → i ≤ n → n - i < m →
    f6L m n r i (s, v, r0, lo, hi) (s, v, wt s v lo hi, lo, hi) (s, v, r, lo, hi) = some (true, ())
  | 0, i, r, h, hi0, hin, hlt => by omega
  | m + 1, i, r, h, hi0, hin, hlt => by
    show f6s1 (f6L m) n r i _ _ _ = _
    unfold f6s1
    have h' := h
    unfold Ok at h'
    simp only [(back_ok h).1, (calm_ok h).1, bif_dec, bif_bne, bif_beq, imin_eq, Option.bind_some, heads]
    refine ite_to (fun c => ?_) (fun c => ?_)
    · rw [if_pos trivial, w64 (n := 2 * r) (by omega) (by omega), if_pos (by omega), w64 (n := i + 1) (by omega) (by omega)]
      have e : min (2 * r) hi = min hi (2 * r) := Int.min_comm _ _
      rw [e]
      exact loop h0 hn m (i + 1) _ (by unfold Ok; omega) (by omega) (by omega) (by omega)
    · simp

theorem plain (w : TRtt) (n : Int) : f6 w n = some (true, ()) := by
  obtain ⟨s, v, r, lo, hi⟩ := w
  unfold f6 f6e
  by_cases h : Ok s v r lo hi
  · have h' := h
    unfold Ok at h'
    rw [(calm_ok h).1]
    simp only [bif_dec, bif_bne, heads, Option.bind_some]
    rw [if_pos trivial]
    refine ite_to (fun _ => rfl) (fun c1 => ?_)
    refine ite_to (fun _ => rfl) (fun c2 => ?_)
    have hW := wt_in (s := s) (v := v) (lo := lo) (hi := hi) ⟨by omega, by omega, by omega⟩
    exact loop h (by omega) 1005 0 _ (by unfold Ok; omega) (by omega) (by omega) (by omega)
  · rw [(calm_bad h).1]
    simp [heads]

theorem pure_law (x : Den s6.ps) (_ : DenFits s6.ps x) : s6.F x = some (true, ()) := plain x.1 x.2.1
end Go.Proofs.Ythcmknamopabdaa.rttBacks
