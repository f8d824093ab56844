/-
  RttSteady, in plain words.
-/
import Derived.Test.YthcmknamopabdaaG
import Derived.Test.YthcmknamopabdaaVu
import Derived.Test.YthcmknamopabdaaQ
namespace Go.Proofs.Ythcmknamopabdaa.rttSteady
open Go Go.Proofs.Ythcmknamopabdaa.Vx Go.Proofs.Ythcmknamopabdaa.Gn Go.Proofs.Ythcmknamopabdaa.Fn Go.Proofs.Ythcmknamopabdaa.Qn

/-- How far off the mean, and how great the variation, may be behind so many samples. -/
def bnd : Nat → Int × Int
  | 0 => (1099511627776, 549755813888)
  | k + 1 => ((bnd k).1 - (bnd k).1 / 8, (3 * (bnd k).2 + (bnd k).1) / 4)

theorem bnd_end : (bnd 600).1 = 7 ∧ (bnd 600).2 = 7 := by
  constructor <;> kernel_rfl

theorem bnd_nn : ∀ k, 0 ≤ (bnd k).1 ∧ 0 ≤ (bnd k).2
  | 0 => by constructor <;> decide
  | k + 1 => by
    have := bnd_nn k
    simp only [bnd]
    omega

theorem loop {t first : Int} (ht : 8 ≤ t ∧ t ≤ 1099511627776) (hf : 8 ≤ first ∧ first ≤ 1099511627776) : ∀ (m k : Nat) (s v r : Int), k ≤ 600 → 600 - k < m → Ok s v r 1 1125899906842624 → 8 ≤ s →
    s - t ≤ (bnd k).1 → t - s ≤ (bnd k).1 → v ≤ (bnd k).2 → (first ≤ t → s ≤ t) → r = wt s v 1 1125899906842624 → f5L m t first (k : Int) (s, v, r, 1, 1125899906842624) = some (true, ())
  | 0, k, s, v, r, hk, hlt, h, h8, b1, b2, b3, b4, hr => by omega
  | m + 1, k, s, v, r, hk, hlt, h, h8, b1, b2, b3, b4, hr => by
    show f5s1 (f5L m) t first (k : Int) _ = _
    unfold f5s1
    have htt : Time t := by unfold Time; omega
    have h' := h
    unfold Ok at h'
    simp only [sample_ok h htt, bif_dec, bif_bne, Option.bind_some, heads]
    refine ite_to (fun c1 => ?_) (fun c1 => ?_)
    · rw [if_pos trivial, w64 (n := (k : Int) + 1) (by omega) (by omega)]
      have hn := bnd_nn k
      have e1 : sm s t = (7 * s + t) / 8 := by
        unfold sm
        rw [if_neg (by omega)]
        omega
      have e2 : vr s v t = (3 * v + max (s - t) (t - s)) / 4 := by
        unfold vr
        rw [if_neg (by omega)]
      have := loop ht hf m (k + 1) (sm s t) (vr s v t) _ (by omega) (by omega) (ok_sample h htt) (by rw [e1]; omega) (by simp only [bnd]; rw [e1]; omega) (by simp only [bnd]; rw [e1]; omega)
        (by simp only [bnd]; rw [e2]; omega) (by intro q; have := b4 q; rw [e1]; omega) rfl
      rw [show ((k + 1 : Nat) : Int) = (k : Int) + 1 by omega] at this
      exact this
    · have e600 : k = 600 := by omega
      subst e600
      rw [bnd_end.1] at b1 b2
      rw [bnd_end.2] at b3
      have er : r = s + 1000 := by
        rw [hr]
        unfold wt clamp
        rw [if_pos (by omega)]
        omega
      rw [w64 (n := t - 8) (by omega) (by omega), w64 (n := t + 1008) (by omega) (by omega), w64 (n := t + 8) (by omega) (by omega), w64 (n := t - 8 + 1000) (by omega) (by omega)]
      repeat' (refine ite_to (fun _ => ?_) (fun _ => ?_))
      all_goals first
        | rfl
        | (exfalso; omega)

theorem plain (t first : Int) : f5 t first = some (true, ()) := by
  unfold f5 f5e
  simp only [bif_dec, heads, Option.bind_some]
  refine ite_to (fun _ => rfl) (fun c1 => ?_)
  refine ite_to (fun _ => rfl) (fun c2 => ?_)
  refine ite_to (fun _ => rfl) (fun c3 => ?_)
  refine ite_to (fun _ => rfl) (fun c4 => ?_)
  have hb : Bd 1 1125899906842624 := by unfold Bd; omega
  rw [(new_ok hb).1]
  have h0 : Ok 0 0 (clamp 1000000 1 1125899906842624) 1 1125899906842624 := by unfold Ok clamp; omega
  have htf : Time first := by unfold Time; omega
  simp only [Option.bind_some]
  rw [sample_ok h0 htf]
  simp only [Option.bind_some]
  have ho := ok_sample h0 htf
  have e1 : sm 0 first = first := by unfold sm; rw [if_pos rfl]
  have e2 : vr 0 0 first = first / 2 := by unfold vr; rw [if_pos rfl]
  rw [e1, e2] at ho ⊢
  exact loop (by omega) (by omega) 1005 0 first (first / 2) _ (by omega) (by omega) ho (by omega) (by simp only [bnd]; omega) (by simp only [bnd]; omega) (by simp only [bnd]; omega) (fun q => q) rfl

theorem pure_law (x : Den s5.ps) (_ : DenFits s5.ps x) : s5.F x = some (true, ()) := plain x.1 x.2.1
end Go.Proofs.Ythcmknamopabdaa.rttSteady
