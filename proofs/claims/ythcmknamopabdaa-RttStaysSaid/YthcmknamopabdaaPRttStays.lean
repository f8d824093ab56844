/-
  RttStays, in plain words.
-/
import Derived.Test.YthcmknamopabdaaG
import Derived.Test.YthcmknamopabdaaVu
import Derived.Test.YthcmknamopabdaaQ
namespace Go.Proofs.Ythcmknamopabdaa.rttStays
open Go Go.Proofs.Ythcmknamopabdaa.Vx Go.Proofs.Ythcmknamopabdaa.Gn Go.Proofs.Ythcmknamopabdaa.Fn Go.Proofs.Ythcmknamopabdaa.Qn

theorem loop {lo hi : Int} (hb : Bd lo hi) (l : List Int) (h1000 : l.length ≤ 1000) : ∀ (m i : Nat) (least most s v r : Int), Ok s v r lo hi → i ≤ l.length → l.length - i < m →
    (s = 0 ∧ least = 1125899906842624 ∧ most = 0) ∨ (1 ≤ s ∧ least - 7 ≤ s ∧ s ≤ most ∧ 1 ≤ least ∧ least ≤ 1125899906842624 ∧ most ≤ 1125899906842624) →
    f4L m lo hi l least most (i : Int) (s, v, r, lo, hi) = some (true, ())
  | 0, i, least, most, s, v, r, h, hi0, hlt, hinv => by omega
  | m + 1, i, least, most, s, v, r, h, hi0, hlt, hinv => by
    show f4s1 (f4L m) lo hi l least most (i : Int) (s, v, r, lo, hi) = _
    unfold f4s1
    have h' := h
    unfold Ok at h'
    have hb' := hb
    unfold Bd at hb'
    simp only [(back_ok h).1, bif_dec, bif_bne, bif_beq, imin_eq, imax_eq, Option.bind_some, heads]
    refine ite_to (fun c1 => ?_) (fun _ => rfl)
    have hil : i < l.length := by omega
    rw [getI_nat hil]
    simp only [Option.bind_some]
    rw [w64 (n := (i : Int) + 1) (by omega) (by omega)]
    generalize l[i] = t
    refine ite_to (fun c2 => ?_) (fun c2 => ?_)
    · have hb2 : Ok s v (min hi (2 * r)) lo hi := by unfold Ok; omega
      rw [(check_ok hb2).1]
      simp only [Option.bind_some]
      rw [if_pos trivial, if_neg (by omega), if_pos trivial, if_neg (by omega), if_neg (by omega)]
      have := loop hb l h1000 m (i + 1) least most s v (min hi (2 * r)) hb2 (by omega) (by omega) hinv
      rw [show ((i + 1 : Nat) : Int) = (i : Int) + 1 by omega] at this
      exact this
    · by_cases ht : Time t
      · rw [sample_ok h ht]
        have ho := ok_sample h ht
        simp only [Option.bind_some]
        unfold Time at ht
        rw [if_pos trivial, w64 (n := min least t - 7) (by omega) (by omega)]
        have k : min least t - 7 ≤ sm s t ∧ sm s t ≤ max most t ∧ 1 ≤ sm s t := by
          unfold sm
          rcases hinv with ⟨e1, e2, e3⟩ | ⟨q1, q2, q3, q4, q5, q6⟩
          · rw [if_pos e1]; omega
          · rw [if_neg (by omega)]; omega
        rw [if_neg (by omega), if_neg (by omega), if_neg (by omega), (check_ok ho).1]
        simp only [Option.bind_some]
        have hW := wt_in (s := sm s t) (v := vr s v t) hb
        rw [if_pos trivial, if_neg (by omega), if_neg (by omega)]
        have := loop hb l h1000 m (i + 1) (min least t) (max most t) (sm s t) (vr s v t) _ ho (by omega) (by omega) (.inr (by omega))
        rw [show ((i + 1 : Nat) : Int) = (i : Int) + 1 by omega] at this
        exact this
      · rw [(sample_arg h ht).1]
        simp only [Option.bind_some]
        unfold Time at ht
        rw [if_neg (by decide)]
        refine ite_to (fun _ => rfl) (fun c3 => ?_)
        rw [if_pos (by omega)]
        rfl

theorem plain (lo hi : Int) (l : List Int) : f4 lo hi l = some (true, ()) := by
  unfold f4 f4e
  by_cases hb : Bd lo hi
  · rw [(new_ok hb).1]
    simp only [bif_dec, bif_bne, heads, Option.bind_some]
    rw [if_pos trivial]
    refine ite_to (fun _ => rfl) (fun c1 => ?_)
    have hb' := hb
    unfold Bd at hb'
    exact loop hb l (by omega) _ 0 _ _ 0 0 _ (by unfold Ok clamp; omega) (by omega) (by omega) (.inl ⟨rfl, rfl, rfl⟩)
  · rw [(new_bad hb).1]
    simp [heads]

theorem pure_law (x : Den s4.ps) (_ : DenFits s4.ps x) : s4.F x = some (true, ()) := plain x.1 x.2.1 x.2.2.1
end Go.Proofs.Ythcmknamopabdaa.rttStays
