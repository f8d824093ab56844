/-
  WindowEdge, in plain words.
-/
import Derived.Test.YtejjnmhjkdknfaaG
import Derived.Test.YtejjnmhjkdknfaaVu
import Derived.Test.YtejjnmhjkdknfaaQ
namespace Go.Proofs.Ytejjnmhjkdknfaa.windowEdge
open Go Go.Proofs.Ytejjnmhjkdknfaa.Vx Go.Proofs.Ytejjnmhjkdknfaa.Gn Go.Proofs.Ytejjnmhjkdknfaa.Fn Go.Proofs.Ytejjnmhjkdknfaa.Qn

theorem loop (l : List (Int × Int)) (sz : List Int) (h300 : l.length ≤ 300) (hsz : l.length ≤ sz.length) : ∀ (m i : Nat) (most : Int) (w : TWindow), Fit w → w.2.2.1 ≤ most → i ≤ l.length → l.length - i < m →
    f5L m l sz most (i : Int) w = some (true, ())
  | 0, i, most, w, hw, hm, hi, hlt => by omega
  | m + 1, i, most, (a1, a2, a3, a4, a5, a6, a7), hw, hm, hi, hlt => by
    have h : Ok a1 a2 a3 a4 a5 a6 a7 := hw
    have h' := h
    unfold Ok at h'
    have hm : a3 ≤ most := hm
    show f5s1 (f5L m) l sz most (i : Int) (a1, a2, a3, a4, a5, a6, a7) = _
    unfold f5s1
    simp only [bif_dec, heads, Option.bind_some]
    refine ite_to (fun c1 => ?_) (fun _ => rfl)
    have hil : i < l.length := by omega
    rw [getI_nat hil, getI_nat (show i < sz.length by omega)]
    simp only [Option.bind_some]
    generalize l[i] = e
    generalize sz[i] = n
    by_cases ha : Arg e.1 e.2 n
    · rw [told_ok h ha]
      have hfit := told_fit h ha
      have ha' := ha
      unfold Arg at ha'
      simp only [Option.bind_some, bif_bne, imax_eq]
      rw [if_pos trivial]
      have hp : ∃ b1 b2 b3 b4 b5 b6 b7, told a1 a2 a3 a4 a5 a6 a7 e.1 e.2 n = (b1, b2, b3, b4, b5, b6, b7) ∧ a1 ≤ b1 ∧ a3 ≤ b3 ∧ b3 ≤ max a3 (e.2 + n) := by
        unfold told
        split
        · exact ⟨_, _, _, _, _, _, _, rfl, by omega, by omega, by omega⟩
        · exact ⟨_, _, _, _, _, _, _, rfl, by omega, by omega, by omega⟩
      obtain ⟨b1, b2, b3, b4, b5, b6, b7, eb, k1, k2, k3⟩ := hp
      rw [eb] at hfit ⊢
      have hb : Ok b1 b2 b3 b4 b5 b6 b7 := hfit
      have hb' := hb
      unfold Ok at hb'
      rw [check_fit hb, (right_ok hb).1]
      simp only [Option.bind_some]
      rw [if_pos trivial, if_neg (by omega), if_neg (by omega), w64 (n := e.2 + n) (by omega) (by omega), if_neg (by omega), if_neg (by omega), w64 (n := (i : Int) + 1) (by omega) (by omega)]
      have := loop l sz h300 hsz m (i + 1) (max most (e.2 + n)) (b1, b2, b3, b4, b5, b6, b7) hfit (by show b3 ≤ _; omega) (by omega) (by omega)
      rw [show ((i + 1 : Nat) : Int) = (i : Int) + 1 by omega] at this
      exact this
    · rw [(told_arg h ha).1]
      rfl

theorem plain (n : Int) (l : List (Int × Int)) (sz : List Int) : f5 n l sz = some (true, ()) := by
  unfold f5 f5e
  by_cases hn : 0 ≤ n ∧ n ≤ 1073741824
  · rw [new_ok hn]
    simp only [Option.bind_some, bif_bne, bif_dec, heads]
    rw [if_pos trivial]
    refine ite_to (fun _ => rfl) (fun c1 => ?_)
    refine ite_to (fun _ => rfl) (fun c2 => ?_)
    exact loop l sz (by omega) (by omega) _ 0 n (0, n, n, 0, 0, n, 0) (by dsimp only [Fit, Ok]; omega) (Int.le_refl _) (by omega) (by omega)
  · rw [new_bad hn]
    simp [heads]

theorem pure_law (x : Den s5.ps) (_ : DenFits s5.ps x) : s5.F x = some (true, ()) := plain x.1 x.2.1 x.2.2.1
end Go.Proofs.Ytejjnmhjkdknfaa.windowEdge
