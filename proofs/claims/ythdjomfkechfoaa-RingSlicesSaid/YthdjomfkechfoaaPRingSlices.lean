/-
  RingSlices, in plain words.
-/
import Derived.Test.YthdjomfkechfoaaG
import Derived.Test.YthdjomfkechfoaaVu
import Derived.Test.YthdjomfkechfoaaQ
namespace Go.Proofs.Ythdjomfkechfoaa.ringSlices
open Go Go.Proofs.Ythdjomfkechfoaa.Vx Go.Proofs.Ythdjomfkechfoaa.Gn Go.Proofs.Ythdjomfkechfoaa.Fn Go.Proofs.Ythdjomfkechfoaa.Qn
set_option linter.unusedVariables false
set_option linter.unusedSimpArgs false

theorem plain (b : Int) (d : B) (c : Int) (cl : Bool) (x y z : Int) : f6 (b, d, c, cl) x y z = some (true, ()) := by
  unfold f6
  by_cases h : Ok b d c ∧ b ≤ x ∧ x ≤ y ∧ y ≤ b + d.length
  · by_cases h' : Ok b d c ∧ b ≤ y ∧ y ≤ z ∧ z ≤ b + d.length
    · have hl := ok_len h.1
      obtain ⟨k1, k2, k3, k4, k5, k6⟩ := h.1
      rw [(slice_ok h.1 h.2.1 h.2.2.1 h.2.2.2).1, (slice_ok h'.1 h'.2.1 h'.2.2.1 h'.2.2.2).1, (slice_ok (x := x) (y := z) h.1 h.2.1 (by omega) h'.2.2.2).1]
      have l1 : (cutOut b d x y).length = (y - x).toNat := by unfold cutOut; rw [List.length_take, List.length_drop]; omega
      have l2 : (cutOut b d y z).length = (z - y).toNat := by unfold cutOut; rw [List.length_take, List.length_drop]; omega
      have e : cutOut b d x y ++ cutOut b d y z = cutOut b d x z := by
        unfold cutOut
        rw [show (z - x).toNat = (y - x).toNat + (z - y).toNat by omega, List.take_add, List.drop_drop, show (x - b).toNat + (y - x).toNat = (y - b).toNat by omega]
      simp only [Option.bind_some, bif_bne, bif_beq, bif_dec, List.nil_append, e, same_refl, heads, cond_true]
      rw [if_pos trivial, if_pos trivial, if_pos trivial, w64 (by omega) (by omega), if_pos (by omega), if_pos (by omega), if_pos (by omega)]
    · rw [(slice_ok h.1 h.2.1 h.2.2.1 h.2.2.2).1, (slice_bad h').1]
      by_cases h2 : Ok b d c ∧ b ≤ x ∧ x ≤ z ∧ z ≤ b + d.length
      · rw [(slice_ok h2.1 h2.2.1 h2.2.2.1 h2.2.2.2).1]
        simp [heads]
      · rw [(slice_bad h2).1]
        simp [heads]
  · rw [(slice_bad h).1]
    have e2 : ∃ r e, f22 (b, d, c, cl) y z = some (r, e, ()) := by
      by_cases h2 : Ok b d c ∧ b ≤ y ∧ y ≤ z ∧ z ≤ b + d.length
      · exact ⟨_, _, (slice_ok h2.1 h2.2.1 h2.2.2.1 h2.2.2.2).1⟩
      · exact ⟨_, _, (slice_bad h2).1⟩
    have e3 : ∃ r e, f22 (b, d, c, cl) x z = some (r, e, ()) := by
      by_cases h2 : Ok b d c ∧ b ≤ x ∧ x ≤ z ∧ z ≤ b + d.length
      · exact ⟨_, _, (slice_ok h2.1 h2.2.1 h2.2.2.1 h2.2.2.2).1⟩
      · exact ⟨_, _, (slice_bad h2).1⟩
    obtain ⟨r2, q2, e2⟩ := e2
    obtain ⟨r3, q3, e3⟩ := e3
    rw [e2, e3]
    simp [heads]

theorem pure_law (x : Den s6.ps) (hf : DenFits s6.ps x) : s6.F x = some (true, ()) := by
  obtain ⟨⟨b, d, c, cl⟩, y, z, v, u⟩ := x
  exact plain b d c cl y z v
end Go.Proofs.Ythdjomfkechfoaa.ringSlices
