/-
  RingCuts, in plain words.
-/
import Derived.Test.YthdjomfkechfoaaG
import Derived.Test.YthdjomfkechfoaaVu
import Derived.Test.YthdjomfkechfoaaQ
namespace Go.Proofs.Ythdjomfkechfoaa.ringCuts
open Go Go.Proofs.Ythdjomfkechfoaa.Vx Go.Proofs.Ythdjomfkechfoaa.Gn Go.Proofs.Ythdjomfkechfoaa.Fn Go.Proofs.Ythdjomfkechfoaa.Qn
set_option linter.unusedVariables false
set_option linter.unusedSimpArgs false

theorem rels (b : Int) (d : B) (c : Int) (cl : Bool) (t : Int) : ∃ r e, f20 (b, d, c, cl) t = some (r, e, ()) ∧ f21 (b, d, c, cl) t = some (r, e, ()) := by
  by_cases h : Ok b d c ∧ b ≤ t ∧ t ≤ b + d.length
  · exact ⟨_, _, rel_ok h.1 h.2.1 h.2.2⟩
  · exact ⟨_, _, rel_bad h⟩

theorem slices (b : Int) (d : B) (c : Int) (cl : Bool) (x y : Int) : ∃ r e, f22 (b, d, c, cl) x y = some (r, e, ()) ∧ f23 (b, d, c, cl) x y = some (r, e, ()) := by
  by_cases h : Ok b d c ∧ b ≤ x ∧ x ≤ y ∧ y ≤ b + d.length
  · exact ⟨_, _, slice_ok h.1 h.2.1 h.2.2.1 h.2.2.2⟩
  · exact ⟨_, _, slice_bad h⟩

theorem plain (b : Int) (d : B) (c : Int) (cl : Bool) (x y : Int) (hl : d.length ≤ 140737488355328) : f4 (b, d, c, cl) x y = some (true, ()) := by
  unfold f4
  dsimp only
  rw [List.nil_append, bif_dec, if_pos (by omega)]
  obtain ⟨r, e, p1, p2⟩ := rels b d c cl y
  obtain ⟨r', e', p3, p4⟩ := slices b d c cl x y
  rw [p1, p2, p3, p4]
  simp [ring_refl, same_refl, heads]

theorem pure_law (x : Den s4.ps) (hf : DenFits s4.ps x) : s4.F x = some (true, ()) := by
  obtain ⟨⟨b, d, c, cl⟩, y, z, u⟩ := x
  exact plain b d c cl y z (size hf.1.2.1.1)
end Go.Proofs.Ythdjomfkechfoaa.ringCuts
