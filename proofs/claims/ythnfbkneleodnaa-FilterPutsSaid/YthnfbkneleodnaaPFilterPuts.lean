/-
  FilterPuts, in plain words.
-/
import Derived.Test.YthnfbkneleodnaaG
import Derived.Test.YthnfbkneleodnaaVu
import Derived.Test.YthnfbkneleodnaaQ
namespace Go.Proofs.Ythnfbkneleodnaa.filterPuts
open Go Go.Proofs.Ythnfbkneleodnaa.Vx Go.Proofs.Ythnfbkneleodnaa.Gn Go.Proofs.Ythnfbkneleodnaa.Fn Go.Proofs.Ythnfbkneleodnaa.Qn
set_option linter.unusedVariables false
set_option linter.unusedSimpArgs false

theorem both (l : L) (at' v w : Int) (m : Bool) (hl : (l.length + 1) * 16 ≤ 140737488355328) : ∃ r e, f7 l at' v w m = some (r, e, ()) ∧ f9 l at' v w m = some (r, e, ()) ∧ r.length ≤ l.length + 1 := by
  by_cases h : Ok l m ∧ Arg l at' v w
  · exact ⟨_, _, put_ok hl h.1 h.2, ref_ok hl h.1 h.2, put_len _ _ _ _ _⟩
  · exact ⟨_, _, put_bad hl h, ref_bad hl h, by simp⟩

theorem checks (l : L) (m : Bool) (hl : (l.length + 1) * 16 ≤ 140737488355328) : ∃ e, f13 l m = some (e, ()) ∧ f14 l m = some (e, ()) := ⟨_, check_eq l m (by omega)⟩

theorem plain (l : L) (at' v w : Int) (hl : (l.length + 1) * 16 ≤ 140737488355328) : f4 l at' v w = some (true, ()) := by
  unfold f4
  obtain ⟨r1, e1, p1, p2, p3⟩ := both l at' v w true hl
  obtain ⟨r2, e2, p4, p5, p6⟩ := both l at' v w false hl
  obtain ⟨c1, t1, t2⟩ := checks l true hl
  obtain ⟨c2, t3, t4⟩ := checks l false hl
  obtain ⟨b1, b2⟩ := best_eq l
  rw [List.nil_append, p1, p2, p4, p5, t1, t2, t3, t4, b2, b1]
  simp only [Option.bind_some, bif_dec, bif_beq]
  rw [if_pos (by omega), same_refl r1 (by omega), same_refl r2 (by omega), same_refl l (by omega)]
  simp [heads]

theorem pure_law (x : Den s4.ps) (hf : DenFits s4.ps x) : s4.F x = some (true, ()) := plain x.1 x.2.1 x.2.2.1 x.2.2.2.1 (size hf.1.1)
end Go.Proofs.Ythnfbkneleodnaa.filterPuts
