/-
  Reno: what its functions come to, in plain words.
-/
import Derived.Test.YtgghbpijmdljgaaF
import Derived.Test.YtgghbpijmdljgaaVw
import Derived.KernelRfl
namespace Go.Proofs.Ytgghbpijmdljgaa.Qn
open Go Go.Proofs.Ytgghbpijmdljgaa.Vx Go.Proofs.Ytgghbpijmdljgaa.Fn
set_option linter.unusedVariables false
set_option linter.unusedSimpArgs false

theorem heads : f12 = some (true, ()) := by kernel_rfl

/-- The list of a controller. -/
abbrev bw (c : TCc) : List (Int × Int) := c.2.2.2.2.2.2.2.2.2.2.2.1

theorem same_refl (c : TCc) (h : bw c = []) : f10 c c = some (true, ()) := by
  obtain ⟨a1, a2, a3, a4, a5, a6, a7, a8, a9, a10, a11, a12, a13, a14, a15, a16, a17, a18, a19, a20, a21, a22⟩ := c
  have h : a12 = [] := h
  subst h
  simp only [f10, f10e, bne_self_eq_false, cond_false]
  rfl

theorem size_eq (n : Int) : f22 n = some (decide (0 ≤ n ∧ n ≤ 1073741824), ()) := by
  unfold f22
  rw [bif_dec]
  by_cases h : n ≥ 0
  · rw [if_pos h]
    congr 2
    simp only [decide_eq_decide]
    omega
  · rw [if_neg h]
    congr 2
    rw [eq_comm, decide_eq_false_iff_not]
    omega

/-- What a controller of Reno is. -/
def Fit (c : TCc) : Prop :=
  c.1 = 1 ∧ 1 ≤ c.2.1 ∧ c.2.1 ≤ 65000 ∧ c.2.1 ≤ c.2.2.1 ∧ c.2.2.1 ≤ 1073741824 ∧ 2 * c.2.1 ≤ c.2.2.2.1 ∧ c.2.2.2.1 ≤ 1073741824 ∧ 0 ≤ c.2.2.2.2.1 ∧ c.2.2.2.2.1 ≤ 1073741824 ∧
  c.2.2.2.2.2 = (0, 0, 0, 0, 0, 0, [], 0, 0, 0, 0, 0, 0, 0, 0, 0, 0)

theorem check_fit (c : TCc) (h : Fit c) : f11 c = some (0, ()) := by
  obtain ⟨a1, a2, a3, a4, a5, r⟩ := c
  obtain ⟨h1, h2, h3, h4, h5, h6, h7, h8, h9, h10⟩ := h
  simp only at h1 h2 h3 h4 h5 h6 h7 h8 h9 h10
  subst h1 h10
  unfold f11
  simp only [size_eq, Option.bind_some, bif_not, bif_bne, bif_dec, bif_beq]
  rw [if_pos trivial, if_neg (by omega), if_neg (by omega), if_neg (by omega), if_pos ⟨by omega, by omega⟩, w64 (by omega) (by omega), if_neg (by omega), if_pos ⟨by omega, by omega⟩, if_pos ⟨h8, h9⟩]
  rfl
end Go.Proofs.Ytgghbpijmdljgaa.Qn
