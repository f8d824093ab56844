/-
  SegBounds, in plain words.
-/
import Derived.Test.YtlomifklceagmaaG
import Derived.Test.YtlomifklceagmaaVu
import Derived.Test.YtlomifklceagmaaQ
namespace Go.Proofs.Ytlomifklceagmaa.segBounds
open Go Go.Proofs.Ytlomifklceagmaa.Vx Go.Proofs.Ytlomifklceagmaa.Gn Go.Proofs.Ytlomifklceagmaa.Fn Go.Proofs.Ytlomifklceagmaa.Qn
set_option linter.unusedVariables false
set_option linter.unusedSimpArgs false

theorem cut_refl {α : Type} (a b : Int) (f p : Bool) (x y : α) : (bif (a == a) && ((b == b) && ((f == f) && (p == p))) then x else y) = x := by
  rw [beq_self_eq_true, beq_self_eq_true, beq_self_eq_true, beq_self_eq_true]; rfl

theorem ite_ind {α : Type} (Q : α → Prop) {p : Prop} [Decidable p] {a b : α} (h1 : p → Q a) (h2 : ¬ p → Q b) : Q (if p then a else b) := by
  by_cases h : p
  · rw [if_pos h]; exact h1 h
  · rw [if_neg h]; exact h2 h

def Shape (nx en ed mss room : Int) (cl force : Bool) (r : TCut × Bool) : Prop :=
  r = (nul, false) ∨ ∃ n, r = (cutS nx en ed cl force n, true) ∧ 0 ≤ n ∧ n ≤ mss ∧ nx + n ≤ en ∧ (n = 0 → cl = true ∧ nx = en) ∧ (force = true → n ≤ 1) ∧ (force = false → n ≤ max 0 (ed - nx) ∧ (n = 0 → ed - nx > 0) ∧ (n ≠ 0 → n ≤ room))

theorem nxt_shape {nx en : Int} {cl fin : Bool} {ed una mss room most : Int} {nagle force : Bool} (h : Ok nx en ed una mss most cl fin) : Shape nx en ed mss room cl force (nxt nx en ed una mss room most cl fin nagle force) := by
  obtain ⟨h1, h2, h3, h4, h5, h6, h7, h8, h9, h10, h11⟩ := h
  unfold nxt
  cases fin
  · cases force <;> cases cl <;> cases nagle <;> simp only [cond_true, cond_false]
    all_goals
      repeat' (refine ite_ind (Shape nx en ed mss room _ _) (fun _ => ?_) (fun _ => ?_))
      all_goals first
        | exact Or.inl rfl
        | (refine Or.inr ⟨_, rfl, ?_, ?_, ?_, ?_, ?_, ?_⟩
           all_goals first
             | omega
             | (intro q; first | (exact absurd q (by decide)) | (exfalso; omega) | exact ⟨rfl, by omega⟩ | omega))
  · exact Or.inl rfl

theorem plain (nx en : Int) (cl fin : Bool) (ed una mss room most : Int) (nagle force : Bool) : f4 (nx, en, cl, fin, ed, una, mss, room, most, nagle, force) = some (true, ()) := by
  unfold f4
  by_cases h : Ok nx en ed una mss most cl fin
  · rw [next_ok h]
    rcases nxt_shape (room := room) (nagle := nagle) (force := force) h with e | ⟨n, e, k1, k2, k3, k4, k5, k6⟩
    · rw [e]; simp [pack, heads, nul]
    · rw [e]
      obtain ⟨h1, h2, h3, h4, h5, h6, h7, h8, h9, h10, h11⟩ := h
      have hf : (cl && (decide (nx + n = en) && (decide (n = 0) || (!force && decide (max 0 (ed - nx) > n))))) = true ↔ (cl = true ∧ nx + n = en ∧ (n = 0 ∨ (force = false ∧ max 0 (ed - nx) > n))) := by
        simp
      have hp : (decide (nx + n = en) && decide (n > 0)) = true ↔ (nx + n = en ∧ n > 0) := by simp
      simp only [pack, cutS, Option.bind_some, bif_dec, bif_bne, bif_beq, bif_not, cond_true, cond_false, heads]
      rw [if_pos trivial, w64 (n := nx + n - nx) (by omega) (by omega), w64 (n := ed - nx) (by omega) (by omega), w64 (n := nx + n - nx + 1) (by omega) (by omega)]
      generalize (cl && (decide (nx + n = en) && (decide (n = 0) || (!force && decide (max 0 (ed - nx) > n))))) = f at hf ⊢
      have hpe : (nx + n == en) = decide (nx + n = en) := by rw [Bool.eq_iff_iff]; simp
      have hpp : (decide (nx + n = en) && decide (n > 0)) = if n > 0 then decide (nx + n = en) else false := by
        by_cases q : n > 0
        · rw [if_pos q]; simp [q]
        · rw [if_neg q]; simp [q]
      rw [hpp, hpe]
      clear hp
      cases f <;> cases force <;> cases cl <;> simp only [cond_true, cond_false, reduceCtorEq, false_and, and_false, true_and, and_true, false_or, or_false, true_iff, false_iff, iff_true, iff_false, forall_const, true_implies, false_implies, imp_false] at hf k4 k5 k6 ⊢
      all_goals
        repeat' (refine ite_to (fun _ => ?_) (fun _ => ?_))
        all_goals first
          | rfl
          | (exfalso; omega)
          | (exfalso; contradiction)
          | (first | rw [if_pos (show n > 0 by omega)] | rw [if_neg (show ¬ n > 0 by omega)]
             try rw [beq_self_eq_true, cond_true]
             repeat' (refine ite_to (fun _ => ?_) (fun _ => ?_))
             all_goals first
               | rfl
               | (exfalso; omega)
               | skip)
  · rw [(next_bad h).1]; simp [heads, nul]

theorem pure_law (x : Den s4.ps) (_ : DenFits s4.ps x) : s4.F x = some (true, ()) := plain _ _ _ _ _ _ _ _ _ _ _
end Go.Proofs.Ytlomifklceagmaa.segBounds
