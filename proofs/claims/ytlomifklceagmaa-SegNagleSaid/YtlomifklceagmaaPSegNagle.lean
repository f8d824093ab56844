/-
  SegNagle, in plain words.
-/
import Derived.Test.YtlomifklceagmaaG
import Derived.Test.YtlomifklceagmaaVu
import Derived.Test.YtlomifklceagmaaQ
namespace Go.Proofs.Ytlomifklceagmaa.segNagle
open Go Go.Proofs.Ytlomifklceagmaa.Vx Go.Proofs.Ytlomifklceagmaa.Gn Go.Proofs.Ytlomifklceagmaa.Fn Go.Proofs.Ytlomifklceagmaa.Qn
set_option linter.unusedVariables false
set_option linter.unusedSimpArgs false

theorem ite_ind {α : Type} (Q : α → Prop) {p : Prop} [Decidable p] {a b : α} (h1 : p → Q a) (h2 : ¬ p → Q b) : Q (if p then a else b) := by
  by_cases h : p
  · rw [if_pos h]; exact h1 h
  · rw [if_neg h]; exact h2 h

def Shape (nx en ed mss : Int) (r : TCut × Bool) : Prop := r = (nul, false) ∨ r = (cutS nx en ed false false mss, true)

theorem nxt_shape {nx en ed una mss room most : Int} (hu : una ≠ nx) : Shape nx en ed mss (nxt nx en ed una mss room most false false true false) := by
  unfold nxt
  simp only [cond_true, cond_false]
  repeat' (refine ite_ind (Shape nx en ed mss) (fun _ => ?_) (fun _ => ?_))
  all_goals first
    | exact Or.inl rfl
    | (exfalso; omega)
    | (rename_i q; exact Or.inr (by rw [q]))

theorem plain (nx en : Int) (cl fin : Bool) (ed una mss room most : Int) (nagle force : Bool) : f6 (nx, en, cl, fin, ed, una, mss, room, most, nagle, force) = some (true, ()) := by
  unfold f6
  by_cases h : Ok nx en ed una mss most false false
  · rw [next_ok h]
    simp only [pack, Option.bind_some, bif_dec, bif_bne, bif_beq, bif_not, cond_true, cond_false, heads]
    rw [if_pos trivial]
    refine ite_to (fun _ => rfl) (fun c1 => ?_)
    obtain ⟨h1, h2, h3, h4, h5, h6, h7, h8, h9, h10, h11⟩ := h
    rcases nxt_shape (nx := nx) (en := en) (ed := ed) (una := una) (mss := mss) (room := room) (most := most) c1 with e | e
    · rw [e]; rfl
    · rw [e]
      refine ite_to (fun _ => rfl) (fun q => ?_)
      exfalso
      dsimp only [cutS] at q
      rw [w64 (by omega) (by omega)] at q
      omega
  · rw [(next_bad h).1]; simp [heads, nul]

theorem pure_law (x : Den s6.ps) (_ : DenFits s6.ps x) : s6.F x = some (true, ()) := plain _ _ _ _ _ _ _ _ _ _ _
end Go.Proofs.Ytlomifklceagmaa.segNagle
