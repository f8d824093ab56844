/-
  SegFull, in plain words.
-/
import Derived.Test.YtlomifklceagmaaG
import Derived.Test.YtlomifklceagmaaVu
import Derived.Test.YtlomifklceagmaaQ
namespace Go.Proofs.Ytlomifklceagmaa.segFull
open Go Go.Proofs.Ytlomifklceagmaa.Vx Go.Proofs.Ytlomifklceagmaa.Gn Go.Proofs.Ytlomifklceagmaa.Fn Go.Proofs.Ytlomifklceagmaa.Qn
set_option linter.unusedVariables false
set_option linter.unusedSimpArgs false

theorem plain (nx en : Int) (cl fin : Bool) (ed una mss room most : Int) (nagle force : Bool) : f5 (nx, en, cl, fin, ed, una, mss, room, most, nagle, force) = some (true, ()) := by
  unfold f5
  by_cases h : Ok nx en ed una mss most cl fin
  · rw [next_ok h, (check_ok h).1]
    obtain ⟨h1, h2, h3, h4, h5, h6, h7, h8, h9, h10, h11⟩ := h
    cases fin
    · cases force
      · simp only [Option.bind_some, bif_dec, bif_bne, bif_beq, bif_not, cond_true, cond_false, heads]
        rw [if_pos trivial, w64 (n := en - nx) (by omega) (by omega), w64 (n := ed - nx) (by omega) (by omega), w64 (n := nx + mss) (by omega) (by omega)]
        refine ite_to (fun _ => rfl) (fun c1 => ?_)
        refine ite_to (fun _ => rfl) (fun c2 => ?_)
        refine ite_to (fun _ => rfl) (fun c3 => ?_)
        have e : nxt nx en ed una mss room most cl false nagle false = (cutS nx en ed cl false mss, true) := by
          unfold nxt
          have em : min (min (en - nx) (max 0 (ed - nx))) mss = mss := by omega
          rw [em]
          simp only [cond_false]
          rw [if_neg (by omega), if_neg (by omega), if_neg (by omega), if_pos trivial]
        rw [e]
        simp [pack, cutS]
      · simp [heads]
    · simp [heads]
  · rw [(check_bad h).1]; simp [heads]

theorem pure_law (x : Den s5.ps) (_ : DenFits s5.ps x) : s5.F x = some (true, ()) := plain _ _ _ _ _ _ _ _ _ _ _
end Go.Proofs.Ytlomifklceagmaa.segFull
