/-
  SegDrains, in plain words.
-/
import Derived.Test.YtlomifklceagmaaG
import Derived.Test.YtlomifklceagmaaVu
import Derived.Test.YtlomifklceagmaaQ
namespace Go.Proofs.Ytlomifklceagmaa.segDrains
open Go Go.Proofs.Ytlomifklceagmaa.Vx Go.Proofs.Ytlomifklceagmaa.Gn Go.Proofs.Ytlomifklceagmaa.Fn Go.Proofs.Ytlomifklceagmaa.Qn
set_option linter.unusedVariables false
set_option linter.unusedSimpArgs false

theorem nxt_is {nx size mss : Int} {nagle : Bool} (h0 : 0 ≤ nx) (h1 : nx ≤ size) (h2 : size ≤ 500) (h3 : 1 ≤ mss) :
    nxt nx size 10000 0 mss 100000 10000 true false nagle false = (cutS nx size 10000 true false (min (size - nx) mss), true) := by
  unfold nxt
  have em : min (min (size - nx) (max 0 (10000 - nx))) mss = min (size - nx) mss := by omega
  rw [em]
  simp only [cond_true, cond_false]
  by_cases q : size - nx = 0
  · rw [if_pos q, if_pos (by omega)]
    have e : min (size - nx) mss = 0 := by omega
    rw [e]
  · rw [if_neg q, if_neg (by omega), if_neg (by omega)]
    by_cases q2 : min (size - nx) mss = mss
    · rw [if_pos q2]
    · rw [if_neg q2, if_pos (show min (size - nx) mss = size - nx by omega), if_pos (show min (size - nx) mss = size - nx by omega)]
      cases nagle <;> rfl

theorem loop {size mss : Int} {nagle : Bool} (h2 : size ≤ 500) (h3 : 1 ≤ mss) (h4 : mss ≤ 65000) : ∀ (m : Nat) (nx i : Int), 0 ≤ nx → nx ≤ size → 0 ≤ i → i ≤ nx → 502 - i < m →
    f7L m size nx i (nx, size, true, false, 10000, 0, mss, 100000, 10000, nagle, false) = some (true, ())
  | 0, nx, i, a, b, c, d, e => by omega
  | m + 1, nx, i, a, b, c, d, e => by
    have h : Ok nx size 10000 0 mss 10000 true false := by
      unfold Ok
      exact ⟨by omega, by omega, by omega, by omega, by omega, by omega, by omega, by omega, by omega, by omega, fun q => absurd q (by decide)⟩
    show f7s1 (f7L m) size nx i (nx, size, true, false, 10000, 0, mss, 100000, 10000, nagle, false) = _
    unfold f7s1
    dsimp only
    rw [next_ok h, nxt_is a b h2 h3]
    generalize hn : min (size - nx) mss = n
    simp only [pack, cutS, Option.bind_some, bif_dec, bif_bne, bif_beq, bif_not, cond_true, cond_false, heads, Bool.true_and, Bool.not_false]
    rw [w64 (n := size + 1) (by omega) (by omega), if_pos (by omega), if_pos trivial, if_pos trivial]
    by_cases q : nx + n = size
    · have ef : (decide (nx + n = size) && (decide (n = 0) || decide (max 0 (10000 - nx) > n))) = true := by
        simp only [Bool.and_eq_true, Bool.or_eq_true, decide_eq_true_eq]
        omega
      have h' : Ok (nx + n) size 10000 0 mss 10000 true true := by
        unfold Ok
        exact ⟨by omega, by omega, by omega, by omega, by omega, by omega, by omega, by omega, by omega, by omega, fun _ => ⟨rfl, q⟩⟩
      rw [ef, next_ok h', w64 (n := nx + (nx + n)) (by omega) (by omega), w64 (by omega) (by omega)]
      simp only [nxt, pack, Option.bind_some, bif_dec, bif_bne, bif_beq, bif_not, cond_true, cond_false]
      rw [if_pos (by omega), if_pos trivial]
    · have ef : (decide (nx + n = size) && (decide (n = 0) || decide (max 0 (10000 - nx) > n))) = false := by
        rw [decide_eq_false q]; rfl
      rw [ef, w64 (n := nx + (nx + n)) (by omega) (by omega), w64 (n := nx + (nx + n) - nx) (by omega) (by omega), w64 (n := i + 1) (by omega) (by omega)]
      simp only [cond_false]
      have := loop (nagle := nagle) h2 h3 h4 m (nx + n) (i + 1) (by omega) (by omega) (by omega) (by omega) (by omega)
      rw [show nx + (nx + n) - nx = nx + n by omega]
      exact this

theorem plain (size mss : Int) (nagle : Bool) : f7 size mss nagle = some (true, ()) := by
  unfold f7 f7e
  simp only [bif_dec, heads, Option.bind_some]
  refine ite_to (fun _ => rfl) (fun c1 => ?_)
  refine ite_to (fun _ => rfl) (fun c2 => ?_)
  refine ite_to (fun _ => rfl) (fun c3 => ?_)
  refine ite_to (fun _ => rfl) (fun c4 => ?_)
  exact loop (by omega) (by omega) (by omega) 1005 0 0 (by omega) (by omega) (by omega) (by omega) (by omega)

theorem pure_law (x : Den s7.ps) (_ : DenFits s7.ps x) : s7.F x = some (true, ()) := plain _ _ _
end Go.Proofs.Ytlomifklceagmaa.segDrains
