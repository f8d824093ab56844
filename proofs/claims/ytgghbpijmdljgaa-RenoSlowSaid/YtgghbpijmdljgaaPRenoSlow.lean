/-
  RenoSlow, in plain words.
-/
import Derived.Test.YtgghbpijmdljgaaG
import Derived.Test.YtgghbpijmdljgaaVu
import Derived.Test.YtgghbpijmdljgaaQ
namespace Go.Proofs.Ytgghbpijmdljgaa.renoSlow
open Go Go.Proofs.Ytgghbpijmdljgaa.Vx Go.Proofs.Ytgghbpijmdljgaa.Gn Go.Proofs.Ytgghbpijmdljgaa.Fn Go.Proofs.Ytgghbpijmdljgaa.Qn
set_option linter.unusedVariables false

theorem num_eq (e : Int) : 0 ≤ IntKind.i64.wrap (Int.tmod (IntKind.u64.wrap e) 100000) ∧ IntKind.i64.wrap (Int.tmod (IntKind.u64.wrap e) 100000) ≤ 99999 := by
  have h : 0 ≤ IntKind.u64.wrap e := by rw [IntKind.wrap_u64]; omega
  generalize IntKind.u64.wrap e = k at *
  rw [Int.tmod_eq_emod_of_nonneg h, w64 (by omega) (by omega)]
  omega

theorem step {m w s a n start R sum : Int} (h : Ok m w s a) (hs : s ≤ w) (hn : 0 ≤ n) (hn' : n ≤ 99999) (hR : 0 ≤ R) (hw : w ≤ start + R * m) (ha : a + R * start ≤ sum) (hst : start ≤ w) (h1 : 1 ≤ start) :
    ∃ w' a' R', ack m w s a n = mkc m w' s a' ∧ Ok m w' s a' ∧ w ≤ w' ∧ w' ≤ w + m ∧ 0 ≤ R' ∧ w' ≤ start + R' * m ∧ a' + R' * start ≤ sum + n := by
  obtain ⟨q1, q2, q3, q4, q5, q6, q7, q8⟩ := h
  unfold ack
  rw [if_neg (by omega)]
  by_cases c : w ≤ min 1073741824 (a + n)
  · rw [if_pos c]
    refine ⟨_, _, R + 1, rfl, ⟨q1, q2, by omega, by omega, q5, q6, by omega, by omega⟩, by omega, by omega, by omega, ?_, ?_⟩
    · rw [Int.add_mul]; omega
    · rw [Int.add_mul]; omega
  · rw [if_neg c]
    exact ⟨_, _, R, rfl, ⟨q1, q2, by omega, by omega, q5, q6, by omega, by omega⟩, by omega, by omega, by omega, by omega, by omega⟩

theorem loop (l : List Int) (h200 : l.length ≤ 200) {m s start : Int} (h1 : 1 ≤ start) : ∀ (k i : Nat) (w a sum R : Int), Ok m w s a → s ≤ w → 0 ≤ R → w ≤ start + R * m → a + R * start ≤ sum → start ≤ w → sum ≤ 1073741824 + 100000 * i → i ≤ l.length → l.length - i < k →
    f4L k l start sum (i : Int) (mkc m w s a) = some (true, ())
  | 0, i, w, a, sum, R, h, hs, hR, hw, ha, hst, hsum, hi, hlt => by omega
  | k + 1, i, w, a, sum, R, h, hs, hR, hw, ha, hst, hsum, hi, hlt => by
    show f4s1 (f4L k) l start sum (i : Int) (mkc m w s a) = _
    unfold f4s1
    simp only [bif_dec, heads, Option.bind_some]
    refine ite_to (fun c1 => ?_) (fun _ => rfl)
    have hil : i < l.length := by omega
    rw [getI_nat hil]
    simp only [Option.bind_some]
    generalize l[i] = e
    obtain ⟨n0, n1⟩ := num_eq e
    generalize IntKind.i64.wrap (Int.tmod (IntKind.u64.wrap e) 100000) = n at n0 n1 ⊢
    rw [acked h ⟨n0, by omega⟩]
    obtain ⟨w', a', R', e', h', k1, k2, k3, k4, k5⟩ := step h hs n0 n1 hR hw ha hst h1
    rw [e']
    obtain ⟨q1, q2, q3, q4, q5, q6, q7, q8⟩ := h
    obtain ⟨q1', q2', q3', q4', q5', q6', q7', q8'⟩ := h'
    have hRs : 0 ≤ R * start := Int.mul_nonneg hR (by omega)
    have hRs' : 0 ≤ R' * start := Int.mul_nonneg k3 (by omega)
    simp only [Option.bind_some, bif_bne]
    rw [if_pos trivial, if_neg (by omega), w64 (n := w + m) (by omega) (by omega), if_neg (by omega), check_mk ⟨q1', q2', q3', q4', q5', q6', q7', q8'⟩]
    simp only [Option.bind_some]
    rw [if_pos trivial, if_neg (by omega), if_neg (by omega), w64 (n := w' - start) (by omega) (by omega), w64 (n := sum + n) (by omega) (by omega), Int.tdiv_eq_ediv_of_nonneg (show 0 ≤ w' - start by omega), Int.tdiv_eq_ediv_of_nonneg (show 0 ≤ sum + n by omega)]
    have d1 : (w' - start) / m ≤ R' := Int.ediv_le_of_le_mul (by omega) (by omega)
    have d2 : R' ≤ (sum + n) / start := Int.le_ediv_of_mul_le (by omega) (by omega)
    have d3 : 0 ≤ (w' - start) / m := Int.ediv_nonneg (by omega) (by omega)
    have d4 : (w' - start) / m ≤ w' - start := Int.ediv_le_self _ (by omega)
    have d5 : (sum + n) / start ≤ sum + n := Int.ediv_le_self _ (by omega)
    rw [w64 (n := (w' - start) / m) (by omega) (by omega), w64 (n := (sum + n) / start) (by omega) (by omega), if_neg (by omega), w64 (n := (i : Int) + 1) (by omega) (by omega)]
    have := loop l h200 h1 k (i + 1) w' a' (sum + n) R' ⟨q1', q2', q3', q4', q5', q6', q7', q8'⟩ (by omega) k3 k4 k5 (by omega) (by omega) (by omega) (by omega)
    rw [show ((i + 1 : Nat) : Int) = (i : Int) + 1 by omega] at this
    exact this

theorem plain (c : TCc) (l : List Int) : f4 c l = some (true, ()) := by
  unfold f4 f4e
  rcases check_cases c with ⟨hc, e⟩ | ⟨hc, e⟩
  · obtain ⟨m, w, s, a, rfl, h⟩ := fit_ex hc
    rw [e]
    simp only [Option.bind_some, bif_bne, bif_dec, heads]
    rw [if_pos trivial]
    refine ite_to (fun _ => rfl) (fun c1 => ?_)
    refine ite_to (fun _ => rfl) (fun c2 => ?_)
    refine ite_to (fun _ => rfl) (fun c3 => ?_)
    have h' := h
    obtain ⟨q1, q2, q3, q4, q5, q6, q7, q8⟩ := h'
    exact loop l (by omega) (by omega) _ 0 w a a 0 h (by omega) (by omega) (by omega) (by omega) (by omega) (by omega) (by omega) (by omega)
  · rw [e]
    simp [heads]

theorem pure_law (x : Den s4.ps) (_ : DenFits s4.ps x) : s4.F x = some (true, ()) := plain x.1 x.2.1
end Go.Proofs.Ytgghbpijmdljgaa.renoSlow
