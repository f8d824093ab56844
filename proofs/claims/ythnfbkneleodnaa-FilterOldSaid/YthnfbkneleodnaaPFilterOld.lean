/-
  FilterOld, in plain words.
-/
import Derived.Test.YthnfbkneleodnaaG
import Derived.Test.YthnfbkneleodnaaVu
import Derived.Test.YthnfbkneleodnaaQ
namespace Go.Proofs.Ythnfbkneleodnaa.filterOld
open Go Go.Proofs.Ythnfbkneleodnaa.Vx Go.Proofs.Ythnfbkneleodnaa.Gn Go.Proofs.Ythnfbkneleodnaa.Fn Go.Proofs.Ythnfbkneleodnaa.Qn
set_option linter.unusedVariables false
set_option linter.unusedSimpArgs false

theorem loop (l : L) (at' v w : Int) (hl : (l.length + 1) * 16 ≤ 140737488355328) (ho : Ok l true) (ha : Arg l at' v w) : ∀ (k i : Nat) (pre : L), i ≤ l.length → l.length - i < k → pre.length ≤ i →
    f3L k l at' v w (pre ++ (l.drop i).filter (stays at' v w true) ++ [(at', v)]) (pre.length : Nat) (i : Nat) = some (true, ())
  | 0, i, pre, hi, hk, hp => by omega
  | k + 1, i, pre, hi, hk, hp => by
    show f3s1 (f3L k) l at' v w (pre ++ (l.drop i).filter (stays at' v w true) ++ [(at', v)]) (pre.length : Nat) (i : Nat) = _
    unfold f3s1
    by_cases c : i < l.length
    · have gi : getI l (i : Int) = some (g l i) := getI_g (by omega) (by omega)
      have w1 : IntKind.i64.wrap ((i : Int) + 1) = ((i + 1 : Nat) : Int) := by rw [w64 (by omega) (by omega)]; omega
      have w2 : IntKind.i64.wrap ((pre.length : Int) + 1) = ((pre.length + 1 : Nat) : Int) := by rw [w64 (by omega) (by omega)]; omega
      have hm := (ho i (by omega)).1
      unfold May at hm
      have ha' := ha
      unfold Arg May at ha'
      have hd : l.drop i = g l i :: l.drop (i + 1) := by rw [g_at c]; exact List.drop_eq_getElem_cons c
      simp only [bif_dec, bif_not, gi, Option.bind_some, w1, w2]
      rw [if_pos (by omega), w64 (n := (g l i).1 + w) (by omega) (by omega), hd, List.filter_cons]
      have no : ¬ (at' ≤ (g l i).1 + w ∧ v < (g l i).2) → f3L k l at' v w (pre ++ (if stays at' v w true (g l i) = true then g l i :: (l.drop (i + 1)).filter (stays at' v w true) else (l.drop (i + 1)).filter (stays at' v w true)) ++ [(at', v)]) (pre.length : Nat) ((i + 1 : Nat) : Int) = some (true, ()) := by
        intro h
        rw [if_neg (fun h' => h (stays_iff.1 h'))]
        exact loop l at' v w hl ho ha k (i + 1) pre (by omega) (by omega) (by omega)
      refine ite_to (fun h1 => ?_) (fun h1 => no (by omega))
      by_cases h2 : (g l i).2 > v
      case neg =>
        simp only [if_neg h2]
        exact no (by omega)
      simp only [if_pos h2]
      rw [if_pos (show stays at' v w true (g l i) = true from stays_iff.2 ⟨h1, h2⟩)]
      have hlen : pre.length < (pre ++ g l i :: (l.drop (i + 1)).filter (stays at' v w true) ++ [(at', v)]).length := by simp
      rw [if_neg (by omega), getI_g (by omega) (by omega), show ((pre.length : Nat) : Int).toNat = pre.length by omega, g_at hlen]
      have hget : (pre ++ g l i :: (l.drop (i + 1)).filter (stays at' v w true) ++ [(at', v)])[pre.length] = g l i := by simp
      rw [hget]
      simp only [Option.bind_some, beq_self_eq_true, Bool.and_self, cond_true]
      have := loop l at' v w hl ho ha k (i + 1) (pre ++ [g l i]) (by omega) (by omega) (by simp; omega)
      rw [List.length_append] at this
      simpa using this
    · have e : l.drop i = [] := by rw [List.drop_eq_nil_iff]; omega
      rw [e]
      simp only [List.filter_nil, List.append_nil, bif_dec, bif_beq]
      have hlen : pre.length < (pre ++ [(at', v)]).length := by simp
      have hlen' : (pre ++ [(at', v)]).length = pre.length + 1 := by simp
      rw [if_neg (by omega), w64 (by omega) (by omega), if_pos (by omega), getI_g (by omega) (by omega), show ((pre.length : Nat) : Int).toNat = pre.length by omega, g_at hlen]
      have hget : (pre ++ [(at', v)])[pre.length] = (at', v) := by simp
      rw [hget]
      simp [heads]

theorem plain (l : L) (at' v w : Int) (hl : (l.length + 1) * 16 ≤ 140737488355328) : f3 l at' v w = some (true, ()) := by
  unfold f3 f3e
  by_cases h : Ok l true ∧ Arg l at' v w
  · rw [put_ok hl h.1 h.2]
    simp only [Option.bind_some, bif_bne]
    rw [if_pos trivial]
    exact loop l at' v w hl h.1 h.2 _ 0 [] (by omega) (by omega) (by simp)
  · rw [put_bad hl h]
    simp [heads]

theorem pure_law (x : Den s3.ps) (hf : DenFits s3.ps x) : s3.F x = some (true, ()) := plain x.1 x.2.1 x.2.2.1 x.2.2.2.1 (size hf.1.1)
end Go.Proofs.Ythnfbkneleodnaa.filterOld
