/-
  FilterTurns, in plain words.
-/
import Derived.Test.YthnfbkneleodnaaG
import Derived.Test.YthnfbkneleodnaaVu
import Derived.Test.YthnfbkneleodnaaQ
namespace Go.Proofs.Ythnfbkneleodnaa.filterTurns
open Go Go.Proofs.Ythnfbkneleodnaa.Vx Go.Proofs.Ythnfbkneleodnaa.Gn Go.Proofs.Ythnfbkneleodnaa.Fn Go.Proofs.Ythnfbkneleodnaa.Qn
set_option linter.unusedVariables false
set_option linter.unusedSimpArgs false

/-- An entry turned round. -/
def flip (e : Int × Int) : Int × Int := (e.1, 1000 - e.2)

theorem put_flip (a : L) (at' v w : Int) : put (a.map flip) at' (1000 - v) w false = (put a at' v w true).map flip := by
  unfold put
  rw [List.filter_map, List.map_append]
  congr 1
  congr 1
  apply List.filter_congr
  intro e _
  show stays at' (1000 - v) w false (flip e) = stays at' v w true e
  rw [Bool.eq_iff_iff, stays_iff, stays_iff]
  simp only [q, cond_true, cond_false, flip]
  omega

theorem g_map {a : L} {i : Nat} (h : i < a.length) : g (a.map flip) i = flip (g a i) := by
  rw [g_at h, g_at (by rw [List.length_map]; exact h), List.getElem_map]

theorem inner (l : L) (w at' : Int) (i : Nat) (x : L) (hx : Ok x true) (hx' : x.length ≤ 201) (N : Nat) (next : ∀ k, N ≤ k → (f6L k).1 l w x (x.map flip) at' (IntKind.i64.wrap ((i : Int) + 1)) = some (true, ())) :
    ∀ (k j : Nat), j ≤ x.length → N + (x.length - j) < k → (f6L k).2 l w at' (i : Nat) x (x.map flip) (j : Nat) = some (true, ())
  | 0, j, hj, hk => by omega
  | k + 1, j, hj, hk => by
    show f6s2 (f6L k).1 (f6L k).2 l w at' (i : Nat) x (x.map flip) (j : Nat) = _
    unfold f6s2
    simp only [bif_dec]
    refine ite_to (fun c => ?_) (fun c => next k (by omega))
    have hm := (hx j (by omega)).1
    unfold May at hm
    rw [getI_g (by omega) (by omega), getI_g (l := x.map flip) (by omega) (by rw [List.length_map]; omega), show ((j : Nat) : Int).toNat = j by omega, g_map (by omega)]
    simp only [Option.bind_some, bif_bne, flip]
    rw [if_pos trivial, w64 (n := 1000 - (1000 - (g x j).2)) (by omega) (by omega), if_pos (by omega), w64 (by omega) (by omega), show (j : Int) + 1 = ((j + 1 : Nat) : Int) by omega]
    exact inner l w at' i x hx hx' N next k (j + 1) (by omega) (by omega)

theorem outer (l : L) (w : Int) (hl : l.length ≤ 200) (hw : 0 ≤ w ∧ w ≤ 1125899906842624) : ∀ (d k i : Nat) (a : L) (at' : Int), i + d = l.length → d * 1000 < k → Ok a true → Ok (a.map flip) false → a.length ≤ i → 0 ≤ at' → at' ≤ 1099511627777 * i → (∀ e ∈ a, e.1 ≤ at') →
    (f6L k).1 l w a (a.map flip) at' (i : Nat) = some (true, ()) := by
 intro d
 induction d with
 | zero =>
   intro k i a at' hi hk h1 h2 h3 h4 h5 h6
   cases k with
   | zero => omega
   | succ k =>
    show f6s1 (f6L k).1 (f6L k).2 l w a (a.map flip) at' (i : Nat) = _
    unfold f6s1
    simp only [bif_dec, heads, Option.bind_some]
    rw [if_neg (by omega)]
 | succ d ih =>
   intro k i a at' hi hk h1 h2 h3 h4 h5 h6
   cases k with
   | zero => omega
   | succ k =>
    show f6s1 (f6L k).1 (f6L k).2 l w a (a.map flip) at' (i : Nat) = _
    unfold f6s1
    have gi : getI l (i : Int) = some (g l i) := getI_g (by omega) (by omega)
    simp only [bif_dec, heads, gi, Option.bind_some]
    rw [if_pos (by omega)]
    refine ite_to (fun _ => rfl) (fun c1 => ?_)
    refine ite_to (fun _ => rfl) (fun c2 => ?_)
    refine ite_to (fun _ => rfl) (fun c3 => ?_)
    refine ite_to (fun _ => rfl) (fun c4 => ?_)
    generalize g l i = e at *
    rw [w64 (n := at' + e.1) (by omega) (by omega), w64 (n := at' + e.1 + 1) (by omega) (by omega), w64 (n := 1000 - e.2) (by omega) (by omega)]
    generalize ht : at' + e.1 + 1 = t
    have last : 0 < a.length → (g a (a.length - 1)).1 ≤ at' := by
      intro h
      rw [g_at (by omega)]
      exact h6 _ (List.getElem_mem _)
    have a1 : Arg a t e.2 w := by
      refine ⟨?_, hw.1, hw.2, fun h => ?_⟩
      · unfold May; simp only; omega
      · have := last h; omega
    have a2 : Arg (a.map flip) t (1000 - e.2) w := by
      refine ⟨?_, hw.1, hw.2, fun h => ?_⟩
      · unfold May; simp only; omega
      · rw [List.length_map] at h ⊢
        rw [g_map (by omega)]
        have := last h
        show (g a (a.length - 1)).1 < t
        omega
    rw [put_ok (by omega) h1 a1, put_ok (by rw [List.length_map]; omega) h2 a2]
    have f1 := put_fine h1 a1
    have f2 := put_fine h2 a2
    have len := put_len a t e.2 w true
    rw [put_flip] at f2 ⊢
    simp only [Option.bind_some, bif_bne, List.length_map]
    rw [if_pos trivial, if_pos trivial, if_pos trivial]
    have mem : ∀ e' ∈ put a t e.2 w true, e'.1 ≤ t := by
      intro e' he'
      rcases put_mem.1 he' with h | h
      · have := h6 e' h.1; omega
      · rw [h]; exact Int.le_refl t
    generalize put a t e.2 w true = x at *
    obtain ⟨N, hN⟩ : ∃ N, N = d * 1000 + 1 := ⟨_, rfl⟩
    refine inner l w t i x f1 (by omega) N (fun k' hk' => ?_) k 0 (by omega) (by omega)
    rw [w64 (by omega) (by omega), show (i : Int) + 1 = ((i + 1 : Nat) : Int) by omega]
    have hk2 : d * 1000 < k' := by rw [hN] at hk'; exact hk'
    exact ih k' (i + 1) x t (by omega) hk2 f1 f2 (by omega) (by omega) (by omega) mem

theorem plain (l : L) (w : Int) : f6 l w = some (true, ()) := by
  unfold f6 f6e
  simp only [bif_dec, heads, Option.bind_some]
  refine ite_to (fun _ => rfl) (fun c1 => ?_)
  refine ite_to (fun _ => rfl) (fun c2 => ?_)
  refine ite_to (fun _ => rfl) (fun c3 => ?_)
  exact outer l w (by omega) (by omega) l.length _ 0 [] 0 (by omega) (by omega) (fun i hi => absurd hi (Nat.not_lt_zero i)) (fun i hi => absurd hi (Nat.not_lt_zero i)) (by simp) (by omega) (by omega) (fun e he => absurd he (List.not_mem_nil))

theorem pure_law (x : Den s6.ps) (hf : DenFits s6.ps x) : s6.F x = some (true, ()) := plain x.1 x.2.1
end Go.Proofs.Ythnfbkneleodnaa.filterTurns
