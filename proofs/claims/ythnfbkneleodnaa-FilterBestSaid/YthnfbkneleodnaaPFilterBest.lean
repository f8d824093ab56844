/-
  FilterBest, in plain words.
-/
import Derived.Test.YthnfbkneleodnaaG
import Derived.Test.YthnfbkneleodnaaVu
import Derived.Test.YthnfbkneleodnaaQ
namespace Go.Proofs.Ythnfbkneleodnaa.filterBest
open Go Go.Proofs.Ythnfbkneleodnaa.Vx Go.Proofs.Ythnfbkneleodnaa.Gn Go.Proofs.Ythnfbkneleodnaa.Fn Go.Proofs.Ythnfbkneleodnaa.Qn
set_option linter.unusedVariables false
set_option linter.unusedSimpArgs false

/-- The time of a place. -/
def tm (ts : List Int) (i : Nat) : Int := ts.getD i 0

theorem tm_at {l : List Int} {i : Nat} (h : i < l.length) : tm l i = l[i] := by
  unfold tm
  simp [List.getD_eq_getElem?_getD, h]

theorem getI_tm {l : List Int} {i : Int} (h0 : 0 ≤ i) (h1 : i < l.length) : getI l i = some (tm l i.toNat) := by
  rw [getI_at h0 (by omega), tm_at (by omega)]

theorem tm_old {l : List Int} {t : Int} {i : Nat} (h : i < l.length) : tm (l ++ [t]) i = tm l i := by
  rw [tm_at h, tm_at (by rw [List.length_append]; omega), List.getElem_append_left h]

theorem tm_new {l : List Int} {t : Int} : tm (l ++ [t]) l.length = t := by
  rw [tm_at (by simp)]; simp

/-- What is known at a time. -/
structure Inv (l : L) (w : Int) (m : Bool) (f : L) (at' : Int) (n : Nat) (ts : List Int) : Prop where
  len : ts.length = n
  ok : Ok f m
  flen : f.length ≤ n
  c1 : ∀ e ∈ f, ∃ k, k < n ∧ e = (tm ts k, (g l k).2)
  c2 : ∀ k, k < n → at' ≤ tm ts k + w → ∃ e ∈ f, tm ts k ≤ e.1 ∧ q m (g l k).2 ≤ q m e.2
  old : ∀ k, k < n → 0 ≤ tm ts k ∧ tm ts k ≤ at'

theorem inv_put {l : L} {w : Int} {m : Bool} {f : L} {at' : Int} {n : Nat} {ts : List Int} (h : Inv l w m f at' n ts) {t : Int} (ht : at' < t) (ht0 : 0 ≤ t) (ha : Arg f t (g l n).2 w) (hw : 0 ≤ w) : Inv l w m (put f t (g l n).2 w m) t (n + 1) (ts ++ [t]) := by
  have hlen := h.len
  have tn : tm (ts ++ [t]) n = t := by rw [← hlen]; exact tm_new
  have told : ∀ k, k < n → tm (ts ++ [t]) k = tm ts k := fun k hk => tm_old (by omega)
  refine ⟨by simp [hlen], put_fine h.ok ha, ?_, ?_, ?_, ?_⟩
  · have := put_len f t (g l n).2 w m
    have := h.flen
    omega
  · intro e he
    rcases put_mem.1 he with he | he
    · obtain ⟨k, hk, e'⟩ := h.c1 e he.1
      exact ⟨k, by omega, by rw [told k hk]; exact e'⟩
    · exact ⟨n, by omega, by rw [tn]; exact he⟩
  · intro k hk hkt
    by_cases e : k = n
    · rw [e, tn]
      exact ⟨(t, (g l n).2), put_mem.2 (.inr rfl), Int.le_refl _, Int.le_refl _⟩
    · rw [told k (by omega)] at hkt ⊢
      obtain ⟨e', he', q1, q2⟩ := h.c2 k (by omega) (by omega)
      by_cases b : q m (g l n).2 < q m e'.2
      · exact ⟨e', put_mem.2 (.inl ⟨he', by omega, b⟩), q1, q2⟩
      · have := (h.old k (by omega)).2
        exact ⟨(t, (g l n).2), put_mem.2 (.inr rfl), by show tm ts k ≤ t; omega, by show _ ≤ q m (g l n).2; omega⟩
  · intro k hk
    by_cases e : k = n
    · rw [e, tn]; omega
    · rw [told k (by omega)]
      have := h.old k (by omega)
      omega

theorem inner (l : L) (w : Int) (m : Bool) (f : L) (at' : Int) (i : Nat) (ts : List Int) (v : Int) (hw : 0 ≤ w ∧ w ≤ 1125899906842624) (hat : at' ≤ 1125899906842624) (hil : i < l.length) (hi : i ≤ 300) (h : Inv l w m f at' (i + 1) ts) (hne : 0 < f.length) (hin : ∀ e ∈ f, at' ≤ e.1 + w) (hv : v = (g l i).2) (ti : tm ts i = at') (N : Nat)
    (next : ∀ k, N ≤ k → (f5L k).1 l w m f at' (IntKind.i64.wrap ((i : Int) + 1)) ts = some (true, ())) :
    ∀ (k j : Nat) (best : Int), j ≤ i + 1 → N + (i + 1 - j) < k → q m best ≤ q m (g f 0).2 → q m v ≤ q m best → (∀ p, p < j → at' ≤ tm ts p + w → q m (g l p).2 ≤ q m best) →
    (f5L k).2 l w m f at' (i : Nat) best (j : Nat) ts = some (true, ())
  | 0, j, best, hj, hk, h1, h2, h3 => by omega
  | k + 1, j, best, hj, hk, h1, h2, h3 => by
    have hlen := h.len
    show f5s2 (f5L k).1 (f5L k).2 l w m f at' (i : Nat) best (j : Nat) ts = _
    unfold f5s2
    by_cases c : j ≤ i
    · have ho := h.old j (by omega)
      have gt : getI ts (j : Int) = some (tm ts j) := getI_tm (by omega) (by omega)
      have gl : getI l (j : Int) = some (g l j) := getI_g (by omega) (by omega)
      have wj : IntKind.i64.wrap ((j : Int) + 1) = ((j + 1 : Nat) : Int) := by rw [w64 (by omega) (by omega)]; omega
      simp only [bif_dec, bif_not, gt, gl, Option.bind_some, wj]
      rw [if_pos (by omega), w64 (by omega) (by omega)]
      have keep : (at' ≤ tm ts j + w → q m (g l j).2 ≤ q m best) → (f5L k).2 l w m f at' (i : Nat) best ((j + 1 : Nat) : Int) ts = some (true, ()) := by
        intro hk'
        refine inner l w m f at' i ts v hw hat hil hi h hne hin hv ti N next k (j + 1) best (by omega) (by omega) h1 h2 (fun p hp hpt => ?_)
        by_cases e : p = j
        · rw [e]; exact hk' (by rw [← e]; exact hpt)
        · exact h3 p (by omega) hpt
      have take : at' ≤ tm ts j + w → q m best ≤ q m (g l j).2 → (f5L k).2 l w m f at' (i : Nat) (g l j).2 ((j + 1 : Nat) : Int) ts = some (true, ()) := by
        intro hw' hb
        refine inner l w m f at' i ts v hw hat hil hi h hne hin hv ti N next k (j + 1) (g l j).2 (by omega) (by omega) ?_ (by omega) (fun p hp hpt => ?_)
        · obtain ⟨e, he, q1, q2⟩ := h.c2 j (by omega) hw'
          obtain ⟨r, hr, rfl⟩ := mem_g he
          have := (order' h.ok (Nat.zero_le r) hr).2
          omega
        · by_cases e : p = j
          · rw [e]; exact Int.le_refl _
          · have := h3 p (by omega) hpt; omega
      refine ite_to (fun c1 => ?_) (fun c1 => keep (fun c2 => absurd c2 (by omega)))
      cases m <;> simp only [cond_true, cond_false]
      all_goals
        refine ite_to (fun c2 => ?_) (fun c2 => ?_)
        · exact take (by omega) (by simp only [q, cond_true, cond_false]; omega)
        · exact keep (fun _ => by simp only [q, cond_true, cond_false]; omega)
    · have hj : j = i + 1 := by omega
      rw [(best_eq f).1]
      simp only [bif_dec, bif_not, bif_bne, Option.bind_some]
      rw [if_neg (by omega), if_pos hne, if_pos hne, if_pos ?_]
      · exact next k (by omega)
      · obtain ⟨k0, hk0, e0⟩ := h.c1 (g f 0) (by rw [g_at hne]; exact List.getElem_mem _)
        have w0 := hin (g f 0) (by rw [g_at hne]; exact List.getElem_mem _)
        rw [e0] at w0
        have := h3 k0 (by omega) w0
        rw [e0] at h1 ⊢
        exact q_inj (m := m) (by simp only at h1 this ⊢; omega)

theorem outer (l : L) (w : Int) (m : Bool) (hl : l.length ≤ 300) (hw : 0 ≤ w ∧ w ≤ 1125899906842624) : ∀ (d k i : Nat) (f : L) (at' : Int) (ts : List Int), i + d = l.length → d * 1000 < k → Inv l w m f at' i ts → 0 ≤ at' → at' ≤ 1099511627777 * i →
    (f5L k).1 l w m f at' (i : Nat) ts = some (true, ()) := by
 intro d
 induction d with
 | zero =>
   intro k i f at' ts hi hk h h4 h5
   cases k with
   | zero => omega
   | succ k =>
    show f5s1 (f5L k).1 (f5L k).2 l w m f at' (i : Nat) ts = _
    unfold f5s1
    simp only [bif_dec, heads, Option.bind_some]
    rw [if_neg (by omega)]
 | succ d ih =>
   intro k i f at' ts hi hk h h4 h5
   cases k with
   | zero => omega
   | succ k =>
    have hlen := h.len
    have hflen := h.flen
    show f5s1 (f5L k).1 (f5L k).2 l w m f at' (i : Nat) ts = _
    unfold f5s1
    have gi : getI l (i : Int) = some (g l i) := getI_g (by omega) (by omega)
    simp only [bif_dec, heads, gi, Option.bind_some]
    rw [if_pos (by omega)]
    refine ite_to (fun _ => rfl) (fun c1 => ?_)
    refine ite_to (fun _ => rfl) (fun c2 => ?_)
    refine ite_to (fun _ => rfl) (fun c3 => ?_)
    refine ite_to (fun _ => rfl) (fun c4 => ?_)
    rw [if_pos (by omega), w64 (n := at' + (g l i).1) (by omega) (by omega), w64 (n := at' + (g l i).1 + 1) (by omega) (by omega)]
    generalize ht : at' + (g l i).1 + 1 = t
    have a1 : Arg f t (g l i).2 w := by
      refine ⟨?_, hw.1, hw.2, fun hp => ?_⟩
      · unfold May; simp only; omega
      · obtain ⟨k0, hk0, e0⟩ := h.c1 (g f (f.length - 1)) (by rw [g_at (by omega)]; exact List.getElem_mem _)
        rw [e0]
        have := (h.old k0 hk0).2
        show tm ts k0 < t
        omega
    rw [put_ok (by omega) h.ok a1]
    have len := put_len f t (g l i).2 w m
    have h' := inv_put h (show at' < t by omega) (by omega) a1 hw.1
    have hin : ∀ e ∈ put f t (g l i).2 w m, t ≤ e.1 + w := by
      intro e he
      rcases put_mem.1 he with he | he
      · exact he.2.1
      · rw [he]; show t ≤ t + w; omega
    have hmem : (t, (g l i).2) ∈ put f t (g l i).2 w m := put_mem.2 (.inr rfl)
    have hti : tm (ts ++ [t]) i = t := by rw [← hlen]; exact tm_new
    generalize put f t (g l i).2 w m = x at *
    simp only [Option.bind_some, bif_bne]
    rw [if_pos trivial, (check_ok (by omega) h'.ok).1]
    simp only [Option.bind_some]
    rw [if_pos trivial]
    have hne : 0 < x.length := List.length_pos_of_mem hmem
    obtain ⟨N, hN⟩ : ∃ N, N = d * 1000 + 1 := ⟨_, rfl⟩
    refine inner l w m x t i (ts ++ [t]) (g l i).2 hw (by omega) (by omega) (by omega) h' hne hin rfl hti N (fun k' hk' => ?_) k 0 (g l i).2 (by omega) (by omega) ?_ (Int.le_refl _) (fun p hp => absurd hp (Nat.not_lt_zero p))
    · rw [w64 (by omega) (by omega), show (i : Int) + 1 = ((i + 1 : Nat) : Int) by omega]
      have hk2 : d * 1000 < k' := by rw [hN] at hk'; exact hk'
      exact ih k' (i + 1) x t (ts ++ [t]) (by omega) hk2 h' (by omega) (by omega)
    · obtain ⟨r, hr, e⟩ := mem_g hmem
      have := (order' h'.ok (Nat.zero_le r) hr).2
      rw [← e] at this
      exact this

theorem plain (l : L) (w : Int) (m : Bool) : f5 l w m = some (true, ()) := by
  unfold f5 f5e
  simp only [bif_dec, heads, Option.bind_some]
  refine ite_to (fun _ => rfl) (fun c1 => ?_)
  refine ite_to (fun _ => rfl) (fun c2 => ?_)
  refine ite_to (fun _ => rfl) (fun c3 => ?_)
  refine outer l w m (by omega) (by omega) l.length _ 0 [] 0 [] (by omega) (by omega) ⟨rfl, fun i hi => absurd hi (Nat.not_lt_zero i), by simp, fun e he => absurd he (List.not_mem_nil), fun k hk => absurd hk (Nat.not_lt_zero k), fun k hk => absurd hk (Nat.not_lt_zero k)⟩ (by omega) (by omega)

theorem pure_law (x : Den s5.ps) (hf : DenFits s5.ps x) : s5.F x = some (true, ()) := plain x.1 x.2.1 x.2.2.1
end Go.Proofs.Ythnfbkneleodnaa.filterBest
