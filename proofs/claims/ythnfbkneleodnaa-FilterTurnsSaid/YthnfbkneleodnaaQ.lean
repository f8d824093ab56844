/-
  Filter: what its functions come to, in plain words.
-/
import Derived.Test.YthnfbkneleodnaaF
import Derived.Test.YthnfbkneleodnaaVw
import Derived.KernelRfl
namespace Go.Proofs.Ythnfbkneleodnaa.Qn
open Go Go.Proofs.Ythnfbkneleodnaa.Vx Go.Proofs.Ythnfbkneleodnaa.Fn
set_option linter.unusedVariables false
set_option linter.unusedSimpArgs false

theorem heads : f8 = some (true, ()) := by kernel_rfl

abbrev L := List (Int × Int)

/-- The entry at a place. -/
def g (l : L) (i : Nat) : Int × Int := l.getD i (0, 0)

theorem g_at {l : L} {i : Nat} (h : i < l.length) : g l i = l[i] := by
  unfold g
  simp [List.getD_eq_getElem?_getD, h]

theorem getI_g {l : L} {i : Int} (h0 : 0 ≤ i) (h1 : i < l.length) : getI l i = some (g l i.toNat) := by
  rw [getI_at h0 (by omega), g_at (by omega)]

/-- A value, turned round for the least. -/
def q (most : Bool) (v : Int) : Int := bif most then v else -v

def May (e : Int × Int) : Prop := 0 ≤ e.1 ∧ e.1 ≤ 1125899906842624 ∧ 0 ≤ e.2 ∧ e.2 ≤ 1152921504606846976
instance (e : Int × Int) : Decidable (May e) := by unfold May; infer_instance

theorem may_eq (e : Int × Int) : f15 e = some (decide (May e), ()) := by
  unfold f15
  simp only [bif_dec]
  repeat' (refine ite_to (fun _ => ?_) (fun _ => ?_))
  all_goals
    refine congrArg some (congrArg (fun b => (b, ())) ?_)
    rw [Bool.eq_iff_iff]
    simp only [decide_eq_true_eq, Bool.false_eq_true, false_iff]
    unfold May
    omega

theorem beats_eq (a b : Int) (m : Bool) : f16 a b m = some (decide (q m b ≤ q m a), ()) := by
  unfold f16 q
  cases m <;> simp only [bif_dec, cond_true, cond_false, Bool.not_true, Bool.not_false]
  all_goals
    repeat' (refine ite_to (fun _ => ?_) (fun _ => ?_))
    all_goals
      refine congrArg some (congrArg (fun b => (b, ())) ?_)
      rw [Bool.eq_iff_iff]
      simp only [decide_eq_true_eq, Bool.false_eq_true, false_iff, true_iff]
      try omega

theorem time_eq (t : Int) : f17 t = some (decide (0 ≤ t ∧ t ≤ 1125899906842624), ()) := by
  unfold f17
  simp only [bif_dec]
  repeat' (refine ite_to (fun _ => ?_) (fun _ => ?_))
  all_goals
    refine congrArg some (congrArg (fun b => (b, ())) ?_)
    rw [Bool.eq_iff_iff]
    simp only [decide_eq_true_eq, Bool.false_eq_true, false_iff]
    omega

theorem value_eq (t : Int) : f18 t = some (decide (0 ≤ t ∧ t ≤ 1152921504606846976), ()) := by
  unfold f18
  simp only [bif_dec]
  repeat' (refine ite_to (fun _ => ?_) (fun _ => ?_))
  all_goals
    refine congrArg some (congrArg (fun b => (b, ())) ?_)
    rw [Bool.eq_iff_iff]
    simp only [decide_eq_true_eq, Bool.false_eq_true, false_iff]
    omega

/-- An entry of a row is right. -/
def Fine (l : L) (m : Bool) (i : Nat) : Prop := May (g l i) ∧ (0 < i → (g l (i - 1)).1 < (g l i).1 ∧ q m (g l i).2 < q m (g l (i - 1)).2)
/-- Entries that may be. -/
def Ok (l : L) (m : Bool) : Prop := ∀ i, i < l.length → Fine l m i

def Rest (l : L) (m : Bool) (i : Nat) : Prop := ∀ j, i ≤ j → j < l.length → Fine l m j

open Classical in
theorem check_loop (l : L) (m : Bool) (hl : l.length * 16 ≤ 140737488355328) : ∀ (k i : Nat), i ≤ l.length → l.length - i < k →
    f13L k l m l (l.length : Nat) (i : Nat) = some (if Rest l m i then 0 else 2, ()) ∧ f14L k l m (i : Nat) = some (if Rest l m i then 0 else 2, ())
  | 0, i, hi, hk => by omega
  | k + 1, i, hi, hk => by
    by_cases hil : i < l.length
    · have ih := check_loop l m hl k (i + 1) (by omega) (by omega)
      have hnext : Fine l m i → ((if Rest l m i then (0 : Int) else 2) = if Rest l m (i + 1) then 0 else 2) := by
        intro hf
        by_cases h : Rest l m (i + 1)
        · rw [if_pos h, if_pos]
          intro j hj hjl
          by_cases e : j = i
          · rw [e]; exact hf
          · exact h j (by omega) hjl
        · rw [if_neg h, if_neg]
          intro h'
          exact h (fun j hj hjl => h' j (by omega) hjl)
      have hbad : ¬ Fine l m i → ((if Rest l m i then (0 : Int) else 2) = 2) := by
        intro hf
        rw [if_neg]
        intro h
        exact hf (h i (Nat.le_refl _) hil)
      have gi : getI l (i : Int) = some (g l i) := getI_g (by omega) (by omega)
      have w1 : IntKind.i64.wrap ((i : Int) + 1) = ((i + 1 : Nat) : Int) := by rw [w64 (by omega) (by omega)]; omega
      have w2 : IntKind.i64.wrap ((i : Int) - 1) = (i : Int) - 1 := w64 (by omega) (by omega)
      constructor
      · show f13s1 (f13L k) l m l (l.length : Nat) (i : Nat) = _
        unfold f13s1
        simp only [bif_dec, bif_not, gi, Option.bind_some, may_eq, beats_eq, w1, w2]
        rw [if_pos (by omega)]
        refine ite_to (fun h1 => ?_) (fun h1 => ?_)
        · refine ite_to (fun h2 => ?_) (fun h2 => ?_)
          · rw [getI_g (by omega) (by omega), show ((i : Int) - 1).toNat = i - 1 by omega]
            simp only [Option.bind_some]
            refine ite_to (fun h3 => ?_) (fun h3 => ?_)
            · rw [hbad (fun h => absurd (h.2 (by omega)).1 (by omega))]
            · refine ite_to (fun h4 => ?_) (fun h4 => ?_)
              · rw [hbad (fun h => absurd (h.2 (by omega)).2 (by omega))]
              · rw [hnext ⟨h1, fun _ => ⟨by omega, by omega⟩⟩]
                exact ih.1
          · rw [hnext ⟨h1, fun _ => by omega⟩]
            exact ih.1
        · rw [hbad (fun h => h1 h.1)]
      · show f14s1 (f14L k) l m (i : Nat) = _
        unfold f14s1
        simp only [bif_dec, bif_not, gi, Option.bind_some, time_eq, value_eq, w1, w2]
        rw [if_pos (by omega)]
        refine ite_to (fun h1 => ?_) (fun h1 => ?_)
        · refine ite_to (fun h2 => ?_) (fun h2 => ?_)
          · by_cases h3 : 0 < i
            · rw [if_pos (by omega), getI_g (by omega) (by omega), show ((i : Int) - 1).toNat = i - 1 by omega]
              simp only [Option.bind_some]
              refine ite_to (fun h4 => ?_) (fun h4 => ?_)
              · rw [hbad (fun h => absurd (h.2 (by omega)).1 (by omega))]
              · rw [if_pos (by omega)]
                cases m <;> simp only [cond_true, cond_false]
                all_goals
                  refine ite_to (fun h5 => ?_) (fun h5 => ?_)
                  · rw [hbad (fun h => absurd (h.2 (by omega)).2 (by simp only [q, cond_true, cond_false]; omega))]
                  · rw [hnext ⟨⟨h1.1, h1.2, h2.1, h2.2⟩, fun _ => ⟨by omega, by simp only [q, cond_true, cond_false]; omega⟩⟩]
                    exact ih.2
            · rw [if_neg (by omega), if_neg (by omega), hnext ⟨⟨h1.1, h1.2, h2.1, h2.2⟩, fun _ => by omega⟩]
              exact ih.2
          · rw [hbad (fun h => h2 ⟨h.1.2.2.1, h.1.2.2.2⟩)]
        · rw [hbad (fun h => h1 ⟨h.1.1, h.1.2.1⟩)]
    · have hr : Rest l m i := fun j hj hjl => by omega
      rw [if_pos hr]
      constructor
      · show f13s1 (f13L k) l m l (l.length : Nat) (i : Nat) = _
        unfold f13s1
        rw [bif_dec, if_neg (by omega)]
      · show f14s1 (f14L k) l m (i : Nat) = _
        unfold f14s1
        rw [bif_dec, if_neg (by omega)]

open Classical in
theorem check_eq (l : L) (m : Bool) (hl : l.length * 16 ≤ 140737488355328) : f13 l m = some (if Ok l m then 0 else 2, ()) ∧ f14 l m = some (if Ok l m then 0 else 2, ()) := by
  have h := check_loop l m hl (l.length + 1005) 0 (by omega) (by omega)
  have e : Rest l m 0 = Ok l m := by
    unfold Rest Ok
    rw [eq_iff_iff]
    exact ⟨fun h i hi => h i (Nat.zero_le _) hi, fun h i _ hi => h i hi⟩
  rw [e] at h
  exact h

theorem check_ok {l : L} {m : Bool} (hl : l.length * 16 ≤ 140737488355328) (h : Ok l m) : f13 l m = some (0, ()) ∧ f14 l m = some (0, ()) := by
  have := check_eq l m hl
  rwa [if_pos h] at this
theorem check_bad {l : L} {m : Bool} (hl : l.length * 16 ≤ 140737488355328) (h : ¬ Ok l m) : f13 l m = some (2, ()) ∧ f14 l m = some (2, ()) := by
  have := check_eq l m hl
  rwa [if_neg h] at this

/-! ### the order in a row -/
theorem order {l : L} {m : Bool} (h : Ok l m) : ∀ (d i : Nat), i + d < l.length → (g l i).1 ≤ (g l (i + d)).1 ∧ q m (g l (i + d)).2 ≤ q m (g l i).2
  | 0, i, _ => ⟨Int.le_refl _, Int.le_refl _⟩
  | d + 1, i, hd => by
    have h1 := order h d i (by omega)
    have h2 := (h (i + (d + 1)) hd).2 (by omega)
    rw [show i + (d + 1) - 1 = i + d by omega] at h2
    omega

theorem order' {l : L} {m : Bool} (h : Ok l m) {i j : Nat} (hij : i ≤ j) (hj : j < l.length) : (g l i).1 ≤ (g l j).1 ∧ q m (g l j).2 ≤ q m (g l i).2 := by
  have := order h (j - i) i (by omega)
  rwa [show i + (j - i) = j by omega] at this

theorem mem_g {l : L} {e : Int × Int} (h : e ∈ l) : ∃ i, i < l.length ∧ e = g l i := by
  obtain ⟨i, hi, he⟩ := List.getElem_of_mem h
  exact ⟨i, hi, by rw [g_at hi, he]⟩

/-! ### put -/
/-- An entry stays. -/
def stays (at' v w : Int) (m : Bool) (e : Int × Int) : Bool := decide (at' ≤ e.1 + w) && decide (q m v < q m e.2)

/-- What is behind a value more. -/
def put (l : L) (at' v w : Int) (m : Bool) : L := l.filter (stays at' v w m) ++ [(at', v)]

/-- What may be asked. -/
def Arg (l : L) (at' v w : Int) : Prop := May (at', v) ∧ 0 ≤ w ∧ w ≤ 1125899906842624 ∧ (0 < l.length → (g l (l.length - 1)).1 < at')

theorem cut_filter (l : L) (p : Int × Int → Bool) (i j : Nat) (hij : i ≤ j) (hj : j ≤ l.length) (h1 : ∀ k, k < i → p (g l k) = false) (h2 : ∀ k, i ≤ k → k < j → p (g l k) = true) (h3 : ∀ k, j ≤ k → k < l.length → p (g l k) = false) :
    (l.drop i).take (j - i) = l.filter p := by
  have e : l = l.take i ++ ((l.drop i).take (j - i) ++ l.drop j) := by
    have : (l.drop i).drop (j - i) = l.drop j := by rw [List.drop_drop]; congr 1; omega
    rw [← this, List.take_append_drop, List.take_append_drop]
  conv => rhs; rw [e, List.filter_append, List.filter_append]
  have f1 : (l.take i).filter p = [] := by
    rw [List.filter_eq_nil_iff]
    intro a ha
    obtain ⟨k, hk, hka⟩ := List.getElem_of_mem ha
    rw [List.length_take] at hk
    rw [List.getElem_take] at hka
    have := h1 k (by omega)
    rw [g_at (by omega), hka] at this
    rw [this]; decide
  have f2 : ((l.drop i).take (j - i)).filter p = (l.drop i).take (j - i) := by
    rw [List.filter_eq_self]
    intro a ha
    obtain ⟨k, hk, hka⟩ := List.getElem_of_mem ha
    rw [List.length_take, List.length_drop] at hk
    rw [List.getElem_take, List.getElem_drop] at hka
    have := h2 (i + k) (by omega) (by omega)
    rwa [g_at (by omega), hka] at this
  have f3 : (l.drop j).filter p = [] := by
    rw [List.filter_eq_nil_iff]
    intro a ha
    obtain ⟨k, hk, hka⟩ := List.getElem_of_mem ha
    rw [List.length_drop] at hk
    rw [List.getElem_drop] at hka
    have := h3 (j + k) (by omega) (by omega)
    rw [g_at (by omega), hka] at this
    rw [this]; decide
  rw [f1, f2, f3]; simp

theorem put_loop2 {l : L} {at' v w : Int} {m : Bool} (hl : (l.length + 1) * 16 ≤ 140737488355328) (ho : Ok l m) (i : Nat) (h1 : ∀ k, k < i → stays at' v w m (g l k) = false) (h1' : ∀ k, i ≤ k → k < l.length → at' ≤ (g l k).1 + w) :
    ∀ (k j : Nat), i ≤ j → j ≤ l.length → j - i < k → (∀ k, j ≤ k → k < l.length → stays at' v w m (g l k) = false) →
    (f7L k).2 l v m (i : Nat) (j : Nat) (at', v) = some (put l at' v w m, 0, ())
  | 0, j, hij, hj, hk, h3 => by omega
  | k + 1, j, hij, hj, hk, h3 => by
    have fin : (∀ k, i ≤ k → k < j → stays at' v w m (g l k) = true) → (((l.drop (i : Int).toNat).take ((j : Int) - (i : Int)).toNat) ++ [(at', v)]) = put l at' v w m := by
      intro h2
      rw [show (i : Int).toNat = i by omega, show ((j : Int) - (i : Int)).toNat = j - i by omega, cut_filter l (stays at' v w m) i j hij hj h1 h2 h3]
      rfl
    have len : (((l.drop (i : Int).toNat).take ((j : Int) - (i : Int)).toNat).length + 1) * 16 ≤ 140737488355328 := by
      rw [List.length_take, List.length_drop]; omega
    have bnd : ((decide ((0 : Int) ≤ (i : Int))) && ((decide ((i : Int) ≤ (j : Int))) && (decide ((j : Int) ≤ ((l.length : Nat) : Int))))) = true := by
      simp only [Bool.and_eq_true, decide_eq_true_eq]; omega
    show f7s2 (f7L k).1 (f7L k).2 l v m (i : Nat) (j : Nat) (at', v) = _
    unfold f7s2
    by_cases c : i < j
    · simp only [bif_dec]
      rw [if_pos (by omega), w64 (n := (j : Int) - 1) (by omega) (by omega), getI_g (by omega) (by omega), show ((j : Int) - 1).toNat = j - 1 by omega]
      simp only [Option.bind_some, beats_eq, bif_dec]
      refine ite_to (fun c2 => ?_) (fun c2 => ?_)
      · rw [show (j : Int) - 1 = ((j - 1 : Nat) : Int) by omega]
        refine put_loop2 hl ho i h1 h1' k (j - 1) (by omega) (by omega) (by omega) (fun k' hk' hkl => ?_)
        by_cases e : k' = j - 1
        · rw [e]; simp only [stays, Bool.and_eq_false_iff, decide_eq_false_iff_not]; right; omega
        · exact h3 k' (by omega) hkl
      · rw [bnd, cond_true, if_pos trivial, if_pos len, fin]
        intro k' hk' hkj
        have o := order' ho (show k' ≤ j - 1 by omega) (by omega)
        have o' := h1' k' hk' (by omega)
        simp only [stays, Bool.and_eq_true, decide_eq_true_eq]
        omega
    · simp only [bif_dec]
      rw [if_neg (by omega), bnd, cond_true, if_pos trivial, if_pos len, fin]
      intro k' hk' hkj
      omega

theorem put_loop1 {l : L} {at' v w : Int} {m : Bool} (hl : (l.length + 1) * 16 ≤ 140737488355328) (ho : Ok l m) (ha : Arg l at' v w) :
    ∀ (k i : Nat), i ≤ l.length → (l.length - i) + 1 < k → (∀ k, k < i → stays at' v w m (g l k) = false) →
    (f7L k).1 l at' v w m (i : Nat) (l.length : Nat) (at', v) = some (put l at' v w m, 0, ())
  | 0, i, hi, hk, h1 => by omega
  | k + 1, i, hi, hk, h1 => by
    show f7s1 (f7L k).1 (f7L k).2 l at' v w m (i : Nat) (l.length : Nat) (at', v) = _
    unfold f7s1
    simp only [bif_dec]
    refine ite_to (fun c => ?_) (fun c => ?_)
    · have hm := (ho i (by omega)).1
      unfold May at hm
      unfold Arg May at ha
      rw [getI_g (by omega) (by omega), show (i : Int).toNat = i by omega]
      simp only [Option.bind_some]
      rw [w64 (by omega) (by omega)]
      refine ite_to (fun c2 => ?_) (fun c2 => ?_)
      · rw [show IntKind.i64.wrap ((i : Int) + 1) = ((i + 1 : Nat) : Int) by rw [w64 (by omega) (by omega)]; omega]
        refine put_loop1 hl ho ha k (i + 1) (by omega) (by omega) (fun k' hk' => ?_)
        by_cases e : k' = i
        · rw [e]; simp only [stays, Bool.and_eq_false_iff, decide_eq_false_iff_not]; left; omega
        · exact h1 k' (by omega)
      · refine put_loop2 hl ho i h1 (fun k' hk' hkl => ?_) k l.length (by omega) (by omega) (by omega) (fun k' hk' hkl => by omega)
        have := order' ho hk' hkl
        omega
    · exact put_loop2 hl ho i h1 (fun k' hk' hkl => by omega) k l.length (by omega) (by omega) (by omega) (fun k' hk' hkl => by omega)

theorem put_ok {l : L} {at' v w : Int} {m : Bool} (hl : (l.length + 1) * 16 ≤ 140737488355328) (ho : Ok l m) (ha : Arg l at' v w) : f7 l at' v w m = some (put l at' v w m, 0, ()) := by
  have hp := put_loop1 hl ho ha (l.length + 1005) 0 (by omega) (by omega) (fun k hk => by omega)
  have ha' := ha
  obtain ⟨a1, a2, a3, a4⟩ := ha'
  unfold f7 f7e
  rw [(check_ok (by omega) ho).1]
  simp only [Option.bind_some, bif_bne, bif_not, bif_dec, may_eq]
  rw [if_pos trivial, if_pos a1, if_pos (by unfold May; simp only; omega)]
  refine ite_to (fun c => ?_) (fun c => hp)
  rw [w64 (by omega) (by omega), getI_g (by omega) (by omega), show ((l.length : Nat) - 1 : Int).toNat = l.length - 1 by omega]
  simp only [Option.bind_some, bif_dec]
  rw [if_neg (by have := a4 (by omega); omega)]
  exact hp

theorem put_bad {l : L} {at' v w : Int} {m : Bool} (hl : (l.length + 1) * 16 ≤ 140737488355328) (h : ¬ (Ok l m ∧ Arg l at' v w)) : f7 l at' v w m = some ([], 2, ()) := by
  unfold f7 f7e
  by_cases ho : Ok l m
  · rw [(check_ok (by omega) ho).1]
    simp only [Option.bind_some, bif_bne, bif_not, bif_dec, may_eq]
    rw [if_pos trivial]
    refine ite_to (fun a1 => ?_) (fun _ => rfl)
    refine ite_to (fun a2 => ?_) (fun _ => rfl)
    unfold May at a2
    refine ite_to (fun c => ?_) (fun c => ?_)
    · rw [w64 (by omega) (by omega), getI_g (by omega) (by omega), show ((l.length : Nat) - 1 : Int).toNat = l.length - 1 by omega]
      simp only [Option.bind_some, bif_dec]
      refine ite_to (fun _ => rfl) (fun a3 => ?_)
      exact absurd ⟨ho, a1, a2.1, a2.2.1, fun _ => by omega⟩ h
    · exact absurd ⟨ho, a1, a2.1, a2.2.1, fun _ => by omega⟩ h
  · rw [(check_bad (by omega) ho).1]
    rfl

theorem filter_next {l : L} (p : Int × Int → Bool) {i : Nat} (h : i < l.length) : (l.take (i + 1)).filter p = (l.take i).filter p ++ if p (g l i) = true then [g l i] else [] := by
  rw [List.take_add_one, List.filter_append, List.getElem?_eq_getElem h, g_at h]
  simp only [Option.toList_some]
  congr 1
  rw [List.filter_cons]; rfl

theorem ref_loop {l : L} {at' v w : Int} {m : Bool} (hl : (l.length + 1) * 16 ≤ 140737488355328) (ho : Ok l m) (ha : Arg l at' v w) :
    ∀ (k i : Nat), i ≤ l.length → l.length - i < k →
    f9L k l at' v w m (i : Nat) ((l.take i).filter (stays at' v w m)) = some (put l at' v w m, 0, ())
  | 0, i, hi, hk => by omega
  | k + 1, i, hi, hk => by
    have len : (((l.take i).filter (stays at' v w m)).length + 1) * 16 ≤ 140737488355328 := by
      have := List.length_filter_le (stays at' v w m) (l.take i)
      rw [List.length_take] at this
      omega
    show f9s1 (f9L k) l at' v w m (i : Nat) ((l.take i).filter (stays at' v w m)) = _
    unfold f9s1
    by_cases c : i < l.length
    · have hm := (ho i (by omega)).1
      unfold May at hm
      have ha' := ha
      unfold Arg May at ha'
      have ih := ref_loop hl ho ha k (i + 1) (by omega) (by omega)
      rw [filter_next _ c] at ih
      have gi : getI l (i : Int) = some (g l i) := getI_g (by omega) (by omega)
      have w1 : IntKind.i64.wrap ((i : Int) + 1) = ((i + 1 : Nat) : Int) := by rw [w64 (by omega) (by omega)]; omega
      simp only [bif_dec, bif_not, gi, Option.bind_some, w1]
      rw [if_pos (by omega), if_pos len, w64 (n := (g l i).1 + w) (by omega) (by omega)]
      have yes : at' ≤ (g l i).1 + w → q m v < q m (g l i).2 → f9L k l at' v w m ((i + 1 : Nat) : Int) ((l.take i).filter (stays at' v w m) ++ [g l i]) = some (put l at' v w m, 0, ()) := by
        intro h1 h2
        have : stays at' v w m (g l i) = true := by simp only [stays, Bool.and_eq_true, decide_eq_true_eq]; omega
        rw [this] at ih
        exact ih
      have no : ¬ (at' ≤ (g l i).1 + w ∧ q m v < q m (g l i).2) → f9L k l at' v w m ((i + 1 : Nat) : Int) ((l.take i).filter (stays at' v w m)) = some (put l at' v w m, 0, ()) := by
        intro h1
        have : stays at' v w m (g l i) = false := by
          rw [← Bool.not_eq_true]
          simp only [stays, Bool.and_eq_true, decide_eq_true_eq]
          exact h1
        rw [this] at ih
        simpa using ih
      cases m <;> simp only [cond_true, cond_false]
      all_goals
        repeat' (refine ite_to (fun _ => ?_) (fun _ => ?_))
        all_goals first
          | (exact yes (by omega) (by simp only [q, cond_true, cond_false]; omega))
          | (exact no (by simp only [q, cond_true, cond_false]; omega))
    · have e : i = l.length := by omega
      simp only [bif_dec]
      rw [if_neg (by omega), if_pos len, e, List.take_length]
      rfl

theorem ref_ok {l : L} {at' v w : Int} {m : Bool} (hl : (l.length + 1) * 16 ≤ 140737488355328) (ho : Ok l m) (ha : Arg l at' v w) : f9 l at' v w m = some (put l at' v w m, 0, ()) := by
  have hp := ref_loop hl ho ha (l.length + 1005) 0 (by omega) (by omega)
  have ha' := ha
  obtain ⟨a1, a2, a3, a4⟩ := ha'
  unfold May at a1
  unfold f9 f9e
  rw [(check_ok (by omega) ho).2]
  simp only [Option.bind_some, bif_bne, bif_not, bif_dec, time_eq, value_eq]
  rw [if_pos trivial, if_pos ⟨a1.1, a1.2.1⟩, if_pos ⟨a1.2.2.1, a1.2.2.2⟩, if_pos ⟨a2, a3⟩]
  refine ite_to (fun c => ?_) (fun c => hp)
  rw [w64 (by omega) (by omega), getI_g (by omega) (by omega), show ((l.length : Nat) - 1 : Int).toNat = l.length - 1 by omega]
  simp only [Option.bind_some, bif_dec]
  rw [if_neg (by have := a4 (by omega); omega)]
  exact hp

theorem ref_bad {l : L} {at' v w : Int} {m : Bool} (hl : (l.length + 1) * 16 ≤ 140737488355328) (h : ¬ (Ok l m ∧ Arg l at' v w)) : f9 l at' v w m = some ([], 2, ()) := by
  unfold f9 f9e
  by_cases ho : Ok l m
  · rw [(check_ok (by omega) ho).2]
    simp only [Option.bind_some, bif_bne, bif_not, bif_dec, time_eq, value_eq]
    rw [if_pos trivial]
    refine ite_to (fun a1 => ?_) (fun _ => rfl)
    refine ite_to (fun a2 => ?_) (fun _ => rfl)
    refine ite_to (fun a3 => ?_) (fun _ => rfl)
    refine ite_to (fun c => ?_) (fun c => ?_)
    · rw [w64 (by omega) (by omega), getI_g (by omega) (by omega), show ((l.length : Nat) - 1 : Int).toNat = l.length - 1 by omega]
      simp only [Option.bind_some, bif_dec]
      refine ite_to (fun _ => rfl) (fun a4 => ?_)
      exact absurd ⟨ho, ⟨a1.1, a1.2, a2.1, a2.2⟩, a3.1, a3.2, fun _ => by omega⟩ h
    · exact absurd ⟨ho, ⟨a1.1, a1.2, a2.1, a2.2⟩, a3.1, a3.2, fun _ => by omega⟩ h
  · rw [(check_bad (by omega) ho).2]
    rfl

/-! ### the same, the best -/
theorem same_loop (l : L) (hl : l.length * 16 ≤ 140737488355328) : ∀ (k i : Nat), i ≤ l.length → l.length - i < k → f12L k l l (i : Nat) = some (true, ())
  | 0, i, hi, hk => by omega
  | k + 1, i, hi, hk => by
    show f12s1 (f12L k) l l (i : Nat) = _
    unfold f12s1
    simp only [bif_dec]
    refine ite_to (fun c => ?_) (fun c => rfl)
    rw [getI_g (by omega) (by omega), w64 (by omega) (by omega), show (i : Int) + 1 = ((i + 1 : Nat) : Int) by omega]
    simp only [Option.bind_some, beq_self_eq_true, Bool.and_self, Bool.not_true, cond_false]
    exact same_loop l hl k (i + 1) (by omega) (by omega)

theorem same_refl (l : L) (hl : l.length * 16 ≤ 140737488355328) : f12 l l = some (true, ()) := by
  unfold f12 f12e
  rw [bif_bne, if_pos rfl]
  exact same_loop l hl _ 0 (by omega) (by omega)

theorem best_eq (l : L) : f10 l = some (if 0 < l.length then (g l 0).2 else 0, decide (0 < l.length), ()) ∧ f11 l = f10 l := by
  refine ⟨?_, rfl⟩
  unfold f10
  rw [bif_beq]
  by_cases h : 0 < l.length
  · rw [if_neg (by omega), if_pos h, getI_g (by omega) (by omega), decide_eq_true h]; rfl
  · rw [if_pos (by omega), if_neg h, decide_eq_false h]

theorem put_len (l : L) (at' v w : Int) (m : Bool) : (put l at' v w m).length ≤ l.length + 1 := by
  unfold put
  rw [List.length_append]
  have := List.length_filter_le (stays at' v w m) l
  simp only [List.length_cons, List.length_nil]
  omega

/-! ### a row by pairs -/
def R (m : Bool) (a b : Int × Int) : Prop := a.1 < b.1 ∧ q m b.2 < q m a.2

theorem ok_pair {l : L} {m : Bool} : Ok l m ↔ (∀ e ∈ l, May e) ∧ l.Pairwise (R m) := by
  constructor
  · intro h
    refine ⟨fun e he => ?_, ?_⟩
    · obtain ⟨i, hi, e'⟩ := mem_g he
      rw [e']; exact (h i hi).1
    · rw [List.pairwise_iff_getElem]
      intro i j hi hj hij
      have h1 := order' h (show i ≤ j - 1 by omega) (by omega)
      have h2 := (h j hj).2 (by omega)
      rw [← g_at hi, ← g_at hj]
      unfold R
      omega
  · rintro ⟨h1, h2⟩ i hi
    refine ⟨?_, fun h0 => ?_⟩
    · rw [g_at hi]; exact h1 _ (List.getElem_mem hi)
    · rw [List.pairwise_iff_getElem] at h2
      have := h2 (i - 1) i (by omega) hi (by omega)
      rw [g_at hi, g_at (by omega)]
      exact this

theorem last_ge {l : L} {m : Bool} (h : Ok l m) {e : Int × Int} (he : e ∈ l) : e.1 ≤ (g l (l.length - 1)).1 := by
  obtain ⟨i, hi, rfl⟩ := mem_g he
  exact (order' h (by omega) (by omega)).1

theorem put_mem {l : L} {at' v w : Int} {m : Bool} {e : Int × Int} : e ∈ put l at' v w m ↔ (e ∈ l ∧ at' ≤ e.1 + w ∧ q m v < q m e.2) ∨ e = (at', v) := by
  unfold put
  simp only [List.mem_append, List.mem_filter, List.mem_singleton, stays, Bool.and_eq_true, decide_eq_true_eq]

theorem put_fine {l : L} {at' v w : Int} {m : Bool} (ho : Ok l m) (ha : Arg l at' v w) : Ok (put l at' v w m) m := by
  have hp := ok_pair.1 ho
  rw [ok_pair]
  refine ⟨fun e he => ?_, ?_⟩
  · rcases put_mem.1 he with h | h
    · exact hp.1 e h.1
    · rw [h]; exact ha.1
  · unfold put
    rw [List.pairwise_append]
    refine ⟨hp.2.filter _, List.pairwise_singleton _ _, fun a h1 b h2 => ?_⟩
    rw [List.mem_singleton] at h2
    rw [List.mem_filter] at h1
    have h3 := last_ge ho h1.1
    have h4 := ha.2.2.2 (List.length_pos_of_mem h1.1)
    have h5 := h1.2
    simp only [stays, Bool.and_eq_true, decide_eq_true_eq] at h5
    rw [h2]
    exact ⟨by show a.1 < at'; omega, h5.2⟩

theorem stays_iff {at' v w : Int} {m : Bool} {e : Int × Int} : stays at' v w m e = true ↔ at' ≤ e.1 + w ∧ q m v < q m e.2 := by
  unfold stays
  rw [Bool.and_eq_true, decide_eq_true_eq, decide_eq_true_eq]

theorem size {l : L} (h : l.length * 16 ≤ 140737488351232) : (l.length + 1) * 16 ≤ 140737488355328 := by omega

theorem q_inj {m : Bool} {a b : Int} (h : q m a = q m b) : a = b := by
  cases m <;> simp only [q, cond_true, cond_false] at h <;> omega
end Go.Proofs.Ythnfbkneleodnaa.Qn
