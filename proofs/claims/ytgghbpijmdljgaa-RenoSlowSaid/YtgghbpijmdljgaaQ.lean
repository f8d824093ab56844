/-
  Reno: what its functions come to, in plain words.
-/
import Derived.Test.YtgghbpijmdljgaaF
import Derived.Test.YtgghbpijmdljgaaVw
import Derived.KernelRfl
namespace Go.Proofs.Ytgghbpijmdljgaa.Qn
open Go Go.Proofs.Ytgghbpijmdljgaa.Vx Go.Proofs.Ytgghbpijmdljgaa.Fn
set_option linter.unusedVariables false
set_option linter.unusedSimpArgs false

theorem heads : f12 = some (true, ()) := by kernel_rfl

/-- The list of a controller. -/
abbrev bw (c : TCc) : List (Int × Int) := c.2.2.2.2.2.2.2.2.2.2.2.1

theorem same_refl (c : TCc) (h : bw c = []) : f10 c c = some (true, ()) := by
  obtain ⟨a1, a2, a3, a4, a5, a6, a7, a8, a9, a10, a11, a12, a13, a14, a15, a16, a17, a18, a19, a20, a21, a22⟩ := c
  have h : a12 = [] := h
  subst h
  simp only [f10, f10e, bne_self_eq_false, cond_false]
  rfl

theorem size_eq (n : Int) : f22 n = some (decide (0 ≤ n ∧ n ≤ 1073741824), ()) := by
  unfold f22
  rw [bif_dec]
  by_cases h : n ≥ 0
  · rw [if_pos h]
    congr 2
    simp only [decide_eq_decide]
    omega
  · rw [if_neg h]
    congr 2
    rw [eq_comm, decide_eq_false_iff_not]
    omega

/-- What a controller of Reno is. -/
def Fit (c : TCc) : Prop :=
  c.1 = 1 ∧ 1 ≤ c.2.1 ∧ c.2.1 ≤ 65000 ∧ c.2.1 ≤ c.2.2.1 ∧ c.2.2.1 ≤ 1073741824 ∧ 2 * c.2.1 ≤ c.2.2.2.1 ∧ c.2.2.2.1 ≤ 1073741824 ∧ 0 ≤ c.2.2.2.2.1 ∧ c.2.2.2.2.1 ≤ 1073741824 ∧
  c.2.2.2.2.2 = (0, 0, 0, 0, 0, 0, [], 0, 0, 0, 0, 0, 0, 0, 0, 0, 0)

theorem check_fit (c : TCc) (h : Fit c) : f11 c = some (0, ()) := by
  obtain ⟨a1, a2, a3, a4, a5, r⟩ := c
  obtain ⟨h1, h2, h3, h4, h5, h6, h7, h8, h9, h10⟩ := h
  simp only at h1 h2 h3 h4 h5 h6 h7 h8 h9 h10
  subst h1 h10
  unfold f11
  simp only [size_eq, Option.bind_some, bif_not, bif_bne, bif_dec, bif_beq]
  rw [if_pos trivial, if_neg (by omega), if_neg (by omega), if_neg (by omega), if_pos ⟨by omega, by omega⟩, w64 (by omega) (by omega), if_neg (by omega), if_pos ⟨by omega, by omega⟩, if_pos ⟨h8, h9⟩]
  rfl

theorem check_cases (c : TCc) : (Fit c ∧ f11 c = some (0, ())) ∨ (¬ Fit c ∧ f11 c = some (230, ())) := by
  by_cases h : Fit c
  · exact .inl ⟨h, check_fit c h⟩
  refine .inr ⟨h, ?_⟩
  obtain ⟨a1, a2, a3, a4, a5, a6, a7, a8, a9, a10, a11, a12, a13, a14, a15, a16, a17, a18, a19, a20, a21, a22⟩ := c
  unfold f11
  simp only [size_eq, Option.bind_some, bif_not, bif_bne, bif_dec, bif_beq]
  repeat' (refine ite_to (fun _ => ?_) (fun _ => ?_))
  all_goals first
    | rfl
    | (exfalso
       apply h
       have hl : a12 = [] := List.eq_nil_of_length_eq_zero (by omega)
       have hw : IntKind.i64.wrap (2 * a2) = 2 * a2 := w64 (by omega) (by omega)
       simp only [hw] at *
       dsimp only [Fit]
       refine ⟨by assumption, by omega, by omega, by omega, by omega, by omega, by omega, by omega, by omega, ?_⟩
       simp only [Prod.mk.injEq]
       exact ⟨by assumption, by assumption, by assumption, by assumption, by assumption, by assumption, hl, by assumption, by assumption, by assumption, by assumption, by assumption, by assumption, by assumption, by assumption, by assumption, by assumption⟩)

theorem size2_eq (n : Int) : f29 n = some (decide (0 ≤ n ∧ n ≤ 1073741824), ()) := size_eq n

theorem common_eq (c : TCc) : f27 c = some (decide (1 ≤ c.2.1 ∧ c.2.1 ≤ 65000 ∧ c.2.1 ≤ c.2.2.1 ∧ c.2.2.1 ≤ 1073741824 ∧ 2 * c.2.1 ≤ c.2.2.2.1 ∧ c.2.2.2.1 ≤ 1073741824 ∧ 0 ≤ c.2.2.2.2.1 ∧ c.2.2.2.2.1 ≤ 1073741824), ()) := by
  obtain ⟨a1, a2, a3, a4, a5, r⟩ := c
  unfold f27
  simp only [size2_eq, Option.bind_some, bif_dec]
  repeat' (refine ite_to (fun _ => ?_) (fun _ => ?_))
  all_goals
    congr 2
    first
    | (rw [eq_comm, decide_eq_false_iff_not]; omega)
    | (have hw : IntKind.i64.wrap (2 * a2) = 2 * a2 := w64 (by omega) (by omega)
       simp only [hw] at *
       first
       | (rw [decide_eq_decide]; omega)
       | (rw [eq_comm, decide_eq_false_iff_not]; omega))

theorem plain_cases (c : TCc) : (c.2.2.2.2.2 = (0, 0, 0, 0, 0, 0, [], 0, 0, 0, 0, 0, 0, 0, 0, 0, 0) ∧ f28 c false false = some (true, ())) ∨ (¬ c.2.2.2.2.2 = (0, 0, 0, 0, 0, 0, [], 0, 0, 0, 0, 0, 0, 0, 0, 0, 0) ∧ f28 c false false = some (false, ())) := by
  by_cases h : c.2.2.2.2.2 = (0, 0, 0, 0, 0, 0, [], 0, 0, 0, 0, 0, 0, 0, 0, 0, 0)
  · left
    refine ⟨h, ?_⟩
    obtain ⟨a1, a2, a3, a4, a5, r⟩ := c
    simp only at h
    subst h
    rfl
  · right
    refine ⟨h, ?_⟩
    obtain ⟨a1, a2, a3, a4, a5, a6, a7, a8, a9, a10, a11, a12, a13, a14, a15, a16, a17, a18, a19, a20, a21, a22⟩ := c
    unfold f28
    simp only [bif_not, bif_bne, bif_dec, cond_false]
    repeat' (refine ite_to (fun _ => ?_) (fun _ => ?_))
    all_goals first
      | rfl
      | (exfalso
         apply h
         have hl : a12 = [] := List.eq_nil_of_length_eq_zero (by omega)
         simp only [Prod.mk.injEq]
         exact ⟨by assumption, by assumption, by assumption, by assumption, by assumption, by assumption, hl, by assumption, by assumption, by assumption, by assumption, by assumption, by assumption, by assumption, by assumption, by assumption, by assumption⟩)

theorem check2_cases (c : TCc) : (Fit c ∧ f18 c = some (0, ())) ∨ (¬ Fit c ∧ f18 c = some (230, ())) := by
  unfold f18
  simp only [common_eq, Option.bind_some, bif_not, bif_bne, bif_dec]
  by_cases h1 : c.1 = 1
  · rw [if_pos h1]
    by_cases h2 : 1 ≤ c.2.1 ∧ c.2.1 ≤ 65000 ∧ c.2.1 ≤ c.2.2.1 ∧ c.2.2.1 ≤ 1073741824 ∧ 2 * c.2.1 ≤ c.2.2.2.1 ∧ c.2.2.2.1 ≤ 1073741824 ∧ 0 ≤ c.2.2.2.2.1 ∧ c.2.2.2.2.1 ≤ 1073741824
    · rw [if_pos h2]
      rcases plain_cases c with ⟨h3, e⟩ | ⟨h3, e⟩
      · rw [e]
        obtain ⟨q1, q2, q3, q4, q5, q6, q7, q8⟩ := h2
        exact .inl ⟨⟨h1, q1, q2, q3, q4, q5, q6, q7, q8, h3⟩, rfl⟩
      · rw [e]
        exact .inr ⟨fun h => h3 h.2.2.2.2.2.2.2.2.2, rfl⟩
    · rw [if_neg h2]
      exact .inr ⟨fun ⟨_, q1, q2, q3, q4, q5, q6, q7, q8, _⟩ => h2 ⟨q1, q2, q3, q4, q5, q6, q7, q8⟩, rfl⟩
  · rw [if_neg h1]
    exact .inr ⟨fun h => h1 h.1, rfl⟩

/-- A controller, by what it has. -/
abbrev mkc (m w s a : Int) : TCc := (1, m, w, s, a, 0, 0, 0, 0, 0, 0, [], 0, 0, 0, 0, 0, 0, 0, 0, 0, 0)
abbrev nul : TCc := (0, 0, 0, 0, 0, 0, 0, 0, 0, 0, 0, [], 0, 0, 0, 0, 0, 0, 0, 0, 0, 0)

def Ok (m w s a : Int) : Prop := 1 ≤ m ∧ m ≤ 65000 ∧ m ≤ w ∧ w ≤ 1073741824 ∧ 2 * m ≤ s ∧ s ≤ 1073741824 ∧ 0 ≤ a ∧ a ≤ 1073741824

theorem fit_mk (m w s a : Int) : Fit (mkc m w s a) ↔ Ok m w s a := by
  constructor
  · rintro ⟨_, q1, q2, q3, q4, q5, q6, q7, q8, _⟩
    exact ⟨q1, q2, q3, q4, q5, q6, q7, q8⟩
  · rintro ⟨q1, q2, q3, q4, q5, q6, q7, q8⟩
    exact ⟨rfl, q1, q2, q3, q4, q5, q6, q7, q8, rfl⟩

theorem fit_ex {c : TCc} (h : Fit c) : ∃ m w s a, c = mkc m w s a ∧ Ok m w s a := by
  obtain ⟨a1, a2, a3, a4, a5, r⟩ := c
  obtain ⟨h1, h2, h3, h4, h5, h6, h7, h8, h9, h10⟩ := h
  simp only at h1 h10
  subst h1 h10
  exact ⟨a2, a3, a4, a5, rfl, h2, h3, h4, h5, h6, h7, h8, h9⟩

theorem check_mk {m w s a : Int} (h : Ok m w s a) : f11 (mkc m w s a) = some (0, ()) := check_fit _ ((fit_mk m w s a).2 h)
theorem check2_mk {m w s a : Int} (h : Ok m w s a) : f18 (mkc m w s a) = some (0, ()) := by
  rcases check2_cases (mkc m w s a) with ⟨_, e⟩ | ⟨q, _⟩
  · exact e
  · exact absurd ((fit_mk m w s a).2 h) q

theorem ask_mk {m w s a : Int} (h : Ok m w s a) (n : Int) : f26 (mkc m w s a) n = some (if 0 ≤ n ∧ n ≤ 1073741824 then 0 else 2, ()) := by
  unfold f26
  simp only [check2_mk h, size2_eq, Option.bind_some, bif_bne, bif_not, bif_dec]
  rw [if_pos trivial]
  split <;> rfl

theorem ask_bad {c : TCc} (h : ¬ Fit c) (n : Int) : f26 c n = some (230, ()) := by
  unfold f26
  rcases check2_cases c with ⟨q, _⟩ | ⟨_, e⟩
  · exact absurd q h
  · rw [e]; rfl

/-! ### acknowledged -/
def ack (m w s a n : Int) : TCc :=
  if w < s then mkc m (min 1073741824 (w + min n m)) s a else
  if w ≤ min 1073741824 (a + n) then mkc m (min 1073741824 (w + m)) s (min 1073741824 (a + n) - w) else mkc m w s (min 1073741824 (a + n))

theorem acked {m w s a : Int} (h : Ok m w s a) {n : Int} (hn : 0 ≤ n ∧ n ≤ 1073741824) : f13 (mkc m w s a) n false = some (ack m w s a n, 0, ()) := by
  unfold f13 ack
  simp only [check_mk h, size_eq, Option.bind_some, bif_bne, bif_not, bif_dec, cond_false, imin_eq]
  obtain ⟨q1, q2, q3, q4, q5, q6, q7, q8⟩ := h
  rw [if_pos trivial, if_pos hn]
  rw [w64 (n := w + min n m) (by omega) (by omega), w64 (n := a + n) (by omega) (by omega), w64 (n := w + m) (by omega) (by omega)]
  split
  · rfl
  · by_cases hc : w ≤ min 1073741824 (a + n)
    · rw [if_pos hc, if_pos (by omega), w64 (by omega) (by omega)]
    · rw [if_neg hc, if_neg (by omega)]

theorem acked2 {m w s a : Int} (h : Ok m w s a) {n : Int} (hn : 0 ≤ n ∧ n ≤ 1073741824) : f16 (mkc m w s a) n false = some (ack m w s a n, 0, ()) := by
  unfold f16 ack
  simp only [ask_mk h, if_pos hn, Option.bind_some, bif_bne, bif_not, bif_dec, cond_false, imin_eq]
  obtain ⟨q1, q2, q3, q4, q5, q6, q7, q8⟩ := h
  rw [if_pos trivial]
  rw [w64 (n := w + min n m) (by omega) (by omega), w64 (n := a + n) (by omega) (by omega), w64 (n := w + m) (by omega) (by omega)]
  rw [Int.min_comm (w + min n m), Int.min_comm (a + n), Int.min_comm (w + m)]
  split
  · rfl
  · by_cases hc : w ≤ min 1073741824 (a + n)
    · rw [if_pos hc, if_pos (by omega), w64 (by omega) (by omega)]
    · rw [if_neg hc, if_neg (by omega)]

theorem acked_idle {m w s a : Int} (h : Ok m w s a) {n : Int} (hn : 0 ≤ n ∧ n ≤ 1073741824) : f13 (mkc m w s a) n true = some (mkc m w s a, 0, ()) := by
  unfold f13
  simp only [check_mk h, size_eq, Option.bind_some, bif_bne, bif_not, bif_dec, cond_true]
  rw [if_pos trivial, if_pos hn]

theorem acked2_idle {m w s a : Int} (h : Ok m w s a) {n : Int} (hn : 0 ≤ n ∧ n ≤ 1073741824) : f16 (mkc m w s a) n true = some (mkc m w s a, 0, ()) := by
  unfold f16
  simp only [ask_mk h, if_pos hn, Option.bind_some, bif_bne, cond_true]
  rw [if_pos trivial]

theorem acked_arg {m w s a : Int} (h : Ok m w s a) {n : Int} (hn : ¬ (0 ≤ n ∧ n ≤ 1073741824)) (i : Bool) : f13 (mkc m w s a) n i = some (nul, 2, ()) ∧ f16 (mkc m w s a) n i = some (nul, 2, ()) := by
  constructor
  · unfold f13
    simp only [check_mk h, size_eq, Option.bind_some, bif_bne, bif_not, bif_dec]
    rw [if_pos trivial, if_neg hn]
  · unfold f16
    simp only [ask_mk h, if_neg hn, Option.bind_some, bif_bne]
    rfl

theorem acked_bad {c : TCc} (h : ¬ Fit c) (n : Int) (i : Bool) : f13 c n i = some (nul, 230, ()) ∧ f16 c n i = some (nul, 230, ()) := by
  constructor
  · unfold f13
    rcases check_cases c with ⟨q, _⟩ | ⟨_, e⟩
    · exact absurd q h
    · rw [e]; rfl
  · unfold f16
    rw [ask_bad h]; rfl

/-! ### lost -/
theorem half_eq {n : Int} (h0 : 0 ≤ n) (h1 : n ≤ 1073741824) : IntKind.i64.wrap (Int.tdiv n 2) = n / 2 := by
  rw [Int.tdiv_eq_ediv_of_nonneg h0]
  exact w64 (by omega) (by omega)

theorem lost {m w s a : Int} (h : Ok m w s a) {n : Int} (hn : 0 ≤ n ∧ n ≤ 1073741824) : f14 (mkc m w s a) n = some (mkc m w (max (2 * m) (n / 2)) 0, 0, ()) := by
  unfold f14
  simp only [check_mk h, size_eq, Option.bind_some, bif_bne, bif_not, bif_dec, imax_eq]
  obtain ⟨q1, q2, q3, q4, q5, q6, q7, q8⟩ := h
  rw [if_pos trivial, if_pos hn, w64 (n := 2 * m) (by omega) (by omega), half_eq hn.1 hn.2]

theorem lost2 {m w s a : Int} (h : Ok m w s a) {n : Int} (hn : 0 ≤ n ∧ n ≤ 1073741824) : f17 (mkc m w s a) n = some (mkc m w (max (2 * m) (n / 2)) 0, 0, ()) := by
  unfold f17
  simp only [ask_mk h, if_pos hn, Option.bind_some, bif_bne, imax_eq]
  obtain ⟨q1, q2, q3, q4, q5, q6, q7, q8⟩ := h
  rw [if_pos trivial, w64 (n := 2 * m) (by omega) (by omega), half_eq hn.1 hn.2, Int.max_comm]

theorem lost_arg {m w s a : Int} (h : Ok m w s a) {n : Int} (hn : ¬ (0 ≤ n ∧ n ≤ 1073741824)) : f14 (mkc m w s a) n = some (nul, 2, ()) ∧ f17 (mkc m w s a) n = some (nul, 2, ()) := by
  constructor
  · unfold f14
    simp only [check_mk h, size_eq, Option.bind_some, bif_bne, bif_not, bif_dec]
    rw [if_pos trivial, if_neg hn]
  · unfold f17
    simp only [ask_mk h, if_neg hn, Option.bind_some, bif_bne]
    rfl

theorem lost_bad {c : TCc} (h : ¬ Fit c) (n : Int) : f14 c n = some (nul, 230, ()) ∧ f17 c n = some (nul, 230, ()) := by
  constructor
  · unfold f14
    rcases check_cases c with ⟨q, _⟩ | ⟨_, e⟩
    · exact absurd q h
    · rw [e]; rfl
  · unfold f17
    rw [ask_bad h]; rfl

theorem timed_out {c d : TCc} {e n : Int} (h : f14 c n = some (d, e, ())) : f15 c n = some ((d.1, d.2.1, d.2.1, d.2.2.2), e, ()) := by
  unfold f15
  rw [h]
  rfl

theorem timed_out2 {c d : TCc} {n : Int} (h : f17 c n = some (d, 0, ())) : f19 c n = some ((d.1, d.2.1, d.2.1, d.2.2.2), 0, ()) := by
  unfold f19
  rw [h]
  rfl

theorem timed_out2_bad {c d : TCc} {e n : Int} (h : f17 c n = some (d, e, ())) (he : e ≠ 0) : f19 c n = some (nul, e, ()) := by
  unfold f19
  rw [h]
  simp only [Option.bind_some, bif_bne]
  rw [if_neg he]

theorem done {m w s a : Int} (h : Ok m w s a) : f20 (mkc m w s a) = some (mkc m s s a, 0, ()) ∧ f21 (mkc m w s a) = some (mkc m s s a, 0, ()) := by
  constructor
  · unfold f20
    simp only [check_mk h, size_eq, Option.bind_some, bif_bne, bif_not, bif_dec]
    rfl
  · unfold f21
    simp only [ask_mk h, Option.bind_some, bif_bne]
    rfl

theorem done_bad {c : TCc} (h : ¬ Fit c) : f20 c = some (nul, 230, ()) ∧ f21 c = some (nul, 230, ()) := by
  constructor
  · unfold f20
    rcases check_cases c with ⟨q, _⟩ | ⟨_, e⟩
    · exact absurd q h
    · rw [e]; rfl
  · unfold f21
    rw [ask_bad h]; rfl

theorem ok_lost {m w s a n : Int} (h : Ok m w s a) (hn : 0 ≤ n ∧ n ≤ 1073741824) : Ok m w (max (2 * m) (n / 2)) 0 := by
  obtain ⟨q1, q2, q3, q4, q5, q6, q7, q8⟩ := h
  exact ⟨q1, q2, q3, q4, by omega, by omega, by omega, by omega⟩

theorem nul_unfit : ¬ Fit nul := fun h => absurd h.1 (by decide)
end Go.Proofs.Ytgghbpijmdljgaa.Qn
