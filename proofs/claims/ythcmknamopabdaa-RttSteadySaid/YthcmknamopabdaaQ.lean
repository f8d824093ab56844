/-
  Rtt: what its functions come to, in plain words.
-/
import Derived.Test.YthcmknamopabdaaF
import Derived.Test.YthcmknamopabdaaVw
import Derived.KernelRfl
namespace Go.Proofs.Ythcmknamopabdaa.Qn
open Go Go.Proofs.Ythcmknamopabdaa.Vx Go.Proofs.Ythcmknamopabdaa.Fn
set_option linter.unusedVariables false
set_option linter.unusedSimpArgs false

theorem heads : f8 = some (true, ()) := by kernel_rfl

abbrev nul : TRtt := (0, 0, 0, 0, 0)

/-- What an estimator is. -/
def Ok (s v r lo hi : Int) : Prop := 0 ≤ s ∧ s ≤ 1125899906842624 ∧ 0 ≤ v ∧ v ≤ 1125899906842624 ∧ lo ≤ r ∧ r ≤ hi ∧ 1 ≤ lo ∧ lo ≤ hi ∧ hi ≤ 1125899906842624
def Bd (lo hi : Int) : Prop := 1 ≤ lo ∧ lo ≤ hi ∧ hi ≤ 1125899906842624
def Time (t : Int) : Prop := 1 ≤ t ∧ t ≤ 1125899906842624

def clamp (t lo hi : Int) : Int := max lo (min t hi)

theorem clamp_eq (t lo hi : Int) : f21 t lo hi = some (clamp t lo hi, ()) := by
  unfold f21 clamp
  simp only [imin_eq, imax_eq]

theorem clamp2_eq (t lo hi : Int) : f22 t lo hi = some (clamp t lo hi, ()) := by
  unfold f22 clamp
  simp only [bif_dec]
  repeat' (refine ite_to (fun _ => ?_) (fun _ => ?_))
  all_goals
    congr 2
    omega

theorem time_eq (t : Int) : f19 t = some (decide (0 ≤ t ∧ t ≤ 1125899906842624), ()) := by
  unfold f19
  rw [bif_dec]
  refine ite_to (fun h => ?_) (fun h => ?_)
  · congr 2
    rw [decide_eq_decide]; omega
  · congr 2
    rw [eq_comm, decide_eq_false_iff_not]; omega

theorem bounds_eq (lo hi : Int) : f23 lo hi = some (decide (1 ≤ lo ∧ lo ≤ hi ∧ hi ≤ 1125899906842624), ()) := by
  unfold f23
  simp only [bif_dec]
  repeat' (refine ite_to (fun _ => ?_) (fun _ => ?_))
  · congr 2
    rw [decide_eq_decide]; omega
  · congr 2
    rw [eq_comm, decide_eq_false_iff_not]; omega
  · congr 2
    rw [eq_comm, decide_eq_false_iff_not]; omega

section
variable {s v r lo hi t : Int}

theorem new_ok (h : Bd lo hi) : f10 lo hi = some ((0, 0, clamp 1000000 lo hi, lo, hi), 0, ()) ∧ f17 lo hi = some ((0, 0, clamp 1000000 lo hi, lo, hi), 0, ()) := by
  unfold Bd at h
  constructor
  · unfold f10
    simp only [time_eq, clamp_eq, Option.bind_some, bif_dec, bif_not]
    rw [if_neg (by omega), if_neg (by omega), if_pos (by omega)]
  · unfold f17
    simp only [bounds_eq, clamp2_eq, Option.bind_some, bif_dec, bif_not]
    rw [if_pos h]

theorem new_bad (h : ¬ Bd lo hi) : f10 lo hi = some (nul, 2, ()) ∧ f17 lo hi = some (nul, 2, ()) := by
  unfold Bd at h
  constructor
  · unfold f10
    simp only [time_eq, clamp_eq, Option.bind_some, bif_dec, bif_not]
    repeat' (refine ite_to (fun _ => ?_) (fun _ => ?_))
    all_goals first
      | rfl
      | (exfalso; omega)
  · unfold f17
    simp only [bounds_eq, clamp2_eq, Option.bind_some, bif_dec, bif_not]
    rw [if_neg h]

theorem check_ok (h : Ok s v r lo hi) : f12 (s, v, r, lo, hi) = some (0, ()) ∧ f18 (s, v, r, lo, hi) = some (0, ()) := by
  have hb : Bd lo hi := by unfold Ok at h; unfold Bd; omega
  unfold Ok at h
  constructor
  · unfold f12
    simp only [(new_ok hb).1, clamp_eq, Option.bind_some, bif_bne, bif_not]
    have e1 : clamp r lo hi = r := by unfold clamp; omega
    have e2 : clamp s 0 1125899906842624 = s := by unfold clamp; omega
    have e3 : clamp v 0 1125899906842624 = v := by unfold clamp; omega
    rw [e1, e2, e3]
    simp
  · unfold f18
    simp only [bounds_eq, Option.bind_some, bif_dec, bif_not]
    rw [if_pos (by omega), if_neg (by omega), if_neg (by omega), if_neg (by omega), if_neg (by omega), if_neg (by omega), if_neg (by omega)]

theorem check_bad (h : ¬ Ok s v r lo hi) : f12 (s, v, r, lo, hi) = some (230, ()) ∧ f18 (s, v, r, lo, hi) = some (230, ()) := by
  constructor
  · unfold f12
    by_cases hb : Bd lo hi
    · simp only [(new_ok hb).1, clamp_eq, Option.bind_some, bif_bne]
      rw [if_pos trivial]
      unfold Ok at h
      unfold Bd at hb
      have : ((clamp s 0 1125899906842624 == s) && ((clamp v 0 1125899906842624 == v) && ((clamp r lo hi == r) && ((lo == lo) && (hi == hi))))) = false := by
        cases hq : ((clamp s 0 1125899906842624 == s) && ((clamp v 0 1125899906842624 == v) && ((clamp r lo hi == r) && ((lo == lo) && (hi == hi)))))
        · rfl
        · exfalso
          simp only [Bool.and_eq_true, beq_iff_eq] at hq
          unfold clamp at hq
          omega
      rw [this]
      rfl
    · simp only [(new_bad hb).1, clamp_eq, Option.bind_some, bif_bne]
      rfl
  · unfold f18
    unfold Ok at h
    simp only [bounds_eq, Option.bind_some, bif_dec, bif_not]
    repeat' (refine ite_to (fun _ => ?_) (fun _ => ?_))
    all_goals first
      | rfl
      | (exfalso; omega)

/-- The wait. -/
def wt (s v lo hi : Int) : Int := clamp (if 0 < s then s + max 1000 (4 * v) else 1000000) lo hi

theorem wt_in (h : Bd lo hi) : lo ≤ wt s v lo hi ∧ wt s v lo hi ≤ hi := by
  unfold Bd at h
  unfold wt clamp
  omega

theorem waits_eq (hs : 0 ≤ s ∧ s ≤ 1125899906842624) (hv : 0 ≤ v ∧ v ≤ 1125899906842624) : f20 (s, v, r, lo, hi) = some ((s, v, wt s v lo hi, lo, hi), ()) := by
  unfold f20 wt
  simp only [clamp_eq, Option.bind_some, bif_dec, imax_eq]
  rw [w64 (n := 4 * v) (by omega) (by omega), w64 (by omega) (by omega)]
  refine ite_to (fun h => ?_) (fun h => ?_)
  · rw [if_pos (by omega)]
  · rw [if_neg (by omega)]

theorem calm_ok (h : Ok s v r lo hi) : f13 (s, v, r, lo, hi) = some ((s, v, wt s v lo hi, lo, hi), 0, ()) ∧ f16 (s, v, r, lo, hi) = some ((s, v, wt s v lo hi, lo, hi), 0, ()) := by
  have h' := h
  unfold Ok at h'
  constructor
  · unfold f13
    simp only [(check_ok h).1, waits_eq (show 0 ≤ s ∧ s ≤ 1125899906842624 by omega) (show 0 ≤ v ∧ v ≤ 1125899906842624 by omega), Option.bind_some, bif_bne]
    rw [if_pos trivial]
  · unfold f16 wt
    simp only [(check_ok h).2, clamp2_eq, Option.bind_some, bif_bne, bif_beq, imax_eq]
    rw [if_pos trivial, w64 (n := 4 * v) (by omega) (by omega), w64 (by omega) (by omega)]
    refine ite_to (fun h => ?_) (fun h => ?_)
    · rw [if_neg (by omega)]
    · rw [if_pos (by omega)]

theorem calm_bad (h : ¬ Ok s v r lo hi) : f13 (s, v, r, lo, hi) = some (nul, 230, ()) ∧ f16 (s, v, r, lo, hi) = some (nul, 230, ()) := by
  constructor
  · unfold f13
    rw [(check_bad h).1]; rfl
  · unfold f16
    rw [(check_bad h).2]; rfl

/-! ### a sample -/
def sm (s t : Int) : Int := if s = 0 then t else max 1 ((7 * s + t) / 8)
def vr (s v t : Int) : Int := if s = 0 then t / 2 else (3 * v + max (s - t) (t - s)) / 4

theorem sm_in (hs : 0 ≤ s ∧ s ≤ 1125899906842624) (ht : Time t) : 1 ≤ sm s t ∧ sm s t ≤ 1125899906842624 := by
  unfold Time at ht
  unfold sm
  split <;> omega

theorem vr_in (hs : 0 ≤ s ∧ s ≤ 1125899906842624) (hv : 0 ≤ v ∧ v ≤ 1125899906842624) (ht : Time t) : 0 ≤ vr s v t ∧ vr s v t ≤ 1125899906842624 := by
  unfold Time at ht
  unfold vr
  split <;> omega

theorem tdiv_nn {a b : Int} (h0 : 0 ≤ a) (h1 : a ≤ 9223372036854775807) (hb : 1 ≤ b) : IntKind.i64.wrap (Int.tdiv a b) = a / b := by
  rw [Int.tdiv_eq_ediv_of_nonneg h0]
  have h2 : 0 ≤ a / b := Int.ediv_nonneg h0 (by omega)
  have h3 : a / b ≤ a := Int.ediv_le_self b h0
  exact w64 (by omega) (by omega)

theorem sample_ok (h : Ok s v r lo hi) (ht : Time t) : f9 (s, v, r, lo, hi) t = some ((sm s t, vr s v t, wt (sm s t) (vr s v t) lo hi, lo, hi), 0, ()) := by
  have h' := h
  unfold Ok at h'
  have ht' := ht
  unfold Time at ht'
  unfold f9
  simp only [(check_ok h).1, time_eq, Option.bind_some, bif_bne, bif_beq, bif_dec, bif_not, imax_eq]
  rw [if_pos trivial, if_neg (by omega), if_pos (by omega)]
  have hS := sm_in (s := s) (t := t) ⟨by omega, by omega⟩ ht
  have hV := vr_in (s := s) (v := v) (t := t) ⟨by omega, by omega⟩ ⟨by omega, by omega⟩ ht
  by_cases hs : s = 0
  · rw [if_pos hs]
    rw [tdiv_nn (by omega) (by omega) (by omega)]
    have e1 : sm s t = t := by unfold sm; rw [if_pos hs]
    have e2 : vr s v t = t / 2 := by unfold vr; rw [if_pos hs]
    rw [← e2]
    rw [waits_eq (by omega) hV, e1]
    rfl
  · rw [if_neg hs]
    rw [w64 (n := 7 * s) (by omega) (by omega), w64 (n := 7 * s + t) (by omega) (by omega), w64 (n := 3 * v) (by omega) (by omega), w64 (n := s - t) (by omega) (by omega), w64 (n := t - s) (by omega) (by omega),
      w64 (n := 3 * v + max (s - t) (t - s)) (by omega) (by omega), tdiv_nn (by omega) (by omega) (by omega), tdiv_nn (by omega) (by omega) (by omega)]
    have e1 : max 1 ((7 * s + t) / 8) = sm s t := by unfold sm; rw [if_neg hs]
    have e2 : (3 * v + max (s - t) (t - s)) / 4 = vr s v t := by unfold vr; rw [if_neg hs]
    rw [e1, e2, waits_eq (by omega) hV]
    rfl

theorem sample2_ok (h : Ok s v r lo hi) (ht : Time t) : f14 (s, v, r, lo, hi) t = some ((sm s t, vr s v t, wt (sm s t) (vr s v t) lo hi, lo, hi), 0, ()) := by
  have h' := h
  unfold Ok at h'
  have ht' := ht
  unfold Time at ht'
  unfold f14
  simp only [(check_ok h).2, Option.bind_some, bif_bne, bif_beq, bif_dec, bif_not, imax_eq]
  rw [if_pos trivial, if_neg (by omega), if_neg (by omega)]
  have hS := sm_in (s := s) (t := t) ⟨by omega, by omega⟩ ht
  have hV := vr_in (s := s) (v := v) (t := t) ⟨by omega, by omega⟩ ⟨by omega, by omega⟩ ht
  by_cases hs : s = 0
  · rw [if_pos hs]
    rw [tdiv_nn (by omega) (by omega) (by omega)]
    have e1 : sm s t = t := by unfold sm; rw [if_pos hs]
    have e2 : vr s v t = t / 2 := by unfold vr; rw [if_pos hs]
    rw [← e2]
    have ho : Ok t (vr s v t) r lo hi := by unfold Ok; omega
    rw [(calm_ok ho).2, e1]
    rfl
  · rw [if_neg hs]
    rw [w64 (n := 7 * s) (by omega) (by omega), w64 (n := 7 * s + t) (by omega) (by omega), w64 (n := 3 * v) (by omega) (by omega), w64 (n := s - t) (by omega) (by omega), tdiv_nn (a := 7 * s + t) (by omega) (by omega) (by omega)]
    have e1 : max ((7 * s + t) / 8) 1 = sm s t := by unfold sm; rw [if_neg hs, Int.max_comm]
    have ho : Ok (sm s t) (vr s v t) r lo hi := by unfold Ok; omega
    rw [e1]
    by_cases hd : s - t < 0
    · rw [if_pos hd, w64 (n := 0 - (s - t)) (by omega) (by omega), w64 (n := 3 * v + (0 - (s - t))) (by omega) (by omega), tdiv_nn (by omega) (by omega) (by omega)]
      have e2 : (3 * v + (0 - (s - t))) / 4 = vr s v t := by unfold vr; rw [if_neg hs]; congr 2; omega
      rw [e2, (calm_ok ho).2]
      rfl
    · rw [if_neg hd, w64 (n := 3 * v + (s - t)) (by omega) (by omega), tdiv_nn (by omega) (by omega) (by omega)]
      have e2 : (3 * v + (s - t)) / 4 = vr s v t := by unfold vr; rw [if_neg hs]; congr 2; omega
      rw [e2, (calm_ok ho).2]
      rfl

theorem sample_arg (h : Ok s v r lo hi) (ht : ¬ Time t) : f9 (s, v, r, lo, hi) t = some (nul, 2, ()) ∧ f14 (s, v, r, lo, hi) t = some (nul, 2, ()) := by
  unfold Time at ht
  constructor
  · unfold f9
    simp only [(check_ok h).1, time_eq, Option.bind_some, bif_bne, bif_beq, bif_dec, bif_not]
    rw [if_pos trivial]
    refine ite_to (fun _ => rfl) (fun h1 => ?_)
    rw [if_neg (by omega)]
  · unfold f14
    simp only [(check_ok h).2, Option.bind_some, bif_bne, bif_beq, bif_dec, bif_not]
    rw [if_pos trivial]
    refine ite_to (fun _ => rfl) (fun h1 => ?_)
    rw [if_pos (by omega)]

theorem sample_bad (h : ¬ Ok s v r lo hi) (t : Int) : f9 (s, v, r, lo, hi) t = some (nul, 230, ()) ∧ f14 (s, v, r, lo, hi) t = some (nul, 230, ()) := by
  constructor
  · unfold f9
    rw [(check_bad h).1]; rfl
  · unfold f14
    rw [(check_bad h).2]; rfl

theorem back_ok (h : Ok s v r lo hi) : f11 (s, v, r, lo, hi) = some ((s, v, min hi (2 * r), lo, hi), 0, ()) ∧ f15 (s, v, r, lo, hi) = some ((s, v, min hi (2 * r), lo, hi), 0, ()) := by
  have h' := h
  unfold Ok at h'
  constructor
  · unfold f11
    simp only [(check_ok h).1, Option.bind_some, bif_bne, imin_eq]
    rw [if_pos trivial, w64 (by omega) (by omega)]
  · unfold f15
    simp only [(check_ok h).2, Option.bind_some, bif_bne, imin_eq]
    rw [if_pos trivial, w64 (by omega) (by omega), Int.min_comm]

theorem back_bad (h : ¬ Ok s v r lo hi) : f11 (s, v, r, lo, hi) = some (nul, 230, ()) ∧ f15 (s, v, r, lo, hi) = some (nul, 230, ()) := by
  constructor
  · unfold f11
    rw [(check_bad h).1]; rfl
  · unfold f15
    rw [(check_bad h).2]; rfl

theorem ok_sample (h : Ok s v r lo hi) (ht : Time t) : Ok (sm s t) (vr s v t) (wt (sm s t) (vr s v t) lo hi) lo hi := by
  unfold Ok at h
  have hS := sm_in (s := s) (t := t) ⟨by omega, by omega⟩ ht
  have hV := vr_in (s := s) (v := v) (t := t) ⟨by omega, by omega⟩ ⟨by omega, by omega⟩ ht
  have hW := wt_in (s := sm s t) (v := vr s v t) (lo := lo) (hi := hi) ⟨by omega, by omega, by omega⟩
  unfold Ok
  omega
end
end Go.Proofs.Ythcmknamopabdaa.Qn
