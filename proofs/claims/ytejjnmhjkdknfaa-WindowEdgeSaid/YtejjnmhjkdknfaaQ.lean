/-
  Window: what its functions come to, in plain words.
-/
import Derived.Test.YtejjnmhjkdknfaaF
import Derived.Test.YtejjnmhjkdknfaaVw
import Derived.KernelRfl
namespace Go.Proofs.Ytejjnmhjkdknfaa.Qn
open Go Go.Proofs.Ytejjnmhjkdknfaa.Vx Go.Proofs.Ytejjnmhjkdknfaa.Fn
set_option linter.unusedVariables false
set_option linter.unusedSimpArgs false

theorem heads : f9 = some (true, ()) := by kernel_rfl

abbrev nul : TWindow := (0, 0, 0, 0, 0, 0, 0)

/-- What is known, if it may be. -/
def Ok (una size edge wl1 wl2 most tries : Int) : Prop :=
  0 ≤ una ∧ una ≤ 1125900980584448 ∧ 0 ≤ edge ∧ edge ≤ 1125900980584448 ∧ 0 ≤ wl1 ∧ wl1 ≤ 1125900980584448 ∧ 0 ≤ wl2 ∧ wl2 ≤ 1125900980584448 ∧ 0 ≤ size ∧ size ≤ 1073741824 ∧ 0 ≤ most ∧ most ≤ 1073741824 ∧
  0 ≤ tries ∧ tries ≤ 100 ∧ size ≤ most ∧ wl2 + size ≤ edge
def Fit (w : TWindow) : Prop := Ok w.1 w.2.1 w.2.2.1 w.2.2.2.1 w.2.2.2.2.1 w.2.2.2.2.2.1 w.2.2.2.2.2.2

theorem check_fit {a1 a2 a3 a4 a5 a6 a7 : Int} (h : Ok a1 a2 a3 a4 a5 a6 a7) : f8 (a1, a2, a3, a4, a5, a6, a7) = some (0, ()) := by
  unfold f8
  simp only [f23, Option.bind_some, bif_dec]
  unfold Ok at h
  rw [w64 (by omega) (by omega)]
  repeat' (refine ite_to (fun _ => ?_) (fun _ => ?_))
  all_goals first
    | rfl
    | (exfalso; omega)

theorem check_unfit {a1 a2 a3 a4 a5 a6 a7 : Int} (h : ¬ Ok a1 a2 a3 a4 a5 a6 a7) : f8 (a1, a2, a3, a4, a5, a6, a7) = some (230, ()) := by
  unfold f8
  simp only [f23, Option.bind_some, bif_dec]
  unfold Ok at h
  repeat' (refine ite_to (fun _ => ?_) (fun _ => ?_))
  all_goals first
    | rfl
    | (exfalso
       have hw : IntKind.i64.wrap (a5 + a2) = a5 + a2 := w64 (by omega) (by omega)
       simp only [hw] at *
       omega)

theorem far_eq (n : Int) : f26 n = some (decide (0 ≤ n ∧ n ≤ 1125900980584448), ()) := by
  unfold f26
  rw [bif_dec]
  refine ite_to (fun h => ?_) (fun h => ?_)
  · congr 2
    rw [decide_eq_decide]; omega
  · congr 2
    rw [eq_comm, decide_eq_false_iff_not]; omega

theorem size_eq (n : Int) : f25 n = some (decide (0 ≤ n ∧ n ≤ 1073741824), ()) := by
  unfold f25
  rw [bif_dec]
  refine ite_to (fun h => ?_) (fun h => ?_)
  · congr 2
    rw [decide_eq_decide]; omega
  · congr 2
    rw [eq_comm, decide_eq_false_iff_not]; omega

theorem off_eq (n : Int) : f24 n = some (decide (0 ≤ n ∧ n ≤ 1125899906842624), ()) := by
  unfold f24
  rw [bif_dec]
  refine ite_to (fun h => ?_) (fun h => ?_)
  · congr 2
    rw [decide_eq_decide]; omega
  · congr 2
    rw [eq_comm, decide_eq_false_iff_not]; omega

theorem check2_fit {a1 a2 a3 a4 a5 a6 a7 : Int} (h : Ok a1 a2 a3 a4 a5 a6 a7) : f17 (a1, a2, a3, a4, a5, a6, a7) = some (0, ()) := by
  unfold f17
  simp only [far_eq, size_eq, Option.bind_some, bif_not, bif_dec]
  unfold Ok at h
  rw [w64 (by omega) (by omega)]
  repeat' (refine ite_to (fun _ => ?_) (fun _ => ?_))
  all_goals first
    | rfl
    | (exfalso; omega)

theorem check2_unfit {a1 a2 a3 a4 a5 a6 a7 : Int} (h : ¬ Ok a1 a2 a3 a4 a5 a6 a7) : f17 (a1, a2, a3, a4, a5, a6, a7) = some (230, ()) := by
  unfold f17
  simp only [far_eq, size_eq, Option.bind_some, bif_not, bif_dec]
  unfold Ok at h
  repeat' (refine ite_to (fun _ => ?_) (fun _ => ?_))
  all_goals first
    | rfl
    | (exfalso
       have hw : IntKind.i64.wrap (a5 + a2) = a5 + a2 := w64 (by omega) (by omega)
       simp only [hw] at *
       omega)

/-! ### told -/
def told (a1 a2 a3 a4 a5 a6 a7 at_ ack n : Int) : TWindow :=
  if at_ < a4 ∨ at_ = a4 ∧ ack < a5 then (max a1 ack, a2, a3, a4, a5, a6, a7) else (max a1 ack, n, max a3 (ack + n), at_, ack, max a6 n, if n > 0 then 0 else a7)

def Arg (at_ ack n : Int) : Prop := 0 ≤ at_ ∧ at_ ≤ 1125899906842624 ∧ 0 ≤ ack ∧ ack ≤ 1125899906842624 ∧ 0 ≤ n ∧ n ≤ 1073741824

section
variable {a1 a2 a3 a4 a5 a6 a7 at_ ack n : Int}

theorem told_ok (h : Ok a1 a2 a3 a4 a5 a6 a7) (ha : Arg at_ ack n) : f11 (a1, a2, a3, a4, a5, a6, a7) at_ ack n = some (told a1 a2 a3 a4 a5 a6 a7 at_ ack n, 0, ()) := by
  unfold f11 told
  simp only [check_fit h, f23, Option.bind_some, bif_bne, bif_beq, bif_dec, imax_eq]
  unfold Arg at ha
  unfold Ok at h
  rw [w64 (n := ack + n) (by omega) (by omega)]
  repeat' (refine ite_to (fun _ => ?_) (fun _ => ?_))
  all_goals first
    | (rw [if_pos (by omega)]; done)
    | (rw [if_neg (by omega), if_pos (by omega)]; done)
    | (rw [if_neg (by omega), if_neg (by omega)]; done)
    | exact absurd trivial ‹¬ True›
    | (exfalso; omega)

theorem told2_ok (h : Ok a1 a2 a3 a4 a5 a6 a7) (ha : Arg at_ ack n) : f12 (a1, a2, a3, a4, a5, a6, a7) at_ ack n = some (told a1 a2 a3 a4 a5 a6 a7 at_ ack n, 0, ()) := by
  unfold f12 told
  simp only [check2_fit h, off_eq, size_eq, Option.bind_some, bif_bne, bif_beq, bif_not, bif_dec, imax_eq]
  unfold Arg at ha
  unfold Ok at h
  rw [w64 (n := ack + n) (by omega) (by omega)]
  repeat' (refine ite_to (fun _ => ?_) (fun _ => ?_))
  all_goals first
    | (rw [if_pos (by omega)]; done)
    | (rw [if_neg (by omega), if_pos (by omega)]; done)
    | (rw [if_neg (by omega), if_neg (by omega)]; done)
    | exact absurd trivial ‹¬ True›
    | (exfalso; omega)

theorem told_arg (h : Ok a1 a2 a3 a4 a5 a6 a7) (ha : ¬ Arg at_ ack n) : f11 (a1, a2, a3, a4, a5, a6, a7) at_ ack n = some (nul, 2, ()) ∧ f12 (a1, a2, a3, a4, a5, a6, a7) at_ ack n = some (nul, 2, ()) := by
  unfold Arg at ha
  constructor
  · unfold f11
    simp only [check_fit h, f23, Option.bind_some, bif_bne, bif_beq, bif_dec]
    rw [if_pos trivial]
    repeat' (refine ite_to (fun _ => ?_) (fun _ => ?_))
    all_goals first
      | rfl
      | (exfalso; omega)
  · unfold f12
    simp only [check2_fit h, off_eq, size_eq, Option.bind_some, bif_bne, bif_beq, bif_not, bif_dec]
    rw [if_pos trivial]
    repeat' (refine ite_to (fun _ => ?_) (fun _ => ?_))
    all_goals first
      | rfl
      | (exfalso; omega)

theorem told_bad (h : ¬ Ok a1 a2 a3 a4 a5 a6 a7) : f11 (a1, a2, a3, a4, a5, a6, a7) at_ ack n = some (nul, 230, ()) ∧ f12 (a1, a2, a3, a4, a5, a6, a7) at_ ack n = some (nul, 230, ()) := by
  constructor
  · unfold f11
    rw [check_unfit h]; rfl
  · unfold f12
    rw [check2_unfit h]; rfl

theorem told_fit (h : Ok a1 a2 a3 a4 a5 a6 a7) (ha : Arg at_ ack n) : Fit (told a1 a2 a3 a4 a5 a6 a7 at_ ack n) := by
  unfold told Fit
  unfold Arg at ha
  unfold Ok at h
  split
  · dsimp only [Ok]; omega
  · dsimp only [Ok]
    by_cases hn : n > 0
    · rw [if_pos hn]; omega
    · rw [if_neg hn]; omega

/-! ### the rest -/
theorem tried_ok (h : Ok a1 a2 a3 a4 a5 a6 a7) : f13 (a1, a2, a3, a4, a5, a6, a7) = some ((a1, a2, a3, a4, a5, a6, min 100 (a7 + 1)), 0, ()) ∧ f14 (a1, a2, a3, a4, a5, a6, a7) = some ((a1, a2, a3, a4, a5, a6, min 100 (a7 + 1)), 0, ()) := by
  have h' := h
  unfold Ok at h'
  constructor
  · unfold f13
    simp only [check_fit h, Option.bind_some, bif_bne, imin_eq]
    rw [if_pos trivial, w64 (by omega) (by omega)]
  · unfold f14
    simp only [check2_fit h, Option.bind_some, bif_bne, imin_eq]
    rw [if_pos trivial, w64 (by omega) (by omega), Int.min_comm]

theorem tried_bad (h : ¬ Ok a1 a2 a3 a4 a5 a6 a7) : f13 (a1, a2, a3, a4, a5, a6, a7) = some (nul, 230, ()) ∧ f14 (a1, a2, a3, a4, a5, a6, a7) = some (nul, 230, ()) := by
  constructor
  · unfold f13
    rw [check_unfit h]; rfl
  · unfold f14
    rw [check2_unfit h]; rfl

theorem new_eq (n : Int) : f15 n = f16 n := by
  unfold f15 f16
  simp only [f23, size_eq, Option.bind_some, bif_not, bif_dec]
  repeat' (refine ite_to (fun _ => ?_) (fun _ => ?_))
  · rw [if_neg (by omega)]
  · rw [if_neg (by omega)]
  · rw [if_pos (by omega)]

theorem new_ok (h : 0 ≤ n ∧ n ≤ 1073741824) : f15 n = some ((0, n, n, 0, 0, n, 0), 0, ()) := by
  unfold f15
  simp only [f23, Option.bind_some, bif_dec]
  rw [if_neg (by omega), if_neg (by omega)]

theorem new_bad (h : ¬ (0 ≤ n ∧ n ≤ 1073741824)) : f15 n = some (nul, 2, ()) := by
  unfold f15
  simp only [f23, Option.bind_some, bif_dec]
  repeat' (refine ite_to (fun _ => ?_) (fun _ => ?_))
  all_goals first
    | rfl
    | (exfalso; omega)

theorem right_ok (h : Ok a1 a2 a3 a4 a5 a6 a7) : f18 (a1, a2, a3, a4, a5, a6, a7) = some (a5 + a2, ()) ∧ f19 (a1, a2, a3, a4, a5, a6, a7) = some (a5 + a2, ()) := by
  have h' := h
  unfold Ok at h'
  constructor
  · unfold f18
    simp only [check_fit h, Option.bind_some, bif_bne]
    rw [if_pos trivial, w64 (by omega) (by omega)]
  · unfold f19
    simp only [check2_fit h, Option.bind_some, bif_bne]
    rw [if_pos trivial, w64 (by omega) (by omega)]

theorem right_bad (h : ¬ Ok a1 a2 a3 a4 a5 a6 a7) : f18 (a1, a2, a3, a4, a5, a6, a7) = some (0, ()) ∧ f19 (a1, a2, a3, a4, a5, a6, a7) = some (0, ()) := by
  constructor
  · unfold f18
    rw [check_unfit h]; rfl
  · unfold f19
    rw [check2_unfit h]; rfl

theorem shut_ok (h : Ok a1 a2 a3 a4 a5 a6 a7) : f10 (a1, a2, a3, a4, a5, a6, a7) n = some (decide (a5 + a2 ≤ n), ()) ∧ f20 (a1, a2, a3, a4, a5, a6, a7) n = some (decide (a5 + a2 ≤ n), ()) := by
  constructor
  · unfold f10
    simp only [check_fit h, right_ok h, Option.bind_some, bif_beq]
    rw [if_pos trivial]
  · unfold f20
    simp only [check2_fit h, right_ok h, Option.bind_some, bif_beq]
    rw [if_pos trivial]

theorem shut_bad (h : ¬ Ok a1 a2 a3 a4 a5 a6 a7) : f10 (a1, a2, a3, a4, a5, a6, a7) n = some (false, ()) ∧ f20 (a1, a2, a3, a4, a5, a6, a7) n = some (false, ()) := by
  constructor
  · unfold f10
    rw [check_unfit h]; rfl
  · unfold f20
    rw [check2_unfit h]; rfl

/-! ### waits -/
def step (t : Int) : Int := if 0 < t ∧ t < 1125899906842624 then min 1125899906842624 (2 * t) else t
def dbl : Nat → Int → Int
  | 0, t => t
  | k + 1, t => dbl k (step t)

theorem step_le {t : Int} (h : t ≤ 1125899906842624) : step t ≤ 1125899906842624 := by unfold step; split <;> omega

theorem dbl_stay {t : Int} (h : ¬ (0 < t ∧ t < 1125899906842624)) : ∀ k, dbl k t = t
  | 0 => rfl
  | k + 1 => by
    have e : step t = t := by unfold step; rw [if_neg h]
    show dbl k (step t) = t
    rw [e]
    exact dbl_stay h k

theorem dbl_last : ∀ (k : Nat) (t : Int), dbl (k + 1) t = step (dbl k t)
  | 0, t => rfl
  | k + 1, t => dbl_last k (step t)

def clamp (t lo hi : Int) : Int := max lo (min t hi)

theorem clamp2 (t lo hi : Int) : f28 t lo hi = some (clamp t lo hi, ()) := by
  unfold f28 clamp
  simp only [bif_dec]
  repeat' (refine ite_to (fun _ => ?_) (fun _ => ?_))
  all_goals
    congr 2
    omega

theorem wait_loop (lo hi : Int) : ∀ (m k : Nat) (i t : Int), i + k = a7 → 0 ≤ i → a7 ≤ 100 → t ≤ 1125899906842624 → k < m →
    f21L m lo hi t i (a1, a2, a3, a4, a5, a6, a7) = some (clamp (dbl k t) lo hi, ())
  | 0, k, i, t, h1, h2, h3, h4, h5 => by omega
  | m + 1, k, i, t, h1, h2, h3, h4, h5 => by
    show f21s1 (f21L m) lo hi t i (a1, a2, a3, a4, a5, a6, a7) = _
    unfold f21s1
    simp only [f27, Option.bind_some, bif_dec, imin_eq, imax_eq]
    refine ite_to (fun c1 => ?_) (fun c1 => ?_)
    · refine ite_to (fun c2 => ?_) (fun c2 => ?_)
      · refine ite_to (fun c3 => ?_) (fun c3 => ?_)
        · rw [w64 (n := 2 * t) (by omega) (by omega), w64 (n := i + 1) (by omega) (by omega)]
          cases k with
          | zero => omega
          | succ k =>
            rw [wait_loop lo hi m k (i + 1) _ (by omega) (by omega) h3 (by omega) (by omega)]
            have : step t = min 1125899906842624 (2 * t) := by unfold step; rw [if_pos (by omega)]
            show _ = some (clamp (dbl k (step t)) lo hi, ())
            rw [this]
        · rw [dbl_stay (by omega)]; rfl
      · rw [dbl_stay (by omega)]; rfl
    · have : k = 0 := by omega
      subst this
      rfl

theorem wait2_loop (lo hi : Int) : ∀ (m k : Nat) (i t : Int), i + k = a7 → 0 ≤ i → a7 ≤ 100 → t ≤ 1125899906842624 → k < m →
    f22L m lo hi t i (a1, a2, a3, a4, a5, a6, a7) = some (clamp (dbl k t) lo hi, ())
  | 0, k, i, t, h1, h2, h3, h4, h5 => by omega
  | m + 1, k, i, t, h1, h2, h3, h4, h5 => by
    show f22s1 (f22L m) lo hi t i (a1, a2, a3, a4, a5, a6, a7) = _
    unfold f22s1
    simp only [clamp2, Option.bind_some, bif_dec, imin_eq]
    refine ite_to (fun c1 => ?_) (fun c1 => ?_)
    · refine ite_to (fun c2 => ?_) (fun c2 => ?_)
      · rw [w64 (n := 2 * t) (by omega) (by omega), w64 (n := i + 1) (by omega) (by omega)]
        cases k with
        | zero => omega
        | succ k =>
          rw [wait2_loop lo hi m k (i + 1) _ (by omega) (by omega) h3 (by omega) (by omega)]
          have : step t = min (2 * t) 1125899906842624 := by unfold step; split <;> omega
          show _ = some (clamp (dbl k (step t)) lo hi, ())
          rw [this]
      · rw [dbl_stay (by omega)]
    · have : k = 0 := by omega
      subst this
      rfl

theorem wait_ok (h : Ok a1 a2 a3 a4 a5 a6 a7) (rto lo hi : Int) : f21 (a1, a2, a3, a4, a5, a6, a7) rto lo hi = some (clamp (dbl a7.toNat (min rto 1125899906842624)) lo hi, ()) ∧
    f22 (a1, a2, a3, a4, a5, a6, a7) rto lo hi = some (clamp (dbl a7.toNat (min rto 1125899906842624)) lo hi, ()) := by
  have h' := h
  unfold Ok at h'
  constructor
  · unfold f21 f21e
    simp only [check_fit h, Option.bind_some, bif_bne, imin_eq]
    rw [if_pos trivial]
    exact wait_loop lo hi 1005 a7.toNat 0 _ (by omega) (by omega) (by omega) (by omega) (by omega)
  · unfold f22 f22e
    simp only [check2_fit h, Option.bind_some, bif_bne, imin_eq]
    rw [if_pos trivial]
    exact wait2_loop lo hi 1005 a7.toNat 0 _ (by omega) (by omega) (by omega) (by omega) (by omega)

theorem wait_bad (h : ¬ Ok a1 a2 a3 a4 a5 a6 a7) (rto lo hi : Int) : f21 (a1, a2, a3, a4, a5, a6, a7) rto lo hi = some (0, ()) ∧ f22 (a1, a2, a3, a4, a5, a6, a7) rto lo hi = some (0, ()) := by
  constructor
  · unfold f21 f21e
    rw [check_unfit h]; rfl
  · unfold f22 f22e
    rw [check2_unfit h]; rfl
end

theorem same_w (w : TWindow) : ((w.1 == w.1) && ((w.2.1 == w.2.1) && ((w.2.2.1 == w.2.2.1) && ((w.2.2.2.1 == w.2.2.2.1) && ((w.2.2.2.2.1 == w.2.2.2.2.1) && ((w.2.2.2.2.2.1 == w.2.2.2.2.2.1) && (w.2.2.2.2.2.2 == w.2.2.2.2.2.2))))))) = true := by simp
end Go.Proofs.Ytejjnmhjkdknfaa.Qn
