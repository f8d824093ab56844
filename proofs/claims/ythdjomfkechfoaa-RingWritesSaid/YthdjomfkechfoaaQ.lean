/-
  Ring: what its functions come to, in plain words.
-/
import Derived.Test.YthdjomfkechfoaaF
import Derived.Test.YthdjomfkechfoaaVw
import Derived.KernelRfl
namespace Go.Proofs.Ythdjomfkechfoaa.Qn
open Go Go.Proofs.Ythdjomfkechfoaa.Vx Go.Proofs.Ythdjomfkechfoaa.Fn
set_option linter.unusedVariables false
set_option linter.unusedSimpArgs false

theorem heads : f19 = some (true, ()) := by kernel_rfl

abbrev B := List Int
abbrev nul : TRing := (0, [], 0, false)

/-- A ring that may be. -/
def Ok (b : Int) (d : B) (c : Int) : Prop := 0 ≤ b ∧ b ≤ 1125899906842624 ∧ 0 ≤ c ∧ c ≤ 1073741824 ∧ (d.length : Int) ≤ c ∧ b + d.length ≤ 1125899906842624

section
variable {b c : Int} {d : B} {cl : Bool}

theorem check_ok (h : Ok b d c) : f13 (b, d, c, cl) = some (0, ()) ∧ f14 (b, d, c, cl) = some (0, ()) := by
  obtain ⟨h1, h2, h3, h4, h5, h6⟩ := h
  constructor
  · unfold f13
    simp only [bif_dec]
    rw [if_neg (by omega), if_neg (by omega), if_neg (by omega), if_neg (by omega), if_neg (by omega), w64 (by omega) (by omega), if_neg (by omega)]
  · unfold f14
    simp only [bif_dec]
    rw [if_neg (by omega), if_neg (by omega), if_neg (by omega), if_neg (by omega), if_neg (by omega), w64 (by omega) (by omega), if_neg (by omega)]

theorem check_bad (h : ¬ Ok b d c) : f13 (b, d, c, cl) = some (2, ()) ∧ f14 (b, d, c, cl) = some (2, ()) := by
  unfold Ok at h
  constructor
  · unfold f13
    simp only [bif_dec]
    refine ite_to (fun _ => rfl) (fun h1 => ?_)
    refine ite_to (fun _ => rfl) (fun h2 => ?_)
    refine ite_to (fun _ => rfl) (fun h3 => ?_)
    refine ite_to (fun _ => rfl) (fun h4 => ?_)
    refine ite_to (fun _ => rfl) (fun h5 => ?_)
    rw [w64 (by omega) (by omega), if_pos (by omega)]
  · unfold f14
    simp only [bif_dec]
    refine ite_to (fun _ => rfl) (fun h1 => ?_)
    refine ite_to (fun _ => rfl) (fun h2 => ?_)
    refine ite_to (fun _ => rfl) (fun h3 => ?_)
    refine ite_to (fun _ => rfl) (fun h4 => ?_)
    refine ite_to (fun _ => rfl) (fun h5 => ?_)
    rw [w64 (by omega) (by omega), if_pos (by omega)]

theorem end_ok (h : Ok b d c) : f15 (b, d, c, cl) = some (b + d.length, ()) ∧ f16 (b, d, c, cl) = some (b + d.length, ()) := by
  have q := check_ok (cl := cl) h
  obtain ⟨h1, h2, h3, h4, h5, h6⟩ := h
  constructor
  · unfold f15
    rw [q.1]
    simp only [Option.bind_some, bif_bne]
    rw [if_pos trivial, w64 (by omega) (by omega)]
  · unfold f16
    rw [q.2]
    simp only [Option.bind_some, bif_bne]
    rw [if_pos trivial, w64 (by omega) (by omega)]

theorem end_bad (h : ¬ Ok b d c) : f15 (b, d, c, cl) = some (0, ()) ∧ f16 (b, d, c, cl) = some (0, ()) := by
  constructor
  · unfold f15
    rw [(check_bad h).1]; rfl
  · unfold f16
    rw [(check_bad h).2]; rfl

def room (b : Int) (d : B) (c : Int) (cl : Bool) : Int := bif cl then 0 else min (c - d.length) (1125899906842624 - (b + d.length))

theorem room_ok (h : Ok b d c) : f17 (b, d, c, cl) = some (room b d c cl, ()) ∧ f18 (b, d, c, cl) = some (room b d c cl, ()) := by
  have q := check_ok (cl := cl) h
  have e := end_ok (cl := cl) h
  obtain ⟨h1, h2, h3, h4, h5, h6⟩ := h
  constructor
  · unfold f17
    rw [q.1, e.1]
    simp only [Option.bind_some, bif_bne, imin_eq]
    rw [if_pos trivial, w64 (n := c - d.length) (by omega) (by omega), w64 (by omega) (by omega)]
    cases cl <;> rfl
  · unfold f18
    rw [q.2, e.2]
    simp only [Option.bind_some, bif_bne, imin_eq]
    rw [if_pos trivial, w64 (n := c - d.length) (by omega) (by omega), w64 (by omega) (by omega)]
    cases cl <;> rfl

theorem room_bad (h : ¬ Ok b d c) : f17 (b, d, c, cl) = some (0, ()) ∧ f18 (b, d, c, cl) = some (0, ()) := by
  constructor
  · unfold f17
    rw [(check_bad h).1]; rfl
  · unfold f18
    rw [(check_bad h).2]; rfl

theorem copied {x y : B} (h : x.length + y.length ≤ 281474976710656) : f25 x y = some (x ++ y, ()) := by
  unfold f25
  rw [bif_dec, if_pos h]

theorem own_ok {r : TRing} {x : B} (h : x.length ≤ 140737488355328) : f26 r x = some ((r.1, x, r.2.2.1, r.2.2.2), ()) := by
  unfold f26
  rw [bif_dec, if_pos (by omega)]
  rfl

theorem ok_len (h : Ok b d c) : d.length ≤ 1073741824 := by
  obtain ⟨h1, h2, h3, h4, h5, h6⟩ := h
  omega

/-! ### the end -/
theorem close_ok (h : Ok b d c) : f10 (b, d, c, false) = some ((b, d, c, true), 0, ()) ∧ f11 (b, d, c, false) = some ((b, d, c, true), 0, ()) := by
  have hl := ok_len h
  constructor
  · unfold f10
    rw [(check_ok h).1, copied (by simp only [List.length_nil]; omega)]
    simp only [Option.bind_some, bif_bne, cond_false, List.append_nil]
    rw [if_pos trivial]
  · unfold f11
    dsimp only
    rw [(check_ok h).2, own_ok (by omega)]
    simp only [Option.bind_some, bif_bne, cond_false]
    rw [if_pos trivial]

theorem close_end (h : Ok b d c) : f10 (b, d, c, true) = some (nul, 71, ()) ∧ f11 (b, d, c, true) = some (nul, 71, ()) := by
  constructor
  · unfold f10
    rw [(check_ok h).1]; rfl
  · unfold f11
    rw [(check_ok h).2]; rfl

theorem close_bad (h : ¬ Ok b d c) : f10 (b, d, c, cl) = some (nul, 2, ()) ∧ f11 (b, d, c, cl) = some (nul, 2, ()) := by
  constructor
  · unfold f10
    rw [(check_bad h).1]; rfl
  · unfold f11
    rw [(check_bad h).2]; rfl

/-! ### bytes let go -/
theorem rel_ok (h : Ok b d c) {t : Int} (h0 : b ≤ t) (h1 : t ≤ b + d.length) : f20 (b, d, c, cl) t = some ((t, d.drop (t - b).toNat, c, cl), 0, ()) ∧ f21 (b, d, c, cl) t = some ((t, d.drop (t - b).toNat, c, cl), 0, ()) := by
  have hl := ok_len h
  have q := check_ok (cl := cl) h
  have e := end_ok (cl := cl) h
  obtain ⟨k1, k2, k3, k4, k5, k6⟩ := h
  have w : IntKind.i64.wrap (t - b) = t - b := w64 (by omega) (by omega)
  have ht : (d.drop (t - b).toNat).take ((d.length : Int) - (t - b)).toNat = d.drop (t - b).toNat := List.take_of_length_le (by rw [List.length_drop]; omega)
  have hb : (decide ((0 : Int) ≤ t - b) && (decide (t - b ≤ ((d.length : Nat) : Int)) && decide (((d.length : Nat) : Int) ≤ ((d.length : Nat) : Int)))) = true := by
    simp only [Bool.and_eq_true, decide_eq_true_eq]; omega
  have hdl : (d.drop (t - b).toNat).length ≤ d.length := by rw [List.length_drop]; omega
  constructor
  · unfold f20
    dsimp only
    rw [q.1, e.1, w, ht, hb, copied (by simp only [List.length_nil]; omega)]
    simp only [Option.bind_some, bif_bne, bif_dec, cond_true, List.append_nil]
    rw [if_pos trivial, if_neg (by omega), if_neg (by omega)]
  · unfold f21
    dsimp only
    rw [q.2, e.2, w, ht, hb, own_ok (by omega)]
    simp only [Option.bind_some, bif_bne, bif_dec, cond_true]
    rw [if_pos trivial, if_neg (by omega), if_neg (by omega)]

theorem rel_bad {t : Int} (h : ¬ (Ok b d c ∧ b ≤ t ∧ t ≤ b + d.length)) : f20 (b, d, c, cl) t = some (nul, 2, ()) ∧ f21 (b, d, c, cl) t = some (nul, 2, ()) := by
  by_cases ho : Ok b d c
  · have q := check_ok (cl := cl) ho
    have e := end_ok (cl := cl) ho
    constructor
    · unfold f20
      dsimp only
      rw [q.1, e.1]
      simp only [Option.bind_some, bif_bne, bif_dec]
      rw [if_pos trivial]
      refine ite_to (fun _ => rfl) (fun h1 => ?_)
      refine ite_to (fun _ => rfl) (fun h2 => ?_)
      exact absurd ⟨ho, by omega, by omega⟩ h
    · unfold f21
      dsimp only
      rw [q.2, e.2]
      simp only [Option.bind_some, bif_bne, bif_dec]
      rw [if_pos trivial]
      refine ite_to (fun _ => rfl) (fun h1 => ?_)
      refine ite_to (fun _ => rfl) (fun h2 => ?_)
      exact absurd ⟨ho, by omega, by omega⟩ h
  · constructor
    · unfold f20
      rw [(check_bad ho).1]; rfl
    · unfold f21
      rw [(check_bad ho).2]; rfl

/-! ### bytes out of it -/
def cutOut (b : Int) (d : B) (x y : Int) : B := (d.drop (x - b).toNat).take (y - x).toNat

theorem slice_ok (h : Ok b d c) {x y : Int} (h0 : b ≤ x) (h1 : x ≤ y) (h2 : y ≤ b + d.length) : f22 (b, d, c, cl) x y = some (cutOut b d x y, 0, ()) ∧ f23 (b, d, c, cl) x y = some (cutOut b d x y, 0, ()) := by
  have hl := ok_len h
  have q := check_ok (cl := cl) h
  have e := end_ok (cl := cl) h
  obtain ⟨k1, k2, k3, k4, k5, k6⟩ := h
  have w1 : IntKind.i64.wrap (x - b) = x - b := w64 (by omega) (by omega)
  have w2 : IntKind.i64.wrap (y - b) = y - b := w64 (by omega) (by omega)
  have hp : (d.drop (x - b).toNat).take (y - b - (x - b)).toNat = cutOut b d x y := by
    unfold cutOut
    congr 2
    omega
  have hb : (decide ((0 : Int) ≤ x - b) && (decide (x - b ≤ y - b) && decide (y - b ≤ ((d.length : Nat) : Int)))) = true := by
    simp only [Bool.and_eq_true, decide_eq_true_eq]; omega
  have hdl : (cutOut b d x y).length ≤ d.length := by unfold cutOut; rw [List.length_take, List.length_drop]; omega
  constructor
  · unfold f22
    dsimp only
    rw [q.1, e.1, w1, w2, hp, hb, copied (by simp only [List.length_nil]; omega)]
    simp only [Option.bind_some, bif_bne, bif_dec, cond_true, List.append_nil]
    rw [if_pos trivial, if_neg (by omega), if_neg (by omega), if_neg (by omega), if_pos trivial]
  · unfold f23
    dsimp only
    rw [q.2, e.2, w1, w2, hp, hb]
    simp only [Option.bind_some, bif_bne, bif_dec, cond_true, List.nil_append]
    rw [if_pos trivial, if_neg (by omega), if_neg (by omega), if_neg (by omega), if_pos (by omega)]

theorem slice_bad {x y : Int} (h : ¬ (Ok b d c ∧ b ≤ x ∧ x ≤ y ∧ y ≤ b + d.length)) : f22 (b, d, c, cl) x y = some ([], 2, ()) ∧ f23 (b, d, c, cl) x y = some ([], 2, ()) := by
  by_cases ho : Ok b d c
  · have q := check_ok (cl := cl) ho
    have e := end_ok (cl := cl) ho
    constructor
    · unfold f22
      dsimp only
      rw [q.1, e.1]
      simp only [Option.bind_some, bif_bne, bif_dec]
      rw [if_pos trivial]
      refine ite_to (fun _ => rfl) (fun h1 => ?_)
      refine ite_to (fun _ => rfl) (fun h2 => ?_)
      refine ite_to (fun _ => rfl) (fun h3 => ?_)
      exact absurd ⟨ho, by omega, by omega, by omega⟩ h
    · unfold f23
      dsimp only
      rw [q.2, e.2]
      simp only [Option.bind_some, bif_bne, bif_dec]
      rw [if_pos trivial]
      refine ite_to (fun _ => rfl) (fun h1 => ?_)
      refine ite_to (fun _ => rfl) (fun h2 => ?_)
      refine ite_to (fun _ => rfl) (fun h3 => ?_)
      exact absurd ⟨ho, by omega, by omega, by omega⟩ h
  · constructor
    · unfold f22
      rw [(check_bad ho).1]; rfl
    · unfold f23
      rw [(check_bad ho).2]; rfl

/-! ### bytes into it -/
theorem room_range (h : Ok b d c) : 0 ≤ room b d c cl ∧ (d.length : Int) + room b d c cl ≤ c ∧ b + d.length + room b d c cl ≤ 1125899906842624 := by
  obtain ⟨k1, k2, k3, k4, k5, k6⟩ := h
  unfold room
  cases cl <;> simp only [cond_true, cond_false] <;> omega

theorem write_ok (h : Ok b d c) (x : B) : f8 (b, d, c, false) x = some ((b, d ++ x.take (min (x.length : Int) (room b d c false)).toNat, c, false), min (x.length : Int) (room b d c false), 0, ()) := by
  have hl := ok_len h
  have q := check_ok (cl := false) h
  have e := room_ok (cl := false) h
  have rr := room_range (cl := false) h
  obtain ⟨k1, k2, k3, k4, k5, k6⟩ := h
  unfold f8
  dsimp only
  rw [q.1, e.1]
  simp only [Option.bind_some, bif_bne, cond_false, imin_eq]
  generalize room b d c false = m at rr ⊢
  have hb : (true && (decide ((0 : Int) ≤ min ((x.length : Nat) : Int) m) && decide (min ((x.length : Nat) : Int) m ≤ ((x.length : Nat) : Int)))) = true := by
    simp only [Bool.and_eq_true, decide_eq_true_eq, true_and]; omega
  have hx : (x.drop (0 : Int).toNat).take (min ((x.length : Nat) : Int) m - 0).toNat = x.take (min (x.length : Int) m).toNat := by
    simp
  have hxl : (x.take (min (x.length : Int) m).toNat).length ≤ 1073741824 := by rw [List.length_take]; omega
  rw [if_pos trivial, hb, hx, copied (by omega)]
  simp only [cond_true, bif_dec, Option.bind_some]
  rw [if_pos trivial]

theorem write_end (h : Ok b d c) (x : B) : f8 (b, d, c, true) x = some (nul, 0, 71, ()) := by
  unfold f8
  rw [(check_ok h).1]; rfl

theorem write_bad (h : ¬ Ok b d c) (x : B) : f8 (b, d, c, cl) x = some (nul, 0, 2, ()) := by
  unfold f8
  rw [(check_bad h).1]; rfl

theorem size {d : B} (h : d.length * 1 ≤ 140737488351232) : d.length ≤ 140737488355328 := by omega

theorem str_refl (a : ByteArray) : (BEq.beq (α := ByteArray) a a) = true := by
  obtain ⟨d⟩ := a
  show ByteArray.beq _ _ = true
  simp [ByteArray.beq]

theorem same_refl (x : B) : f24 x x = some (true, ()) := by
  unfold f24
  rw [str_refl]

theorem ring_refl (r : TRing) : f12 r r = some (true, ()) := by
  unfold f12
  simp [same_refl]
end
end Go.Proofs.Ythdjomfkechfoaa.Qn
