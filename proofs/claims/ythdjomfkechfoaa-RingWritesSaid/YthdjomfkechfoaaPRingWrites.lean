/-
  RingWrites, in plain words.
-/
import Derived.Test.YthdjomfkechfoaaG
import Derived.Test.YthdjomfkechfoaaVu
import Derived.Test.YthdjomfkechfoaaQ
namespace Go.Proofs.Ythdjomfkechfoaa.ringWrites
open Go Go.Proofs.Ythdjomfkechfoaa.Vx Go.Proofs.Ythdjomfkechfoaa.Gn Go.Proofs.Ythdjomfkechfoaa.Fn Go.Proofs.Ythdjomfkechfoaa.Qn
set_option linter.unusedVariables false
set_option linter.unusedSimpArgs false

theorem ref_ok {b c : Int} {d : B} (h : Ok b d c) (x : B) : f9 (b, d, c, false) x = some ((b, d ++ x.take (min (x.length : Int) (room b d c false)).toNat, c, false), min (x.length : Int) (room b d c false), 0, ()) := by
  have hl := ok_len h
  have q := check_ok (cl := false) h
  have e := room_ok (cl := false) h
  have rr := room_range (cl := false) h
  obtain ⟨k1, k2, k3, k4, k5, k6⟩ := h
  unfold f9
  dsimp only
  rw [q.2, e.2]
  simp only [Option.bind_some, bif_bne, cond_false]
  generalize room b d c false = m at rr ⊢
  have hb : (decide (0 ≤ m) && (decide (m ≤ 1073741824) && decide (d.length ≤ 1073741824))) = true := by
    simp only [Bool.and_eq_true, decide_eq_true_eq]; omega
  rw [if_pos trivial, hb]
  rfl

theorem ref_end {b c : Int} {d : B} (h : Ok b d c) (x : B) : f9 (b, d, c, true) x = some (nul, 0, 71, ()) := by
  unfold f9
  rw [(check_ok h).2]; rfl

theorem ref_bad {b c : Int} {d : B} {cl : Bool} (h : ¬ Ok b d c) (x : B) : f9 (b, d, c, cl) x = some (nul, 0, 2, ()) := by
  unfold f9
  rw [(check_bad h).2]; rfl

theorem writes (b : Int) (d : B) (c : Int) (cl : Bool) (x : B) : ∃ r n e, f8 (b, d, c, cl) x = some (r, n, e, ()) ∧ f9 (b, d, c, cl) x = some (r, n, e, ()) := by
  by_cases h : Ok b d c
  · cases cl
    · exact ⟨_, _, _, write_ok h x, ref_ok h x⟩
    · exact ⟨_, _, _, write_end h x, ref_end h x⟩
  · exact ⟨_, _, _, write_bad h x, ref_bad h x⟩

theorem closes (b : Int) (d : B) (c : Int) (cl : Bool) : ∃ r e, f10 (b, d, c, cl) = some (r, e, ()) ∧ f11 (b, d, c, cl) = some (r, e, ()) := by
  by_cases h : Ok b d c
  · cases cl
    · exact ⟨_, _, close_ok h⟩
    · exact ⟨_, _, close_end h⟩
  · exact ⟨_, _, close_bad h⟩

theorem asks (b : Int) (d : B) (c : Int) (cl : Bool) : ∃ e n m, f13 (b, d, c, cl) = some (e, ()) ∧ f14 (b, d, c, cl) = some (e, ()) ∧ f15 (b, d, c, cl) = some (n, ()) ∧ f16 (b, d, c, cl) = some (n, ()) ∧ f17 (b, d, c, cl) = some (m, ()) ∧ f18 (b, d, c, cl) = some (m, ()) := by
  by_cases h : Ok b d c
  · exact ⟨_, _, _, (check_ok h).1, (check_ok h).2, (end_ok h).1, (end_ok h).2, (room_ok h).1, (room_ok h).2⟩
  · exact ⟨_, _, _, (check_bad h).1, (check_bad h).2, (end_bad h).1, (end_bad h).2, (room_bad h).1, (room_bad h).2⟩

theorem plain (b : Int) (d : B) (c : Int) (cl : Bool) (x : B) (hl : d.length ≤ 140737488355328) : f3 (b, d, c, cl) x = some (true, ()) := by
  unfold f3
  dsimp only
  obtain ⟨r1, n1, e1, p1, p2⟩ := writes b d c cl x
  obtain ⟨r2, e2, p3, p4⟩ := closes b d c cl
  obtain ⟨a1, a2, a3, p5, p6, p7, p8, p9, p10⟩ := asks b d c cl
  rw [List.nil_append, w64 (by omega) (by omega), p1, p2, p3, p4, p5, p6, p7, p8, p9, p10]
  have hd : (0 + d.length) * 1 ≤ 140737488355328 := by omega
  have hb : (decide ((0 : Int) ≤ (0 : Int)) && (decide ((0 : Int) ≤ ((d.length : Nat) : Int) + (20 : Int)) && decide ((1 : Int) * (((d.length : Nat) : Int) + (20 : Int)) ≤ 281474976710656))) = true := by
    simp only [Bool.and_eq_true, decide_eq_true_eq]; omega
  rw [hb]
  simp only [Option.bind_some, ring_refl, heads, bif_beq, bif_dec, cond_true]
  rw [if_pos hd]
  simp

theorem pure_law (x : Den s3.ps) (hf : DenFits s3.ps x) : s3.F x = some (true, ()) := by
  obtain ⟨⟨b, d, c, cl⟩, y, u⟩ := x
  exact plain b d c cl y (size hf.1.2.1.1)
end Go.Proofs.Ythdjomfkechfoaa.ringWrites
