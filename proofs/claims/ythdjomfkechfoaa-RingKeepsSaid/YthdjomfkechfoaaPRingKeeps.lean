/-
  RingKeeps, in plain words.
-/
import Derived.Test.YthdjomfkechfoaaG
import Derived.Test.YthdjomfkechfoaaVu
import Derived.Test.YthdjomfkechfoaaQ
namespace Go.Proofs.Ythdjomfkechfoaa.ringKeeps
open Go Go.Proofs.Ythdjomfkechfoaa.Vx Go.Proofs.Ythdjomfkechfoaa.Gn Go.Proofs.Ythdjomfkechfoaa.Fn Go.Proofs.Ythdjomfkechfoaa.Qn
set_option linter.unusedVariables false
set_option linter.unusedSimpArgs false

def tl (k1 : Int → (List ((List (Int)))) → (List (Int)) → Int → (List (Int)) → TRing → Option (Bool × Unit)) (s1 : Int) (s2 : List ((List (Int)))) (s3 : List (Int)) (s4 : Int) (A : List Int) (r : TRing) : Option (Bool × Unit) :=
  (f15 r).bind fun r10 =>
  bif r10.1 != ((A.length : Nat) : Int) then some (false, ()) else
  bif decide (r.1 > ((A.length : Nat) : Int)) then some (false, ()) else
  bif decide (((r.2.1.length : Nat) : Int) > s1) then some (false, ()) else
  (f15 r).bind fun r11 =>
  (f22 r r.1 r11.1).bind fun r12 =>
  bif r12.2.1 != (0 : Int) then some (false, ()) else
  bif (decide ((0 : Int) ≤ r.1)) && ((decide (r.1 ≤ ((A.length : Nat) : Int))) && (decide (((A.length : Nat) : Int) ≤ ((A.length : Nat) : Int)))) then
    (f24 r12.1 ((A.drop r.1.toNat).take (((A.length : Nat) : Int) - r.1).toNat)).bind fun r13 =>
    bif !r13.1 then some (false, ()) else
    k1 s1 s2 s3 (IntKind.i64.wrap (s4 + (1 : Int))) A r
  else none

def ct (k1 : Int → (List ((List (Int)))) → (List (Int)) → Int → (List (Int)) → TRing → Option (Bool × Unit)) (s1 : Int) (s2 : List ((List (Int)))) (s3 : List (Int)) (s4 : Int) (A : List Int) (r : TRing) : Option (Bool × Unit) :=
  bif decide (s4 < ((s3.length : Nat) : Int)) then
    (getI s3 s4).bind fun e7 =>
    (f20 r (IntKind.i64.wrap (r.1 + (ibits .and .i64 e7 (7 : Int))))).bind fun r8 =>
    (f15 r).bind fun r9 =>
    bif !((r8.2.1 == (0 : Int)) == (decide ((IntKind.i64.wrap (r.1 + (ibits .and .i64 e7 (7 : Int)))) ≤ r9.1))) then some (false, ()) else
    bif r8.2.1 == (0 : Int) then tl k1 s1 s2 s3 s4 A r8.1 else tl k1 s1 s2 s3 s4 A r
  else tl k1 s1 s2 s3 s4 A r

theorem step_eq (k1 : Int → (List ((List (Int)))) → (List (Int)) → Int → (List (Int)) → TRing → Option (Bool × Unit)) (s1 : Int) (s2 : List ((List (Int)))) (s3 : List (Int)) (s4 : Int) (s5 : List Int) (s6 : TRing) : f5s1 k1 s1 s2 s3 s4 s5 s6 =
    bif decide (s4 < ((s2.length : Nat) : Int)) then
      (getI s2 s4).bind fun e1 =>
      (f8 s6 e1).bind fun r2 =>
      bif r2.2.2.1 != (0 : Int) then some (false, ()) else
      bif decide (r2.2.1 < (0 : Int)) then some (false, ()) else
      (getI s2 s4).bind fun e3 =>
      bif decide (r2.2.1 > ((e3.length : Nat) : Int)) then some (false, ()) else
      (getI s2 s4).bind fun e4 =>
      bif decide (r2.2.1 < ((e4.length : Nat) : Int)) then
        (f17 r2.1).bind fun r5 =>
        bif r5.1 != (0 : Int) then some (false, ()) else
        (getI s2 s4).bind fun e6 =>
        bif true && ((decide ((0 : Int) ≤ r2.2.1)) && (decide (r2.2.1 ≤ ((e6.length : Nat) : Int)))) then
          bif decide ((s5.length + ((e6.drop (0 : Int).toNat).take (r2.2.1 - (0 : Int)).toNat).length) * 1 ≤ 140737488355328) then
            ct k1 s1 s2 s3 s4 (s5 ++ ((e6.drop (0 : Int).toNat).take (r2.2.1 - (0 : Int)).toNat)) r2.1
          else none
        else none
      else
        (getI s2 s4).bind fun e6 =>
        bif true && ((decide ((0 : Int) ≤ r2.2.1)) && (decide (r2.2.1 ≤ ((e6.length : Nat) : Int)))) then
          bif decide ((s5.length + ((e6.drop (0 : Int).toNat).take (r2.2.1 - (0 : Int)).toNat).length) * 1 ≤ 140737488355328) then
            ct k1 s1 s2 s3 s4 (s5 ++ ((e6.drop (0 : Int).toNat).take (r2.2.1 - (0 : Int)).toNat)) r2.1
          else none
        else none
    else
      (f19).bind fun r38 =>
      some (r38.1, ()) := rfl

theorem seven (e : Int) : 0 ≤ ibits .and .i64 e 7 ∧ ibits .and .i64 e 7 ≤ 7 := by
  unfold ibits
  have h : (BitVec.ofInt IntKind.i64.bits e &&& BitVec.ofInt IntKind.i64.bits 7).toNat ≤ 7 := by
    rw [BitVec.toNat_and]
    exact Nat.le_trans Nat.and_le_right (by decide)
  generalize (BitVec.ofInt IntKind.i64.bits e &&& BitVec.ofInt IntKind.i64.bits 7).toNat = n at h ⊢
  simp only
  rw [w64 (by omega) (by omega)]
  omega

theorem tl_ok {k1 : Int → (List ((List (Int)))) → (List (Int)) → Int → (List (Int)) → TRing → Option (Bool × Unit)} {s1 : Int} {s2 : List ((List (Int)))} {s3 : List (Int)} {s4 : Int} {A : List Int} {b : Int} {d : B} {c : Int}
    (h : Ok b d c) (hc : c ≤ s1) (hA : b + d.length = A.length) (hd : d = A.drop b.toNat) : tl k1 s1 s2 s3 s4 A (b, d, c, false) = k1 s1 s2 s3 (IntKind.i64.wrap (s4 + 1)) A (b, d, c, false) := by
  have h' := h
  obtain ⟨q1, q2, q3, q4, q5, q6⟩ := h'
  have hs := (slice_ok (cl := false) h (x := b) (y := b + d.length) (Int.le_refl _) (by omega) (Int.le_refl _)).1
  have hp : cutOut b d b (b + d.length) = d := by
    unfold cutOut
    rw [show (b - b).toNat = 0 by omega, List.drop_zero]
    exact List.take_of_length_le (by omega)
  have hx : (A.drop b.toNat).take (((A.length : Nat) : Int) - b).toNat = d := by
    rw [← hd]
    exact List.take_of_length_le (by omega)
  have hb : (decide ((0 : Int) ≤ b) && (decide (b ≤ ((A.length : Nat) : Int)) && decide (((A.length : Nat) : Int) ≤ ((A.length : Nat) : Int)))) = true := by
    simp only [Bool.and_eq_true, decide_eq_true_eq]; omega
  unfold tl
  dsimp only
  rw [(end_ok h).1]
  simp only [Option.bind_some, hs, hp, hx, hb, same_refl, bif_bne, bif_dec, cond_true, Bool.not_true, cond_false]
  rw [if_pos hA, if_neg (by omega), if_neg (by omega), if_pos trivial]

theorem loop (cap : Int) (s2 : List B) (s3 : List Int) (hcap : 0 ≤ cap ∧ cap ≤ 1000) (h100 : s2.length ≤ 100) : ∀ (k i : Nat) (A : B) (b : Int) (d : B), i ≤ s2.length → s2.length - i < k →
    Ok b d cap → b + d.length = A.length → d = A.drop b.toNat → A.length ≤ 1000 * i → f5L k cap s2 s3 (i : Nat) A (b, d, cap, false) = some (true, ())
  | 0, i, A, b, d, hi, hk, ho, hA, hd, hb => by omega
  | k + 1, i, A, b, d, hi, hk, ho, hA, hd, hb => by
    show f5s1 (f5L k) cap s2 s3 (i : Nat) A (b, d, cap, false) = _
    rw [step_eq, bif_dec, heads]
    refine ite_to (fun c => ?_) (fun c => rfl)
    have hil : i < s2.length := by omega
    rw [getI_nat hil]
    simp only [Option.bind_some]
    generalize s2[i] = e
    rw [write_ok ho]
    have rr := room_range (cl := false) ho
    have ho' := ho
    obtain ⟨q1, q2, q3, q4, q5, q6⟩ := ho'
    have hrm : room b d cap false = min (cap - d.length) (1125899906842624 - (b + d.length)) := rfl
    generalize hm : room b d cap false = m at rr hrm ⊢
    obtain ⟨n, hn⟩ : ∃ n, n = min (e.length : Int) m := ⟨_, rfl⟩
    have hn0 : 0 ≤ n := by omega
    rw [← hn]
    have hx : (e.drop (0 : Int).toNat).take (n - 0).toNat = e.take n.toNat := by simp
    have hxl : ((e.take n.toNat).length : Int) = n := by rw [List.length_take]; omega
    have hbd : (true && (decide ((0 : Int) ≤ n) && decide (n ≤ ((e.length : Nat) : Int)))) = true := by
      simp only [Bool.and_eq_true, decide_eq_true_eq, true_and]; omega
    have hl2 : (d ++ e.take n.toNat).length = d.length + (e.take n.toNat).length := List.length_append
    have hl3 : (A ++ e.take n.toNat).length = A.length + (e.take n.toNat).length := List.length_append
    have ho2 : Ok b (d ++ e.take n.toNat) cap := ⟨q1, q2, q3, q4, by omega, by omega⟩
    have hd2 : d ++ e.take n.toNat = (A ++ e.take n.toNat).drop b.toNat := by
      rw [List.drop_append_of_le_length (by omega), ← hd]
    have hA2 : b + (d ++ e.take n.toNat).length = (A ++ e.take n.toNat).length := by omega
    have next : ∀ (b' : Int) (d' : B), Ok b' d' cap → b' + d'.length = (A ++ e.take n.toNat).length → d' = (A ++ e.take n.toNat).drop b'.toNat → f5L k cap s2 s3 (IntKind.i64.wrap ((i : Int) + 1)) (A ++ e.take n.toNat) (b', d', cap, false) = some (true, ()) := by
      intro b' d' h1 h2 h3
      rw [w64 (by omega) (by omega), show (i : Int) + 1 = ((i + 1 : Nat) : Int) by omega]
      exact loop cap s2 s3 hcap h100 k (i + 1) (A ++ e.take n.toNat) b' d' (by omega) (by omega) h1 h2 h3 (by omega)
    have cont : ct (f5L k) cap s2 s3 (i : Nat) (A ++ e.take n.toNat) (b, d ++ e.take n.toNat, cap, false) = some (true, ()) := by
      have same : tl (f5L k) cap s2 s3 (i : Nat) (A ++ e.take n.toNat) (b, d ++ e.take n.toNat, cap, false) = some (true, ()) := by
        rw [tl_ok ho2 (Int.le_refl _) hA2 hd2]
        exact next b _ ho2 hA2 hd2
      unfold ct
      dsimp only
      rw [bif_dec]
      refine ite_to (fun c2 => ?_) (fun c2 => same)
      rw [getI_nat (show i < s3.length by omega)]
      simp only [Option.bind_some]
      have h7 := seven (s3[i]'(by omega))
      generalize ibits .and .i64 (s3[i]'(by omega)) 7 = j at h7 ⊢
      rw [w64 (by omega) (by omega), (end_ok ho2).1]
      by_cases hr : b + j ≤ b + (d ++ e.take n.toNat).length
      · rw [(rel_ok ho2 (by omega) hr).1]
        simp only [Option.bind_some]
        rw [decide_eq_true hr]
        simp only [beq_self_eq_true, Bool.not_true, cond_false, cond_true]
        rw [show (b + j - b).toNat = j.toNat by omega]
        have hlr : ((d ++ e.take n.toNat).drop j.toNat).length = (d ++ e.take n.toNat).length - j.toNat := List.length_drop
        have ho3 : Ok (b + j) ((d ++ e.take n.toNat).drop j.toNat) cap := ⟨by omega, by omega, q3, q4, by omega, by omega⟩
        have hA3 : b + j + ((d ++ e.take n.toNat).drop j.toNat).length = (A ++ e.take n.toNat).length := by omega
        have hd3 : (d ++ e.take n.toNat).drop j.toNat = (A ++ e.take n.toNat).drop (b + j).toNat := by
          rw [hd2, List.drop_drop]
          congr 1
          omega
        rw [tl_ok ho3 (Int.le_refl _) hA3 hd3]
        exact next _ _ ho3 hA3 hd3
      · rw [(rel_bad (fun h => hr h.2.2)).1]
        simp only [Option.bind_some]
        rw [decide_eq_false hr]
        exact same
    simp only [Option.bind_some]
    rw [hx, hbd]
    simp only [Option.bind_some, bif_bne, bif_dec, cond_true]
    rw [if_pos trivial, if_neg (by omega), if_neg (by omega)]
    refine ite_to (fun c3 => ?_) (fun c3 => by rw [if_pos (by omega)]; exact cont)
    rw [(room_ok ho2).1]
    have hr0 : room b (d ++ e.take n.toNat) cap false = 0 := by
      show min (cap - ((d ++ e.take n.toNat).length : Int)) (1125899906842624 - (b + ((d ++ e.take n.toNat).length : Int))) = 0
      omega
    rw [hr0]
    simp only [Option.bind_some]
    rw [if_pos trivial, if_pos (by omega)]
    exact cont

theorem plain (cap : Int) (ws : List B) (rs : List Int) : f5 cap ws rs = some (true, ()) := by
  unfold f5 f5e
  simp only [bif_dec, heads, Option.bind_some]
  refine ite_to (fun _ => rfl) (fun c1 => ?_)
  refine ite_to (fun _ => rfl) (fun c2 => ?_)
  refine ite_to (fun _ => rfl) (fun c3 => ?_)
  exact loop cap ws rs (by omega) (by omega) _ 0 [] 0 [] (by omega) (by omega) ⟨by omega, by omega, by omega, by omega, by simp; omega, by simp⟩ (by simp) rfl (by simp)

theorem pure_law (x : Den s5.ps) (hf : DenFits s5.ps x) : s5.F x = some (true, ()) := plain x.1 x.2.1 x.2.2.1
end Go.Proofs.Ythdjomfkechfoaa.ringKeeps
