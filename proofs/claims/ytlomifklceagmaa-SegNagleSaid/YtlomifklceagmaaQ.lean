/-
  Seg: what its functions come to, in plain words.
-/
import Derived.Test.YtlomifklceagmaaF
import Derived.Test.YtlomifklceagmaaVw
import Derived.KernelRfl
namespace Go.Proofs.Ytlomifklceagmaa.Qn
open Go Go.Proofs.Ytlomifklceagmaa.Vx Go.Proofs.Ytlomifklceagmaa.Fn
set_option linter.unusedVariables false
set_option linter.unusedSimpArgs false

theorem heads : f14 = some (true, ()) := by kernel_rfl

/-- What is wanted, if it may be. -/
def Ok (nx en ed una mss most : Int) (cl fin : Bool) : Prop :=
  0 ≤ una ∧ una ≤ nx ∧ nx ≤ en ∧ en ≤ 1125899906842624 ∧ 0 ≤ ed ∧ ed ≤ 1125899906842624 ∧ 1 ≤ mss ∧ mss ≤ 65000 ∧ 0 ≤ most ∧ most ≤ 1073741824 ∧ (fin = true → cl = true ∧ nx = en)

section
variable {nx en ed una mss room most : Int} {cl fin nagle force : Bool}

theorem check_ok (h : Ok nx en ed una mss most cl fin) : f10 (nx, en, cl, fin, ed, una, mss, room, most, nagle, force) = some (0, ()) ∧ f11 (nx, en, cl, fin, ed, una, mss, room, most, nagle, force) = some (0, ()) := by
  obtain ⟨h1, h2, h3, h4, h5, h6, h7, h8, h9, h10, h11⟩ := h
  constructor
  · unfold f10
    simp only [bif_dec, bif_not, bif_beq]
    rw [if_pos (by omega), if_pos (by omega), if_pos (by omega), if_pos (by omega), if_pos (by omega), if_pos (by omega), if_pos (by omega), if_pos (by omega), if_pos (by omega), if_pos (by omega)]
    cases fin
    · rfl
    · obtain ⟨q1, q2⟩ := h11 rfl
      subst q1
      simp only [cond_true]
      rw [if_pos q2]
  · unfold f11
    simp only [bif_dec, bif_not, bif_bne]
    rw [if_neg (by omega), if_neg (by omega), if_neg (by omega), if_neg (by omega), if_neg (by omega), if_neg (by omega), if_neg (by omega), if_neg (by omega), if_neg (by omega), if_neg (by omega)]
    cases fin
    · rfl
    · obtain ⟨q1, q2⟩ := h11 rfl
      subst q1
      simp only [cond_true]
      rw [if_pos q2]

theorem check_bad (h : ¬ Ok nx en ed una mss most cl fin) : f10 (nx, en, cl, fin, ed, una, mss, room, most, nagle, force) = some (2, ()) ∧ f11 (nx, en, cl, fin, ed, una, mss, room, most, nagle, force) = some (2, ()) := by
  unfold Ok at h
  constructor
  · unfold f10
    cases fin <;> cases cl <;> simp only [bif_dec, bif_not, bif_beq, cond_true, cond_false] <;> simp only [reduceCtorEq, false_and, true_and, imp_false, not_true_eq_false, not_false_eq_true, and_true, and_false, false_implies, forall_const, true_implies] at h
    all_goals
      repeat' (refine ite_to (fun _ => ?_) (fun _ => ?_))
      all_goals first
        | rfl
        | (exfalso; omega)
  · unfold f11
    cases fin <;> cases cl <;> simp only [bif_dec, bif_not, bif_bne, cond_true, cond_false] <;> simp only [reduceCtorEq, false_and, true_and, imp_false, not_true_eq_false, not_false_eq_true, and_true, and_false, false_implies, forall_const, true_implies] at h
    all_goals
      repeat' (refine ite_to (fun _ => ?_) (fun _ => ?_))
      all_goals first
        | rfl
        | (exfalso; omega)

theorem usable_ok (h : Ok nx en ed una mss most cl fin) : f12 (nx, en, cl, fin, ed, una, mss, room, most, nagle, force) = some (max 0 (ed - nx), ()) ∧ f13 (nx, en, cl, fin, ed, una, mss, room, most, nagle, force) = some (max 0 (ed - nx), ()) := by
  obtain ⟨q1, q2⟩ := check_ok (room := room) (nagle := nagle) (force := force) h
  obtain ⟨h1, h2, h3, h4, h5, h6, h7, h8, h9, h10, h11⟩ := h
  constructor
  · unfold f12
    simp only [q1, Option.bind_some, bif_bne, imax_eq]
    rw [if_pos trivial, w64 (by omega) (by omega)]
  · unfold f13
    simp only [q2, Option.bind_some, bif_bne, imax_eq]
    rw [if_pos trivial, w64 (by omega) (by omega), Int.max_comm]

theorem usable_bad (h : ¬ Ok nx en ed una mss most cl fin) : f12 (nx, en, cl, fin, ed, una, mss, room, most, nagle, force) = some (0, ()) ∧ f13 (nx, en, cl, fin, ed, una, mss, room, most, nagle, force) = some (0, ()) := by
  constructor
  · unfold f12
    rw [(check_bad h).1]; rfl
  · unfold f13
    rw [(check_bad h).2]; rfl

/-- A segment of so many bytes. -/
def cutS (nx en ed : Int) (cl force : Bool) (n : Int) : TCut :=
  (nx, nx + n, cl && (decide (nx + n = en) && (decide (n = 0) || (!force && decide (max 0 (ed - nx) > n)))), decide (nx + n = en) && decide (n > 0))

theorem cut_eq {a b : Int} {f f' p p' : Bool} (h1 : f = f') (h2 : p = p') : (some ((a, b, f, p), ()) : Option (TCut × Unit)) = some ((a, b, f', p'), ()) := by rw [h1, h2]

theorem cut_ok (h : Ok nx en ed una mss most cl fin) {n : Int} (hn : 0 ≤ n) (hm : nx + n ≤ en) : f16 (nx, en, cl, fin, ed, una, mss, room, most, nagle, force) n = some (cutS nx en ed cl force n, ()) := by
  have hu := (usable_ok (room := room) (nagle := nagle) (force := force) h).1
  obtain ⟨h1, h2, h3, h4, h5, h6, h7, h8, h9, h10, h11⟩ := h
  unfold f16 cutS
  rw [hu]
  simp only [Option.bind_some, bif_dec, bif_not, bif_beq]
  rw [w64 (n := nx + n) (by omega) (by omega)]
  cases cl <;> cases force <;> simp only [cond_true, cond_false]
  all_goals
    repeat' (refine ite_to (fun _ => ?_) (fun _ => ?_))
    all_goals
      refine cut_eq ?_ ?_
      all_goals
        rw [Bool.eq_iff_iff]
        simp only [Bool.and_eq_true, Bool.or_eq_true, Bool.not_true, Bool.not_false, Bool.true_and, Bool.false_and, decide_eq_true_eq, Bool.false_eq_true, Bool.or_false, Bool.and_false, iff_false, false_iff, true_iff, iff_true, iff_self]
        try omega

abbrev nul : TCut := (0, 0, false, false)

/-- Which segment goes next. -/
def nxt (nx en ed una mss room most : Int) (cl fin nagle force : Bool) : TCut × Bool :=
  bif fin then (nul, false) else
  bif force then (if nx < en then (cutS nx en ed cl force 1, true) else bif cl then (cutS nx en ed cl force 0, true) else (nul, false)) else
  if en - nx = 0 then (bif cl then (if max 0 (ed - nx) > 0 then (cutS nx en ed cl force 0, true) else (nul, false)) else (nul, false)) else
  if min (min (en - nx) (max 0 (ed - nx))) mss = 0 then (nul, false) else
  if room < min (min (en - nx) (max 0 (ed - nx))) mss then (nul, false) else
  if min (min (en - nx) (max 0 (ed - nx))) mss = mss then (cutS nx en ed cl force (min (min (en - nx) (max 0 (ed - nx))) mss), true) else
  bif nagle then
    (bif cl then (if min (min (en - nx) (max 0 (ed - nx))) mss = en - nx then (cutS nx en ed cl force (min (min (en - nx) (max 0 (ed - nx))) mss), true) else
        if 2 * min (min (en - nx) (max 0 (ed - nx))) mss ≥ most then (if una = nx then (cutS nx en ed cl force (min (min (en - nx) (max 0 (ed - nx))) mss), true) else (nul, false)) else (nul, false))
      else (if una = nx then (if min (min (en - nx) (max 0 (ed - nx))) mss = en - nx then (cutS nx en ed cl force (min (min (en - nx) (max 0 (ed - nx))) mss), true) else
        if 2 * min (min (en - nx) (max 0 (ed - nx))) mss ≥ most then (cutS nx en ed cl force (min (min (en - nx) (max 0 (ed - nx))) mss), true) else (nul, false)) else (nul, false)))
  else (if min (min (en - nx) (max 0 (ed - nx))) mss = en - nx then (cutS nx en ed cl force (min (min (en - nx) (max 0 (ed - nx))) mss), true) else
        if 2 * min (min (en - nx) (max 0 (ed - nx))) mss ≥ most then (cutS nx en ed cl force (min (min (en - nx) (max 0 (ed - nx))) mss), true) else (nul, false))

def pack (p : TCut × Bool) : Option (TCut × Bool × Int × Unit) := some (p.1, p.2, 0, ())

theorem pack_ite {p : Prop} [Decidable p] {a b : TCut × Bool} : pack (if p then a else b) = if p then pack a else pack b := by
  by_cases h : p
  · rw [if_pos h, if_pos h]
  · rw [if_neg h, if_neg h]

theorem forced_ok (h : Ok nx en ed una mss most cl fin) : f15 (nx, en, cl, fin, ed, una, mss, room, most, nagle, force) = some ((if nx < en then (cutS nx en ed cl force 1, true) else bif cl then (cutS nx en ed cl force 0, true) else (nul, false)).1, (if nx < en then (cutS nx en ed cl force 1, true) else bif cl then (cutS nx en ed cl force 0, true) else (nul, false)).2, ()) := by
  have h' := h
  obtain ⟨h1, h2, h3, h4, h5, h6, h7, h8, h9, h10, h11⟩ := h'
  unfold f15
  simp only [bif_dec]
  by_cases q : nx < en
  · rw [if_pos q, if_pos q, cut_ok h (by omega) (by omega)]; rfl
  · rw [if_neg q, if_neg q, cut_ok h (by omega) (by omega)]
    cases cl <;> rfl

theorem next_ok (h : Ok nx en ed una mss most cl fin) : f8 (nx, en, cl, fin, ed, una, mss, room, most, nagle, force) = pack (nxt nx en ed una mss room most cl fin nagle force) := by
  have hc := (check_ok (room := room) (nagle := nagle) (force := force) h).1
  have hu := (usable_ok (room := room) (nagle := nagle) (force := force) h).1
  have hf := forced_ok (room := room) (nagle := nagle) (force := force) h
  have h' := h
  obtain ⟨h1, h2, h3, h4, h5, h6, h7, h8, h9, h10, h11⟩ := h'
  unfold f8 nxt
  rw [hc, hu, hf]
  simp only [Option.bind_some, bif_dec, bif_not, bif_beq, bif_bne, imin_eq]
  rw [if_pos trivial, w64 (n := en - nx) (by omega) (by omega), w64 (n := 2 * min (min (en - nx) (max 0 (ed - nx))) mss) (by omega) (by omega)]
  have cm := cut_ok (room := room) (nagle := nagle) (force := force) h (n := min (min (en - nx) (max 0 (ed - nx))) mss) (by omega) (by omega)
  rw [cm]
  generalize hm : min (min (en - nx) (max 0 (ed - nx))) mss = m at *
  cases fin
  · cases force
    · cases cl <;> cases nagle <;> simp only [cond_true, cond_false, Option.bind_some, pack_ite]
      all_goals
        repeat' (refine ite_to (fun _ => ?_) (fun _ => ?_))
        all_goals
          repeat' (refine to_ite (fun _ => ?_) (fun _ => ?_))
          all_goals first
            | rfl
            | (exfalso; omega)
            | (have e0 : m = 0 := by omega
               rw [e0]; rfl)
    · rfl
  · rfl

theorem goes_eq {n : Int} (h0 : 0 ≤ n) (h1 : n ≤ 65000) : f17 (nx, en, cl, fin, ed, una, mss, room, most, nagle, force) n (en - nx) =
    some ((decide (n = mss) || ((decide (n = en - nx) && cl) || ((!nagle || decide (una = nx)) && (decide (n = en - nx) || decide (2 * n ≥ most))))), ()) := by
  unfold f17
  simp only [bif_dec, bif_not, bif_beq]
  rw [w64 (n := 2 * n) (by omega) (by omega)]
  cases nagle <;> cases cl <;> simp only [cond_true, cond_false]
  all_goals
    repeat' (refine ite_to (fun _ => ?_) (fun _ => ?_))
    all_goals
      refine congrArg some (congrArg (fun b => (b, ())) ?_)
      rw [Bool.eq_iff_iff]
      simp only [Bool.and_eq_true, Bool.or_eq_true, Bool.not_true, Bool.not_false, Bool.true_and, Bool.false_and, decide_eq_true_eq, Bool.false_eq_true, Bool.or_false, Bool.false_or, Bool.true_or, Bool.or_true, Bool.and_false, Bool.and_true, iff_false, false_iff, true_iff, iff_true, iff_self, beq_iff_eq, and_true, true_and, or_true, true_or]
      try omega

theorem cut_to {a b : Int} {f p : Bool} {n : Int} (h1 : nx = a) (h2 : nx + n = b) (h3 : (cl && (decide (nx + n = en) && (decide (n = 0) || (!force && decide (max 0 (ed - nx) > n))))) = f) (h4 : (decide (nx + n = en) && decide (n > 0)) = p) :
    (some ((a, b, f, p), true, 0, ()) : Option (TCut × Bool × Int × Unit)) = pack (cutS nx en ed cl force n, true) := by
  subst h1; subst h2; subst h3; subst h4; rfl

theorem bind_ite {α β : Type} {p : Prop} [Decidable p] {a b : Option α} {k : α → Option β} : (if p then a else b).bind k = if p then a.bind k else b.bind k := by
  by_cases h : p
  · rw [if_pos h, if_pos h]
  · rw [if_neg h, if_neg h]

theorem bif_or {α : Type} {p q : Bool} {a b : α} : (bif p || q then a else b) = bif p then a else bif q then a else b := by cases p <;> rfl
theorem bif_and {α : Type} {p q : Bool} {a b : α} : (bif p && q then a else b) = bif p then bif q then a else b else b := by cases p <;> rfl

theorem ref_ok (h : Ok nx en ed una mss most cl fin) : f9 (nx, en, cl, fin, ed, una, mss, room, most, nagle, force) = pack (nxt nx en ed una mss room most cl fin nagle force) := by
  have hc := (check_ok (room := room) (nagle := nagle) (force := force) h).2
  have hu := (usable_ok (room := room) (nagle := nagle) (force := force) h).2
  have h' := h
  obtain ⟨h1, h2, h3, h4, h5, h6, h7, h8, h9, h10, h11⟩ := h'
  have hm : min (min (en - nx) mss) (max 0 (ed - nx)) = min (min (en - nx) (max 0 (ed - nx))) mss := by omega
  have hg := goes_eq (nx := nx) (en := en) (cl := cl) (fin := fin) (ed := ed) (una := una) (mss := mss) (room := room) (most := most) (nagle := nagle) (force := force) (n := min (min (en - nx) (max 0 (ed - nx))) mss) (by omega) (by omega)
  unfold f9 nxt
  rw [hc, hu]
  cases fin
  · cases force <;> cases cl <;> simp only [Option.bind_some, bif_dec, bif_not, bif_beq, bif_bne, imin_eq, cond_true, cond_false]
    all_goals
      rw [if_pos trivial, w64 (n := en - nx) (by omega) (by omega)]
    · rw [hm, w64 (n := nx + min (min (en - nx) (max 0 (ed - nx))) mss) (by omega) (by omega), hg]
      generalize hm' : min (min (en - nx) (max 0 (ed - nx))) mss = m at *
      cases nagle <;> simp only [Option.bind_some, bif_dec, bif_not, bif_beq, bif_bne, imin_eq, cond_true, cond_false, bif_or, bif_and, Bool.not_true, Bool.not_false, pack_ite]
      all_goals
        repeat' (refine ite_to (fun _ => ?_) (fun _ => ?_))
        all_goals
          repeat' (refine to_ite (fun _ => ?_) (fun _ => ?_))
          all_goals first
            | rfl
            | (exfalso; omega)
            | (refine cut_to rfl rfl ?_ ?_
               all_goals
                 rw [Bool.eq_iff_iff]
                 simp only [Bool.and_eq_true, Bool.or_eq_true, Bool.not_true, Bool.not_false, Bool.true_and, Bool.false_and, decide_eq_true_eq, Bool.false_eq_true, Bool.or_false, Bool.and_false, iff_false, false_iff, true_iff, iff_true, iff_self, beq_iff_eq, and_true, true_and, or_true, true_or]
                 try omega)
    · rw [hm, w64 (n := nx + min (min (en - nx) (max 0 (ed - nx))) mss) (by omega) (by omega), hg]
      generalize hm' : min (min (en - nx) (max 0 (ed - nx))) mss = m at *
      cases nagle <;> simp only [Option.bind_some, bif_dec, bif_not, bif_beq, bif_bne, imin_eq, cond_true, cond_false, bif_or, bif_and, Bool.not_true, Bool.not_false, pack_ite]
      all_goals
        repeat' (refine ite_to (fun _ => ?_) (fun _ => ?_))
        all_goals
          repeat' (refine to_ite (fun _ => ?_) (fun _ => ?_))
          all_goals first
            | rfl
            | (exfalso; omega)
            | (refine cut_to rfl (by omega) ?_ ?_
               all_goals
                 rw [Bool.eq_iff_iff]
                 simp only [Bool.and_eq_true, Bool.or_eq_true, Bool.not_true, Bool.not_false, Bool.true_and, Bool.false_and, decide_eq_true_eq, Bool.false_eq_true, Bool.or_false, Bool.and_false, iff_false, false_iff, true_iff, iff_true, iff_self, beq_iff_eq, and_true, true_and, or_true, true_or]
                 try omega)
    · by_cases q : nx < en
      · rw [if_pos q, if_pos (by omega), w64 (n := nx + 1) (by omega) (by omega)]
        refine cut_to rfl rfl ?_ ?_
        all_goals
          rw [Bool.eq_iff_iff]
          simp only [Bool.and_eq_true, Bool.or_eq_true, Bool.not_true, Bool.not_false, Bool.true_and, Bool.false_and, decide_eq_true_eq, Bool.false_eq_true, Bool.or_false, Bool.and_false, iff_false, false_iff, true_iff, iff_true, iff_self, beq_iff_eq, and_true, true_and, or_true, true_or]
          try omega
      · rw [if_neg q, if_neg (by omega)]; rfl
    · by_cases q : nx < en
      · rw [if_pos q, if_pos (by omega), w64 (n := nx + 1) (by omega) (by omega)]
        refine cut_to rfl rfl ?_ ?_
        all_goals
          rw [Bool.eq_iff_iff]
          simp only [Bool.and_eq_true, Bool.or_eq_true, Bool.not_true, Bool.not_false, Bool.true_and, Bool.false_and, decide_eq_true_eq, Bool.false_eq_true, Bool.or_false, Bool.and_false, iff_false, false_iff, true_iff, iff_true, iff_self, beq_iff_eq, and_true, true_and, or_true, true_or]
          try omega
      · rw [if_neg q, if_neg (by omega)]
        refine cut_to rfl (by omega) ?_ ?_
        all_goals
          rw [Bool.eq_iff_iff]
          simp only [Bool.and_eq_true, Bool.or_eq_true, Bool.not_true, Bool.not_false, Bool.true_and, Bool.false_and, decide_eq_true_eq, Bool.false_eq_true, Bool.or_false, Bool.and_false, iff_false, false_iff, true_iff, iff_true, iff_self, beq_iff_eq, and_true, true_and, or_true, true_or]
          try omega
  · rfl

theorem next_bad (h : ¬ Ok nx en ed una mss most cl fin) : f8 (nx, en, cl, fin, ed, una, mss, room, most, nagle, force) = some (nul, false, 2, ()) ∧ f9 (nx, en, cl, fin, ed, una, mss, room, most, nagle, force) = some (nul, false, 2, ()) := by
  constructor
  · unfold f8
    rw [(check_bad h).1]; rfl
  · unfold f9
    rw [(check_bad h).2]; rfl
end
end Go.Proofs.Ytlomifklceagmaa.Qn
