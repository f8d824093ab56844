/-
  RingWrites: for every input the law returns true, and each argument reads afterwards as it read before. It has no condition. Printed by law.py, a program of this claim's own.
-/
import Derived.Test.YthdjomfkechfoaaRows
import Derived.Test.YthdjomfkechfoaaG
import Derived.Test.YthdjomfkechfoaaVu
import Derived.Test.YthdjomfkechfoaaPRingWrites
namespace Go.Proofs.Ythdjomfkechfoaa.ringWrites
open Go Go.ChangeShapes Go.WideShapes Go.ChangeAt Go.RowKit Go.Proofs.Ythdjomfkechfoaa.Vx Go.Proofs.Ythdjomfkechfoaa.Gn
set_option linter.unusedVariables false
theorem own : ownKnob Try.prog.godebug = none := by kernel_rfl
theorem laidOut : laidOutB Try.prog = true := by kernel_rfl
theorem walk (W : World) (vs : List Value) (x : Den s3.ps) (hx : DenRep W yes s3.ps x vs) (hf : DenFits s3.ps x) :
    Calls Try.prog 3 vs.toArray W fun e W' => e = .returned (.bool true) ∧ Below W.heap.size W W' := by
  refine (h3.2 x (true, ()) (pure_law x hf) W yes vs hx).mono ?_
  rintro e W' ⟨us, he, hd, hb⟩
  obtain ⟨v, us', rfl, hv, hn⟩ := hd ⟨fun _ => 0, fun _ => (0, 0, 0)⟩ H.empty
  have hn : us' = [] := hn
  have hv : v = .bool true := hv
  subst hn hv
  exact ⟨he, hb⟩
set_option maxRecDepth 100000 in
theorem lifted (os : Os) (started : os.Started) (H : Type) (enc : TypeId × Value → H) :
    ReturnsInHanded {} Try.checked os 3 .any (Rows.ringWritesSpec.pre6 enc Try.prog Try.f3 Rows.ringWritesRow.domain false) (Rows.ringWritesSpec.post enc Try.prog Try.f3 false true false false) := by
  refine returnsInHanded_of_change_sized (C := Try.checked) own started (by kernel_rfl) Try.func3
    (ChangeSpec.witness6 (enc := enc) (C := Try.checked) false ⟨#[], #[.agg #[.int .i64 0, .slice none 0 0, .int .i64 0, .bool false], .slice none 0 0], []⟩ 8 (by kernel_rfl) (by kernel_rfl) (by kernel_rfl) (by kernel_rfl)) ?_
  intro W base args ds gs before hval0 hW hcnd hsz0 _
  have hsz : (DataW.weightsEach Try.prog (Try.f3.params.toList ++ Rows.ringWritesSpec.plain.varTypes Try.prog) (ds ++ gs)).all (· ≤ reachBytes) = true := hsz0
  have hval : ∀ (j : Nat) t v, Try.f3.params[j]? = some t → args[j]? = some v → Value.okWide Try.prog W .any base t v := hval0
  have hW' := hW
  obtain ⟨p, q, hA0, hV, rfl, hfz, hnd⟩ := hW
  have hA : DataW.TrodAll enc Try.prog W 0 (fun _ => true) true Try.f3.params.toList args.toList ds p := hA0
  obtain ⟨rfl, rfl⟩ := trodVars_none hV
  rw [Try.params3] at hA hval hsz
  have hA1 := hA
  obtain ⟨v0, vs0, d0, ds0, p0, q0, hargs, rfl, rfl, t0, r0⟩ := trodAll_cons hA
  obtain ⟨v1, vs1, d1, ds1, p1, q1, rfl, rfl, rfl, t1, r1⟩ := trodAll_cons r0
  obtain ⟨rfl, rfl, rfl⟩ := trodAll_nil r1
  obtain rfl : args = #[v0, v1] := by cases args; simp_all
  have hsz2 : (DataW.weightsEach Try.prog [24, 22] [d0, d1]).all (· ≤ reachBytes) = true := hsz
  clear hA0 hval0 hsz0
  obtain ⟨x, hx, hf⟩ := opens s3.ps [24, 22] (by kernel_rfl) _ _ _ hA1 (fun m hm => of_decide_eq_true (List.all_eq_true.1 hsz2 m hm)) (fun j t v ht hv => hval j t v (by simpa using ht) (by simpa using hv))
  refine (walk W _ x hx hf).mono fun e W' ⟨he, bel⟩ => ?_
  subst he
  exact ⟨_, rfl, _, _, _, [], _, [], hW', trodAll_mk1 (shut_bool Try.underlying4 _), trodAll_below laidOut bel _ (by kernel_rfl) _ _ _ hA1, rfl, bel.frame _, fun h => by cases h⟩
theorem over : Rows.ringWritesRow.holds Try.pinned (OpenSpec.ofChange Rows.ringWritesSpec) :=
  OpenClaim.holds_of_wide 3 Try.f3 rfl rfl rfl rfl rfl rfl rfl ⟨rfl, rfl, rfl, rfl, rfl⟩ rfl rfl rfl rfl rfl (by kernel_rfl) Try.func3 (by kernel_rfl)
    (of_decide_eq_true (by kernel_rfl)) (by unfold Func.isWrapper; first | (rw [if_pos (by decide +kernel)]; kernel_rfl) | (rw [if_neg (by decide +kernel)]; exact ⟨rfl, rfl⟩))
    (fun os started H enc _ => lifted os started H enc)
end Go.Proofs.Ythdjomfkechfoaa.ringWrites
namespace Go.Proofs.Ythdjomfkechfoaa
/-- The row. -/
theorem ringWrites_holds : Rows.RingWritesSaid := ringWrites.over
#print axioms ringWrites_holds
end Go.Proofs.Ythdjomfkechfoaa
