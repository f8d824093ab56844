/-
  Vx, part o: what an operation hangs on.
-/
import Derived.Test.YthdjomfkechfoaaVn
namespace Go.Proofs.Ythdjomfkechfoaa.Vx
open Go Go.RowKit
set_option linter.unusedSimpArgs false
set_option linter.unusedVariables false

section
variable {R : Type} {E : Env} {key : Key} {ev ev' : Operand → AV} {h h2 : H} {k : AV → H → Option R}

/-! ### the end of an operation -/
theorem minmax_nat (f : Int → Int → Int) : ∀ (ys : List AV) (x : AV), aCallB.minmax f x ys h k = (aCallB.minmax f x ys h (fun v h' => some (v, h'))).bind fun p => k p.1 p.2
  | [], x => by
    simp only [aCallB.minmax]
    split <;> rfl
  | y :: ys, x => by
    simp only [aCallB.minmax]
    split
    · rename_i kx a ky b _ _
      cases kbeq kx ky
      · rfl
      · exact minmax_nat f ys _
    · rfl

theorem aCallB_nat {b : Builtin} {ts : Array TypeId} {as : List AV} :
    aCallB E b ts as h k = (aCallB E b ts as h (fun v h' => some (v, h'))).bind fun p => k p.1 p.2 := by
  unfold aCallB
  simp only [Bool.cond_eq_ite]
  repeat' (first | rfl | exact minmax_nat _ _ _ | split)

theorem aPick_nat {x : Bool} {a b : AV} : aPick x a b h k = (aPick x a b h (fun v h' => some (v, h'))).bind fun p => k p.1 p.2 := by
  unfold aPick
  split
  · rfl
  · cases x <;> rfl

theorem aSlice_nat {te : TY} {x : AV} {lo hi mx : Option AV} : aSlice te x lo hi mx h k = (aSlice te x lo hi mx h (fun v h' => some (v, h'))).bind fun p => k p.1 p.2 := by
  unfold aSlice
  simp only [Bool.cond_eq_ite]
  repeat' (first | rfl | split)

theorem aBin_nat {op : BinOp} {t : TypeId} {x y : AV} {q : AV → Option R} : aBin E op t x y q = (aBin E op t x y (fun v => some v)).bind q := by
  unfold aBin
  simp only [Bool.cond_eq_ite]
  repeat' (first | rfl | split)

theorem aOp_nat (o : Oper) : aOp E key ev o h k = (aOp E key ev o h (fun v h' => some (v, h'))).bind fun p => k p.1 p.2 := by
  obtain ⟨dst, op, ty, pos, after, guard⟩ := o
  unfold aOp
  cases op <;> dsimp only <;> try simp only [Bool.cond_eq_ite]
  case makeFunc fn a b => cases fn <;> dsimp only <;> (repeat' (first | rfl | split))
  all_goals
    first
    | rfl
    | (rw [aBin_nat, aBin_nat (q := fun v => some (v, h))]; rw [Option.bind_assoc]; rfl)
    | (repeat' (first | rfl | exact aCallB_nat | exact aPick_nat | exact aSlice_nat | (rw [Option.bind_assoc]; rfl) | split))

/-! ### its operands -/
theorem setFields_ev {fs : List (Nat × TY)} {l : Lay} : ∀ (ps : List (Nat × Operand)) (x : l.den), (∀ p ∈ ps, ev p.2 = ev' p.2) → setFields fs l ev ps x = setFields fs l ev' ps x
  | [], x, _ => rfl
  | (i, o) :: ps, x, he => by
    simp only [setFields]
    rw [show ev o = ev' o from he (i, o) (List.mem_cons_self ..)]
    repeat' (first | rfl | exact setFields_ev ps _ (fun p hp => he p (List.mem_cons_of_mem _ hp)) | split)

theorem setElems_ev {t : TY} : ∀ (ps : List (Nat × Operand)) (x : List t.den), (∀ p ∈ ps, ev p.2 = ev' p.2) → setElems t ev ps x = setElems t ev' ps x
  | [], x, _ => rfl
  | (i, o) :: ps, x, he => by
    simp only [setElems]
    rw [show ev o = ev' o from he (i, o) (List.mem_cons_self ..)]
    split
    · rfl
    · rw [setElems_ev ps _ (fun p hp => he p (List.mem_cons_of_mem _ hp))]

theorem aOp_ev (o : Oper) (he : ∀ x ∈ o.op.operands.toList, ev x = ev' x) : aOp E key ev o h k = aOp E key ev' o h k := by
  obtain ⟨dst, op, ty, pos, after, guard⟩ := o
  unfold aOp
  cases op <;> dsimp only
  case build t parts =>
    have hp : ∀ p ∈ parts.toList, ev p.2 = ev' p.2 := fun p hp => he p.2 (by simp only [Op.operands, List.mem_map]; exact ⟨p, hp, rfl⟩)
    split
    · rw [setFields_ev _ _ hp]
    · rfl
  case buildSlice t n parts =>
    have hp : ∀ p ∈ parts.toList, ev p.2 = ev' p.2 := fun p hp => he p.2 (by simp only [Op.operands, List.mem_map]; exact ⟨p, hp, rfl⟩)
    split
    · rw [setElems_ev _ _ hp]
    · rfl
  case slice t x lo hi mx =>
    have h1 : ev x = ev' x := he x (by simp [Op.operands])
    have h2 : lo.map ev = lo.map ev' := by cases lo with
      | none => rfl
      | some y => simp only [Option.map_some]; rw [he y (by simp [Op.operands])]
    have h3 : hi.map ev = hi.map ev' := by cases hi with
      | none => rfl
      | some y => simp only [Option.map_some]; rw [he y (by simp [Op.operands])]
    have h4 : mx.map ev = mx.map ev' := by cases mx with
      | none => rfl
      | some y => simp only [Option.map_some]; rw [he y (by simp [Op.operands])]
    rw [h1, h2, h3, h4]
  case makeFunc f a b =>
    have h1 : b.toList.map ev = b.toList.map ev' := List.map_congr_left fun x hx => he x (by simp only [Op.operands, Array.toList_append, List.mem_append]; exact .inr hx)
    cases f <;> dsimp only
    rw [h1]
  case call c =>
    have h1 : c.args.toList.map ev = c.args.toList.map ev' := List.map_congr_left fun x hx => he x (by simp only [Op.operands, Call.operands, Array.toList_append, List.mem_append]; exact .inr hx)
    rw [h1]
  case move x => rw [he x (by simp [Op.operands])]
  case assign x => rw [he x (by simp [Op.operands])]
  case pick c a b => rw [he c (by simp [Op.operands]), he a (by simp [Op.operands]), he b (by simp [Op.operands])]
  case box t x => rw [he x (by simp [Op.operands])]
  case load t x => rw [he x (by simp [Op.operands])]
  case store t a x => rw [he a (by simp [Op.operands]), he x (by simp [Op.operands])]
  case nilCheck x => rw [he x (by simp [Op.operands])]
  case binOp op t x y yt => rw [he x (by simp [Op.operands]), he y (by simp [Op.operands])]
  case unOp op t x => rw [he x (by simp [Op.operands])]
  case convert a b x => rw [he x (by simp [Op.operands])]
  case fieldAddr t x i => rw [he x (by simp [Op.operands])]
  case field t x i => rw [he x (by simp [Op.operands])]
  case indexAddr t x i => rw [he x (by simp [Op.operands]), he i (by simp [Op.operands])]
  case extract t i => rw [he t (by simp [Op.operands])]
  case makeSlice t l c => rw [he l (by simp [Op.operands]), he c (by simp [Op.operands])]

/-! ### the small heap -/
theorem minmax_h (f : Int → Int → Int) : ∀ (ys : List AV) (x : AV), aCallB.minmax f x ys h k = aCallB.minmax f x ys h2 (fun v _ => k v h)
  | [], x => by
    simp only [aCallB.minmax]
  | y :: ys, x => by
    simp only [aCallB.minmax]
    split
    · rename_i kx a ky b _ _
      cases kbeq kx ky
      · rfl
      · exact minmax_h f ys _
    · rfl

theorem aOp_k0 (o : Oper) (hk : kindOf E o = 0) : aOp E key ev o h k = aOp E key ev o h2 (fun v _ => k v h) := by
  obtain ⟨dst, op, ty, pos, after, guard⟩ := o
  unfold kindOf at hk
  unfold aOp
  cases op <;> dsimp only at hk ⊢ <;> try (first | rfl | (exfalso; simp at hk; done))
  case makeFunc fn a b => cases fn <;> rfl
  case call c =>
    obtain ⟨callee, args, ats⟩ := c
    cases callee <;> dsimp only at hk ⊢
    rename_i b
    unfold aCallB
    cases b <;> dsimp only at hk ⊢ <;> try (first | rfl | (exfalso; simp at hk; done))
    all_goals
      split
      all_goals first | contradiction | rfl | exact minmax_h _ _ _ | (repeat' (first | contradiction | rfl | split))
end
end Go.Proofs.Ythdjomfkechfoaa.Vx
