/-
  Vx, part f: operations that make no memory, one by one.
-/
import Derived.Test.YthdjomfkechfoaaVe
import Derived.Laws.StructEq
namespace Go.Proofs.Ythdjomfkechfoaa.Vx
open Go Go.RowKit
set_option linter.unusedSimpArgs false
set_option linter.unusedVariables false

section
variable {R : Type} {P : Program} {E : Env} {base : Nat} {F0 : Nat → Nat → Prop} {W0 : World} {g : Gh} {h : H} {w : World} {F : Nat → Nat → Prop}

theorem equal_bool {t : TypeId} {p q : Bool} (hd : P.underlying t = some .bool) : (Op.equal t (.bool p) (.bool q)).run P w = .ok (p == q) w := by
  show (Op.equalIn (9999 + 1) t (.bool p) (.bool q)).run P w = _
  unfold Op.equalIn
  rw [Sem.run_bind, run_underlying hd]
  rfl

theorem str_eql {t : TypeId} (X Y : Operand) (a b : ByteArray) : (do eqGuard .eql t X Y (.string a) (.string b); binOp .eql t (.string a) (.string b) : Sem Value).run P w = .ok (.bool (BEq.beq (α := ByteArray) a b)) w := by
  rw [beq_toListBytes, Sem.run_bind, eqGuard_at_string, Sem.run_pure, Result.andThen_ok, binOp_string_eql]; rfl

theorem str_neq {t : TypeId} (X Y : Operand) (a b : ByteArray) : (do eqGuard .neq t X Y (.string a) (.string b); binOp .neq t (.string a) (.string b) : Sem Value).run P w = .ok (.bool (!(BEq.beq (α := ByteArray) a b))) w := by
  rw [beq_toListBytes, Sem.run_bind, eqGuard_at_string, Sem.run_pure, Result.andThen_ok, binOp_string_neq]; rfl

theorem aBin_sound (hE : EOk P E) {op : BinOp} {t : TypeId} {a b : AV} {k : AV → Option R} {r : R} (hk : aBin E op t a b k = some r)
    (X Y : Operand) {u v : Value} (ha : a.rep w F g h u) (hb : b.rep w F g h v) :
    ∃ c z, k c = some r ∧ (do eqGuard op t X Y u v; binOp op t u v : Sem Value).run P w = .ok z w ∧ c.rep w F g h z := by
  unfold aBin at hk
  split at hk
  · rename_i kx m ky n hx hy
    have hu := AV.int?_rep hx ha
    have hv := AV.int?_rep hy hb
    subst hu hv
    clear ha hb hx hy
    cases op <;> dsimp only at hk <;> simp only [eqGuard_at_int, Sem.run_bind, Sem.run_pure, Result.andThen_ok]
    case shl =>
      obtain ⟨h0, h1⟩ := cond_none hk
      have h0' : ¬ n < 0 := by simpa using h0
      exact ⟨_, _, h1, by simp [binOp, Op.shift, h0'] <;> rfl, rfl⟩
    case shr =>
      obtain ⟨h0, h1⟩ := cond_none hk
      have h0' : ¬ n < 0 := by simpa using h0
      exact ⟨_, _, h1, by simp [binOp, Op.shift, h0'] <;> rfl, rfl⟩
    case quo =>
      obtain ⟨hkk, h2⟩ := cond_some hk
      have ek := kbeq_eq hkk
      obtain ⟨h0, h1⟩ := cond_none h2
      have h0' : ¬ n = 0 := by simpa using h0
      exact ⟨_, _, h1, by simp [binOp, Op.intDiv, h0', ek] <;> rfl, rfl⟩
    case rem =>
      obtain ⟨hkk, h2⟩ := cond_some hk
      have ek := kbeq_eq hkk
      obtain ⟨h0, h1⟩ := cond_none h2
      have h0' : ¬ n = 0 := by simpa using h0
      exact ⟨_, _, h1, by simp [binOp, Op.intDiv, h0', ek] <;> rfl, rfl⟩
    all_goals
      obtain ⟨hkk, h1⟩ := cond_some hk
      have ek := kbeq_eq hkk
      subst ek
      first
        | exact ⟨_, _, h1, by simp only [binOp_add, binOp_sub, binOp_mul, binOp, ne_eq, not_true_eq_false, if_false]; rfl, rfl⟩
  · split at hk
    · rename_i p q hx hy ht
      have hu := AV.bool?_rep hx ha
      have hv := AV.bool?_rep hy hb
      subst hu hv
      obtain ⟨d, hd, hdesc⟩ := (hE.ty t _ ht).desc
      have hb : d = .bool := by cases d <;> simp [TY.desc, CT.desc] at hdesc ⊢
      subst hb
      cases op <;> dsimp only at hk <;> simp only [eqGuard_at_bool, Sem.run_bind, Sem.run_pure, Result.andThen_ok] <;> try (cases hk; done)
      · refine ⟨_, .bool (p == q), hk, ?_, rfl⟩
        rw [show binOp .eql t (.bool p) (.bool q) = (do pure (Value.bool (← Op.equal t (.bool p) (.bool q))) : Sem Value) from rfl, Sem.run_bind, equal_bool hd]; rfl
      · refine ⟨_, .bool (!(p == q)), hk, ?_, rfl⟩
        rw [show binOp .neq t (.bool p) (.bool q) = (do pure (Value.bool (!(← Op.equal t (.bool p) (.bool q)))) : Sem Value) from rfl, Sem.run_bind, equal_bool hd]; rfl
    · split at hk
      · rename_i l x _hn1 _hn2
        split at hk
        · rename_i y l' hy hl'
          obtain ⟨vs, hu, hvs⟩ := ha
          obtain ⟨us, hv, hus⟩ := AV.to_rep hy hb
          subst hu hv
          obtain ⟨hg, hk1⟩ := cond_some hk
          clear hk
          have hk := hk1
          clear hk1
          have el := Lay.beq_eq _ _ hg
          subst el
          obtain ⟨hgt, heq⟩ := hE.eqT t _ hl'
          have he := heq w F x y vs us hvs hus
          have hguard : ∀ op, (eqGuard op t X Y (.agg vs.toArray) (.agg us.toArray)).run P w = .ok () w := by
            intro op
            cases op <;> simp [eqGuard, hgt]
          cases op <;> dsimp only at hk <;> try (cases hk; done)
          · refine ⟨_, .bool (l.eqb x y), hk, ?_, rfl⟩
            rw [Sem.run_bind, hguard, Result.andThen_ok]
            rw [show binOp .eql t (.agg vs.toArray) (.agg us.toArray) = (do pure (Value.bool (← Op.equal t (.agg vs.toArray) (.agg us.toArray))) : Sem Value) from rfl, Sem.run_bind, Op.equal, he]; rfl
          · refine ⟨_, .bool (!(l.eqb x y)), hk, ?_, rfl⟩
            rw [Sem.run_bind, hguard, Result.andThen_ok]
            rw [show binOp .neq t (.agg vs.toArray) (.agg us.toArray) = (do pure (Value.bool (!(← Op.equal t (.agg vs.toArray) (.agg us.toArray)))) : Sem Value) from rfl, Sem.run_bind, Op.equal, he]; rfl
        · cases hk
      · rename_i a' _ _
        split at hk
        · rename_i b' hb' ht
          have hu : u = .string a' := ha
          have hv : v = .string b' := AV.to_rep (t := .sc .str) hb' hb
          subst hu hv
          cases op <;> dsimp only at hk <;> try (cases hk; done)
          · exact ⟨_, _, hk, str_eql X Y a' b', rfl⟩
          · exact ⟨_, _, hk, str_neq X Y a' b', rfl⟩
        · cases hk
      · cases hk

end
end Go.Proofs.Ythdjomfkechfoaa.Vx
