/-
  Vx, part j: cuts, lengths, least and greatest, and append.
-/
import Derived.Test.YthdjomfkechfoaaVi
namespace Go.Proofs.Ythdjomfkechfoaa.Vx
open Go Go.RowKit
set_option linter.unusedSimpArgs false
set_option linter.unusedVariables false

section
variable {R : Type} {P : Program} {E : Env} {base : Nat} {F0 : Nat → Nat → Prop} {W0 : World} {g : Gh} {h : H} {w : World}
variable {ev : Operand → AV} {ρ : Operand → Value} {k : AV → H → Option R} {r : R} {key : Key}

/-- What any slice value tells, however it is held. -/
theorem AV.list_rep {F : Nat → Nat → Prop} {x : AV} {l : Lay} {xs : List l.den} (hx : x.list l = some xs) {v : Value} (hr : x.rep w F g h v) :
    ∃ a cap, v = .slice a xs.length cap ∧ xs.length ≤ cap ∧ (0 < xs.length → ∃ B off, a = some ⟨B, off, none⟩ ∧ ∀ (i : Nat) (x : l.den), xs[i]? = some x → l.lies w F x B (off + i * l.size)) :=
  AV.to_rep (t := .sc (.sl l)) hx hr

theorem castTo_eq {l l' : Lay} {x : l.den} {y : l'.den} (h : Lay.castTo x l' = some y) : l = l' := by
  unfold Lay.castTo at h
  split at h
  · rename_i hb; exact Lay.beq_eq l l' hb
  · cases h

theorem CT.castTo_self {c : CT} {x y : c.den} (h : CT.castTo x c = some y) : x = y := by
  unfold CT.castTo at h
  split at h
  · exact Option.some.inj h
  · cases h

theorem list_fsl {l l' : Lay} {xs : List l.den} {ys : List l'.den} (h : (AV.fsl l xs).list l' = some ys) : ∃ e : l = l', e ▸ xs = ys := by
  have h' : CT.castTo (c := .sl l) xs (.sl l') = some ys := h
  unfold CT.castTo at h'
  split at h'
  · rename_i hb
    have e : l = l' := by
      have := CT.beq_eq _ _ hb
      injection this
    subst e
    exact ⟨rfl, Option.some.inj h'⟩
  · cases h'

theorem list_osl {l l' : Lay} {xs : List l.den} {t : Nat} {ys : List l'.den} (h : (AV.osl l xs t).list l' = some ys) : ∃ e : l = l', e ▸ xs = ys := by
  have h' : CT.castTo (c := .sl l) xs (.sl l') = some ys := h
  unfold CT.castTo at h'
  split at h'
  · rename_i hb
    have e : l = l' := by
      have := CT.beq_eq _ _ hb
      injection this
    subst e
    exact ⟨rfl, Option.some.inj h'⟩
  · cases h'

/-- What a bound says. -/
theorem bound_rep {F : Nat → Nat → Prop} (hev : ∀ x, (ev x).rep w F g h (ρ x)) {o : Option Operand} {d n : Int}
    (hb : (match o.map ev with
      | none => some d
      | some v => match v.int? with
        | some (_, n) => some n
        | none => none) = some n) : (o.map ρ = none ∧ n = d ∧ o = none) ∨ ∃ v kx, o.map ρ = some v ∧ v = .int kx n := by
  cases o with
  | none => simp at hb; exact .inl ⟨rfl, hb.symm, rfl⟩
  | some x =>
    simp only [Option.map_some] at hb
    split at hb
    · rename_i kx m he
      cases hb
      exact .inr ⟨ρ x, kx, rfl, AV.int?_rep he (hev x)⟩
    · cases hb

theorem sound_slice (hE : EOk P E) (hH : HRel base F0 W0 g h w) (hev : ∀ x, (ev x).rep w (Fr base F0 g h) g h (ρ x)) {t : TypeId} {by' : Nat} {te : TY} {x : Operand} {lo hi mx : Option Operand}
    (ht : E.el t = some (te, by')) (hk : aSlice te (ev x) (lo.map ev) (hi.map ev) (mx.map ev) h k = some r) :
    OpRes P base F0 W0 g h w (do pure (.value (← Instr.sliceAt t (ρ x) (lo.map ρ) (hi.map ρ) (mx.map ρ)))) k r := by
  obtain ⟨e, i0, hu, hte, _⟩ := (hE.el t te by' ht).el
  unfold aSlice at hk
  split at hk
  · cases hk
  rename_i xs hxs
  obtain ⟨a, cap, hv, hle, hrep⟩ := AV.list_rep hxs (hev x)
  dsimp only at hk
  split at hk
  · rename_i l u m hl hu' hm
    have bl := bound_rep hev hl
    have bu := bound_rep hev hu'
    have bm := bound_rep hev hm
    obtain ⟨hc, hk⟩ := cond_some hk
    simp only [Bool.and_eq_true, decide_eq_true_eq] at hc
    obtain ⟨h0, h1, h2⟩ := hc
    have hlen : ((xs.drop l.toNat).take (u - l).toNat).length = u.toNat - l.toNat := by simp; omega
    -- the run
    have hrun : ∀ (hmx : mx.map ρ = none ∨ ∃ v kx, mx.map ρ = some v ∧ v = .int kx u) (hhi : (hi.map ρ = none ∧ u = xs.length ∧ mx.map ρ = none) ∨ ∃ v kx, hi.map ρ = some v ∧ v = .int kx u),
        (do pure (.value (← Instr.sliceAt t (ρ x) (lo.map ρ) (hi.map ρ) (mx.map ρ))) : Sem Next).run P w =
        .ok (.value (.slice (if (if (mx.map ρ).isSome then u.toNat else cap) = l.toNat then a else a.map (·.add (l.toNat * te.lay.size))) (u.toNat - l.toNat) ((if (mx.map ρ).isSome then u.toNat else cap) - l.toNat))) w := by
      intro hmx hhi
      rw [hv, Sem.run_bind, sliceAt_run hu hte hle (l := l) (u := u) (bl.elim (fun h => .inl ⟨h.1, h.2.1⟩) .inr) hhi hmx h0 h1 h2]
      rfl
    -- the elements
    have helem : ∀ (c' : Nat), 0 < u.toNat - l.toNat → c' ≠ l.toNat → ∃ B off, (if c' = l.toNat then a else a.map (·.add (l.toNat * te.lay.size))) = some ⟨B, off + l.toNat * te.lay.size, none⟩ ∧ a = some ⟨B, off, none⟩ ∧
        ∀ (i : Nat) (y : te.lay.den), ((xs.drop l.toNat).take (u - l).toNat)[i]? = some y → te.lay.lies w (Fr base F0 g h) y B (off + l.toNat * te.lay.size + i * te.lay.size) := by
      intro c' hp hc'
      obtain ⟨B, off, ha, hl⟩ := hrep (by omega)
      refine ⟨B, off, by rw [if_neg hc', ha]; simp [Addr.add_lit], ha, fun i y hy => ?_⟩
      have := hl _ y (drop_take_getElem hy)
      rw [show off + l.toNat * te.lay.size + i * te.lay.size = off + (l.toNat + i) * te.lay.size by rw [Nat.add_mul]; omega]
      exact this
    cases hmxo : mx with
    | some mo =>
      rw [hmxo] at hk bm
      simp only [Option.map_some] at hk
      cases hhio : hi with
      | none => rw [hhio] at hk; simp at hk
      | some ho =>
      rw [hhio] at hk bu
      simp only [Option.map_some] at hk
      obtain ⟨hmu, hk⟩ := cond_some hk
      have hmu : m = u := by simpa using hmu
      subst hmu
      have bm' : ∃ v kx, mx.map ρ = some v ∧ v = .int kx m := by
        rcases bm with ⟨h1, _⟩ | h3
        · simp at h1
        · rw [hmxo]; exact h3
      have hhi : ∃ v kx, hi.map ρ = some v ∧ v = .int kx m := by
        rcases bu with ⟨h1, _⟩ | h3
        · simp at h1
        · rw [hhio]; exact h3
      have hr := hrun (.inr bm') (.inr hhi)
      simp only [hmxo, hhio, Option.map_some, Option.isSome_some, if_true] at hr
      refine OpRes.pure hH hk (by simpa using hr) ?_
      simp only [sliceKind, cond_true]
      refine ⟨_, by rw [hlen], fun hp => ?_⟩
      rw [hlen] at hp
      obtain ⟨B, off, h1, _, h3⟩ := helem m.toNat hp (by omega)
      exact ⟨B, _, h1, h3⟩
    | none =>
      rw [hmxo] at hk
      simp only [Option.map_none] at hk
      have hhi : (hi.map ρ = none ∧ u = xs.length ∧ mx.map ρ = none) ∨ ∃ v kx, hi.map ρ = some v ∧ v = .int kx u := by
        rcases bu with ⟨h1, h2, _⟩ | h3
        · exact .inl ⟨h1, h2, by rw [hmxo]; rfl⟩
        · exact .inr h3
      have hr := hrun (.inl (by rw [hmxo]; rfl)) hhi
      simp only [hmxo, Option.map_none, Option.isSome_none, Bool.false_eq_true, if_false] at hr
      refine OpRes.pure hH hk (by simpa using hr) ?_
      have hdat : (CT.sl te.lay).rep w (Fr base F0 g h) ((xs.drop l.toNat).take (u - l).toNat) (.slice (if cap = l.toNat then a else a.map (·.add (l.toNat * te.lay.size))) (u.toNat - l.toNat) (cap - l.toNat)) := by
        refine ⟨_, cap - l.toNat, by rw [hlen], by rw [hlen]; omega, fun hp => ?_⟩
        rw [hlen] at hp
        obtain ⟨B, off, h1, _, h3⟩ := helem cap hp (by omega)
        exact ⟨B, _, h1, h3⟩
      unfold sliceKind
      simp only [cond_false]
      cases hhio : hi with
      | some ho => exact hdat
      | none =>
        simp only [Option.map_none, Option.isSome_none, cond_false]
        have hul : u = xs.length := by
          rcases hhi with ⟨_, h2, _⟩ | ⟨v, kx, h3, _⟩
          · exact h2
          · rw [hhio] at h3; simp at h3
        cases hxe : ev x <;> try exact hdat
        · rename_i l' xs'
          rw [hxe] at hxs
          obtain ⟨e', hxe'⟩ := list_fsl hxs
          have hx' := hev x
          rw [hxe, hv] at hx'
          subst e'
          simp only at hxe'
          subst hxe'
          obtain ⟨a', hva, _⟩ := hx'
          injection hva with _ _ hcap
          refine ⟨_, by rw [hlen, show cap - l.toNat = u.toNat - l.toNat by omega], fun hp => ?_⟩
          rw [hlen] at hp
          obtain ⟨B, off, h1, _, h3⟩ := helem cap hp (by omega)
          exact ⟨B, _, h1, h3⟩
        · rename_i l' xs' tk
          rw [hxe] at hxs
          obtain ⟨e', hxe'⟩ := list_osl hxs
          have hx' := hev x
          rw [hxe, hv] at hx'
          subst e'
          simp only at hxe'
          subst hxe'
          obtain ⟨a', cap', hva, _, hnt, hor⟩ := hx'
          injection hva with haa _ hcap
          subst haa hcap
          refine ⟨_, cap - l.toNat, by rw [hlen], by rw [hlen]; omega, hnt, fun hp => ?_⟩
          obtain ⟨B, off, hab, hl, htok⟩ := hor (by omega)
          refine ⟨B, off + l.toNat * te.lay.size, by rw [if_neg (by omega), hab]; simp [Addr.add_lit], fun i y hy => ?_, fun ht hlt => ?_⟩
          · have := hl _ y (drop_take_getElem hy)
            rw [show off + l.toNat * te.lay.size + i * te.lay.size = off + (l.toNat + i) * te.lay.size by rw [Nat.add_mul]; omega]
            exact this
          · rw [hlen] at hlt ⊢
            rw [htok ht (by omega)]
            have e1 : off + l.toNat * te.lay.size + (u.toNat - l.toNat) * te.lay.size = off + xs'.length * te.lay.size := by
              rw [Nat.add_assoc, ← Nat.add_mul]; congr 2; omega
            have e2 : off + l.toNat * te.lay.size + (cap - l.toNat) * te.lay.size = off + cap * te.lay.size := by
              rw [Nat.add_assoc, ← Nat.add_mul]; congr 2; omega
            rw [e1, e2]
  · cases hk
end
end Go.Proofs.Ythdjomfkechfoaa.Vx
