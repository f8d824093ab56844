/-
  Vx, part k: the builtin functions.
-/
import Derived.Test.YthdjomfkechfoaaVj
namespace Go.Proofs.Ythdjomfkechfoaa.Vx
open Go Go.RowKit
set_option linter.unusedSimpArgs false
set_option linter.unusedVariables false

section
variable {R : Type} {P : Program} {E : Env} {base : Nat} {F0 : Nat → Nat → Prop} {W0 : World} {g : Gh} {h : H} {w : World}
variable {ev : Operand → AV} {ρ : Operand → Value} {k : AV → H → Option R} {r : R} {key : Key}

theorem sound_len (hE : EOk P E) (hH : HRel base F0 W0 g h w) {t : TypeId} {ts : List TypeId} {y : TY} {x : AV} {v : Value} {n : Int} {ty : TypeId} {cs : Array Bool} (hx : x.rep w (Fr base F0 g h) g h v)
    (ht : E.ty t = some y) (hn : x.lenAt y = some n) (hk : k (.int .i64 n) h = some r) : OpRes P base F0 W0 g h w (builtin .len (t :: ts).toArray ty cs #[v]) k r := by
  obtain ⟨d, hd, hdesc⟩ := (hE.ty t y ht).desc
  have hrun : (Builtin.len_ (t :: ts).toArray ty #[v]).run P w = .ok (.int .i64 n) w := by
    unfold AV.lenAt at hn
    split at hn
    · rename_i l
      split at hn
      · rename_i xs hxs
        cases hn
        obtain ⟨a, cap, hv, _⟩ := AV.to_rep (t := .sc (.sl l)) hxs hx
        cases d <;> simp [TY.desc, CT.desc] at hdesc
        simp [Builtin.len_, run_underlying hd, hv, goInt]
      · cases hn
    · split at hn
      · rename_i s hs
        cases hn
        have hv : v = .string s := AV.to_rep (t := .sc .str) hs hx
        cases d <;> simp [TY.desc, CT.desc] at hdesc
        simp [Builtin.len_, run_underlying hd, hv, goInt]
      · cases hn
    · cases hn
  exact OpRes.pure hH hk (by show (do pure (.value (← Builtin.len_ (t :: ts).toArray ty #[v])) : Sem Next).run P w = _; rw [Sem.run_bind, hrun]; rfl) rfl

theorem minmax_sound (hH : HRel base F0 W0 g h w) {f : Int → Int → Int} {m : Value → Value → Sem Value} (hm : ∀ k a b, m (.int k a) (.int k b) = pure (.int k (f a b))) :
    ∀ (ys : List AV) (x : AV) (v : Value) (us : List Value), x.rep w (Fr base F0 g h) g h v → AVs.rep w (Fr base F0 g h) g h ys us → aCallB.minmax f x ys h k = some r →
    ∃ a u, k a h = some r ∧ (us.foldlM m v).run P w = .ok u w ∧ a.rep w (Fr base F0 g h) g h u
  | [], x, v, us, hx, hys, hk => by
    have : us = [] := hys
    subst this
    simp only [aCallB.minmax] at hk
    split at hk
    · rename_i kx a he
      have hv := AV.int?_rep he hx
      exact ⟨_, v, hk, rfl, by rw [hv]; rfl⟩
    · cases hk
  | y :: ys, x, v, us, hx, hys, hk => by
    obtain ⟨u, us', rfl, hy, hys⟩ := hys
    simp only [aCallB.minmax] at hk
    split at hk
    · rename_i kx a ky b he1 he2
      have hv := AV.int?_rep he1 hx
      have hu := AV.int?_rep he2 hy
      obtain ⟨hkk, hk1⟩ := cond_some hk
      have e := kbeq_eq hkk
      subst e
      obtain ⟨c, z, hk2, hr, hz⟩ := minmax_sound hH hm ys (.int kx (f a b)) (.int kx (f a b)) us' rfl hys hk1
      refine ⟨c, z, hk2, ?_, hz⟩
      rw [List.foldlM_cons, Sem.run_bind, hv, hu, hm, Sem.run_pure, Result.andThen_ok, hr]
    · cases hk

theorem sound_min (hH : HRel base F0 W0 g h w) {argTypes : Array TypeId} {ty : TypeId} {cs : Array Bool} {x : AV} {ys : List AV} {v : Value} {us : List Value}
    (hx : x.rep w (Fr base F0 g h) g h v) (hys : AVs.rep w (Fr base F0 g h) g h ys us) (hk : aCallB.minmax imin x ys h k = some r) :
    OpRes P base F0 W0 g h w (builtin .min argTypes ty cs (v :: us).toArray) k r := by
  obtain ⟨a, u, hk, hr, hu⟩ := minmax_sound (P := P) (m := Builtin.min2) hH (fun k a b => by simp only [Builtin.min2, imin, Bool.cond_decide]) ys x v us hx hys hk
  refine OpRes.pure hH hk ?_ hu
  show (do pure (.value (← Builtin.min_ argTypes ty (v :: us).toArray)) : Sem Next).run P w = _
  rw [Sem.run_bind, show (Builtin.min_ argTypes ty (v :: us).toArray) = us.foldlM Builtin.min2 v from rfl, hr]
  rfl

theorem sound_max (hH : HRel base F0 W0 g h w) {argTypes : Array TypeId} {ty : TypeId} {cs : Array Bool} {x : AV} {ys : List AV} {v : Value} {us : List Value}
    (hx : x.rep w (Fr base F0 g h) g h v) (hys : AVs.rep w (Fr base F0 g h) g h ys us) (hk : aCallB.minmax imax x ys h k = some r) :
    OpRes P base F0 W0 g h w (builtin .max argTypes ty cs (v :: us).toArray) k r := by
  obtain ⟨a, u, hk, hr, hu⟩ := minmax_sound (P := P) (m := Builtin.max2) hH (fun k a b => by simp only [Builtin.max2, imax, Bool.cond_decide]) ys x v us hx hys hk
  refine OpRes.pure hH hk ?_ hu
  show (do pure (.value (← Builtin.max_ argTypes ty (v :: us).toArray)) : Sem Next).run P w = _
  rw [Sem.run_bind, show (Builtin.max_ argTypes ty (v :: us).toArray) = us.foldlM Builtin.max2 v from rfl, hr]
  rfl

/-! ### tokens -/
theorem Fr.spend {t B o : Nat} (hf : Fr base F0 g h B o) : Fr base F0 g (h.spend t) B o := by
  refine ⟨hf.1, hf.2.1, fun u hu => hf.2.2 u ?_⟩
  simp only [H.spend] at hu
  cases hx : Nat.beq u t <;> simp [hx] at hu
  exact hu

theorem spend_tok {t u : Nat} : (h.spend t).tok u = true ↔ u ≠ t ∧ h.tok u = true := by
  simp only [H.spend]
  cases hx : Nat.beq u t
  · have : u ≠ t := by intro e; subst e; simp [Nat.beq_refl] at hx
    simp [this]
  · have : u = t := Nat.eq_of_beq_eq_true hx
    simp [this]

theorem HRel.spend (hH : HRel base F0 W0 g h w) (t : Nat) : HRel base F0 W0 g (h.spend t) w ∧ Ext base F0 g h w g (h.spend t) w := by
  have hk : Keeps w (Fr base F0 g h) w (Fr base F0 g (h.spend t)) := fun B o v hf hc => ⟨hc, hf.spend⟩
  refine ⟨⟨hH.below, hH.hb, fun k b hb => ?_, hH.inj, fun u hu => hH.tok u (spend_tok.1 hu).2, fun u u' hu hu' => hH.tokd u u' (spend_tok.1 hu).2 (spend_tok.1 hu').2, fun u hu => hH.toklt u (spend_tok.1 hu).2⟩,
    ⟨hk, fun _ hk => ⟨hk, rfl⟩, Nat.le_refl _, fun u _ hu => ⟨(spend_tok.1 hu).2, rfl⟩⟩⟩
  obtain ⟨h1, vs, ty, h2, h3⟩ := hH.blk k b hb
  exact ⟨h1, vs, ty, h2, Lay.vals_keeps hk _ _ _ h3⟩

def Gh.tk (g : Gh) (n : Nat) (x : Nat × Nat × Nat) : Gh := { g with τ := fun t => bif Nat.beq t n then x else g.τ t }

theorem Gh.tk_same {n : Nat} {x : Nat × Nat × Nat} : (g.tk n x).τ n = x := by simp [Gh.tk, Nat.beq_refl]
theorem Gh.tk_other {n t : Nat} {x : Nat × Nat × Nat} (ht : t ≠ n) : (g.tk n x).τ t = g.τ t := by
  have : Nat.beq t n = false := by
    cases hx : Nat.beq t n
    · rfl
    · exact absurd (Nat.eq_of_beq_eq_true hx) ht
  simp [Gh.tk, this]

theorem fresh_tok {u : Nat} : (h.fresh).tok u = true ↔ u = h.nt ∨ h.tok u = true := by
  simp only [H.fresh]
  cases hx : Nat.beq u h.nt
  · have : u ≠ h.nt := by intro e; subst e; simp [Nat.beq_refl] at hx
    simp [this]
  · have : u = h.nt := Nat.eq_of_beq_eq_true hx
    simp [this]

/-- A new token over cells that nobody knows. -/
theorem HRel.fresh (hH : HRel base F0 W0 g h w) (x : Nat × Nat × Nat)
    (hx : x.2.1 < x.2.2 → base ≤ x.1 ∧ (∀ k, (h.blk k).isSome = true → g.ρ k ≠ x.1) ∧ (∃ (c : Array Value) (ty : TypeId), w.heap[x.1]? = some (.cells c ty (0, 0)) ∧ x.2.2 ≤ c.size) ∧
      (∀ t, h.tok t = true → (g.τ t).2.1 < (g.τ t).2.2 → (g.τ t).1 ≠ x.1)) {w1 : World} {g1 : Gh} {h1 : H} (e1 : Ext base F0 g1 h1 w1 g h w)
    (hfree : ∀ o v, Fr base F0 g1 h1 x.1 o → w1.cell? ⟨x.1, o, none⟩ = some v → x.2.1 ≤ o → o < x.2.2 → False)
    (hblk : ∀ k b, h.blk k = some b → ∃ (vs : List Value) (ty : TypeId), w.heap[g.ρ k]? = some (.cells vs.toArray ty (0, 0)) ∧ b.lay.vals w1 (Fr base F0 g1 h1) b.x vs) :
    HRel base F0 W0 (g.tk h.nt x) h.fresh w ∧ Ext base F0 g1 h1 w1 (g.tk h.nt x) h.fresh w := by
  have hne : ∀ t, h.tok t = true → t ≠ h.nt := fun t ht e => by have := hH.toklt t ht; omega
  have hk : Keeps w1 (Fr base F0 g1 h1) w (Fr base F0 (g.tk h.nt x) h.fresh) := fun B o v hf hc => by
    obtain ⟨hc', hf'⟩ := e1.keeps B o v hf hc
    refine ⟨hc', hf'.1, hf'.2.1, fun t ht hB hlo hhi => ?_⟩
    rcases fresh_tok.1 ht with e | ht
    · rw [e, Gh.tk_same] at hB hlo hhi
      subst hB
      exact hfree o v hf hc hlo hhi
    · rw [Gh.tk_other (hne t ht)] at hB hlo hhi
      exact hf'.2.2 t ht hB hlo hhi
  refine ⟨⟨hH.below, hH.hb, fun k b hb => ?_, hH.inj, fun t ht hlo => ?_, fun t t' ht ht' hlo hlo' he => ?_, fun t ht => ?_⟩, ⟨hk, e1.rho, ?_, fun t ht htt => ?_⟩⟩
  · obtain ⟨vs, ty, h2, h3⟩ := hblk k b hb
    exact ⟨(hH.blk k b hb).1, vs, ty, h2, Lay.vals_keeps hk _ _ _ h3⟩
  · rcases fresh_tok.1 ht with e | ht
    · rw [e, Gh.tk_same] at hlo ⊢
      obtain ⟨h1, h2, ⟨c, ty, h3, h4⟩, _⟩ := hx hlo
      exact ⟨h1, h2, c, ty, h3, h4⟩
    · rw [Gh.tk_other (hne t ht)] at hlo ⊢
      exact hH.tok t ht hlo
  · rcases fresh_tok.1 ht with e | h1 <;> rcases fresh_tok.1 ht' with e' | h2
    · exact e.trans e'.symm
    · rw [e, Gh.tk_same] at hlo he
      rw [Gh.tk_other (hne t' h2)] at hlo' he
      exact absurd he.symm ((hx hlo).2.2.2 t' h2 hlo')
    · rw [e', Gh.tk_same] at hlo' he
      rw [Gh.tk_other (hne t h1)] at hlo he
      exact absurd he ((hx hlo').2.2.2 t h1 hlo)
    · rw [Gh.tk_other (hne t h1)] at hlo he
      rw [Gh.tk_other (hne t' h2)] at hlo' he
      exact hH.tokd t t' h1 h2 hlo hlo' he
  · rcases fresh_tok.1 ht with e | ht
    · rw [e]; exact Nat.lt_succ_self _
    · exact Nat.lt_succ_of_lt (hH.toklt t ht)
  · exact Nat.le_succ_of_le e1.nt
  · have hlt := Nat.lt_of_lt_of_le ht e1.nt
    rcases fresh_tok.1 htt with e | htt
    · omega
    · rw [Gh.tk_other (by omega)]
      exact e1.tok t ht htt

end
end Go.Proofs.Ythdjomfkechfoaa.Vx
