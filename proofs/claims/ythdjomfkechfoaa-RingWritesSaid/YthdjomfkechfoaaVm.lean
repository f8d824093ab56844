/-
  Vx, part m: every operation.
-/
import Derived.Test.YthdjomfkechfoaaVl
namespace Go.Proofs.Ythdjomfkechfoaa.Vx
open Go Go.RowKit
set_option linter.unusedSimpArgs false
set_option linter.unusedVariables false

section
variable {R : Type} {P : Program} {E : Env} {base : Nat} {F0 : Nat → Nat → Prop} {W0 : World} {g : Gh} {h : H} {w : World}
variable {ev : Operand → AV} {ρ : Operand → Value} {k : AV → H → Option R} {r : R} {key : Key}

theorem sound_callB (hE : EOk P E) (hH : HRel base F0 W0 g h w) {b : Builtin} {argTypes : Array TypeId} {ty : TypeId} {cs : Array Bool} {as : List AV} {us : List Value}
    (hs : AVs.rep w (Fr base F0 g h) g h as us) (hk : aCallB E b argTypes as h k = some r) : OpRes P base F0 W0 g h w (builtin b argTypes ty cs us.toArray) k r := by
  unfold aCallB at hk
  split at hk
  · rename_i x
    obtain ⟨u, us', rfl, hx, hn⟩ := hs
    have : us' = [] := hn
    subst this
    split at hk
    · rename_i t ts hts
      split at hk
      · rename_i y hy
        split at hk
        · rename_i n hn
          have := sound_len (P := P) (ts := ts) (ty := ty) (cs := cs) hE hH hx hy hn hk
          rw [← hts] at this
          simpa using this
        · cases hk
      · cases hk
    · cases hk
  · rename_i x ys
    obtain ⟨u, us', rfl, hx, hys⟩ := hs
    exact sound_min hH hx hys hk
  · rename_i x ys
    obtain ⟨u, us', rfl, hx, hys⟩ := hs
    exact sound_max hH hx hys hk
  · rename_i s x
    obtain ⟨u, us', rfl, hsr, hn⟩ := hs
    obtain ⟨v, us'', rfl, hxr, hn⟩ := hn
    have : us'' = [] := hn
    subst this
    split at hk
    · rename_i ts tx hts
      split at hk
      · rename_i te bytes v2 he1 he2
        obtain ⟨te', by'⟩ := v2
        split at hk
        · rename_i xs ys hxs hys
          obtain ⟨hfit, hk1⟩ := cond_some hk
          clear hk
          have hk := hk1
          clear hk1
          have hfit := of_decide_eq_true hfit
          obtain ⟨e, i, hu, hte, hi, hby, hby1⟩ := (hE.el ts te bytes he1).el
          obtain ⟨e', i', hux, _⟩ := (hE.el tx te' by' he2).el
          have hv : (CT.sl te.lay).rep w (Fr base F0 g h) ys v := AV.to_rep (t := .sc (.sl te.lay)) hys hxr
          have hat : argTypes = #[ts, tx] := by
            apply Array.ext'
            simpa using hts
          have fin : ∀ (o : Option Nat) (a : Option Addr) (cap : Nat), u = .slice a xs.length cap → Grows g h w (Fr base F0 g h) te.lay xs a cap o → k (.osl te.lay (xs ++ ys) h.nt) (spendO h o).fresh = some r →
              OpRes P base F0 W0 g h w (builtin .append argTypes ty cs [u, v].toArray) k r := by
            intro o a cap hua hg hk
            obtain ⟨z, w', g', hrun, h1, h2, h3⟩ := append_core (P := P) (ty := ty) hH hu hte hi hby hby1 hux hg hv hfit
            refine ⟨_, _, g', w', .value z, z, hk, ?_, .inl rfl, h1, h2, h3⟩
            rw [hat, hua]
            show (do pure (.value (← Builtin.append_ #[ts, tx] ty #[.slice a xs.length cap, v])) : Sem Next).run P w = _
            rw [Sem.run_bind, hrun]
            rfl
          obtain ⟨a, cap, hua, hle, hrep⟩ := AV.list_rep hxs hsr
          split at hk
          · rename_i l' xs' t'
            obtain ⟨htok, hk⟩ := cond_some hk
            obtain ⟨e1, e2⟩ := list_osl hxs
            subst e1
            simp only at e2
            subst e2
            obtain ⟨a', cap', hua', hle', hnt, hor⟩ := hsr
            rw [hua] at hua'
            injection hua' with q1 _ q3
            subst q1 q3
            exact fin (some t') a cap hua ⟨hle, hrep, htok, fun hp => by
              obtain ⟨B, off, ha, hl, ht⟩ := hor hp
              exact ⟨B, off, ha, hl, fun hlt => ht htok hlt⟩⟩ hk
          · rename_i l' xs'
            obtain ⟨e1, e2⟩ := list_fsl hxs
            subst e1
            simp only at e2
            subst e2
            obtain ⟨a', hua', _⟩ := hsr
            rw [hua] at hua'
            injection hua' with q1 _ q3
            exact fin none a cap hua ⟨hle, hrep, q3⟩ hk
          · rename_i c
            have hc : u = c := hsr
            have hxs' : (CT.sl te.lay).ofConst c = some xs := hxs
            cases c <;> simp [CT.ofConst] at hxs'
            rename_i a0 n0 c0
            cases a0 <;> cases n0 <;> cases c0 <;> simp at hxs'
            rw [hua] at hc
            injection hc with q1 _ q3
            exact fin none a cap hua ⟨hle, hrep, by subst hxs'; simpa using q3⟩ hk
          · cases hk
        · cases hk
      · cases hk
    · cases hk
  · cases hk

/-- EVERY OPERATION but a call of a function. -/
theorem aOp_sound (hE : EOk P E) (hH : HRel base F0 W0 g h w) (hev : ∀ x, (ev x).rep w (Fr base F0 g h) g h (ρ x)) (o : Oper) (hk : aOp E key ev o h k = some r) :
    OpRes P base F0 W0 g h w (execOp ρ o) k r := by
  obtain ⟨dst, op, ty, pos, after, guard⟩ := o
  unfold aOp at hk
  cases op <;> dsimp only at hk <;> try (cases hk; done)
  case move x => exact sound_move hH hev hk
  case assign x => exact sound_move hH hev hk
  case pick c a b =>
    split at hk
    · rename_i p hp; exact sound_pick hH hev hp hk
    · cases hk
  case alloc t =>
    split at hk
    · rename_i y hy hb; exact sound_alloc hE hH hy hb hk
    · cases hk
  case box t x =>
    split at hk
    · rename_i y hy hb
      split at hk
      · rename_i z hz; exact sound_box hE hH hev hb hz hk
      · cases hk
    · cases hk
  case build t parts =>
    split at hk
    · rename_i l fs ht hf
      split at hk
      · rename_i x hx; exact sound_build hE hH hev ht hf hx hk
      · cases hk
    · cases hk
  case buildSlice t n parts =>
    split at hk
    · rename_i te by' ht
      obtain ⟨hsz, hk⟩ := cond_some hk
      split at hk
      · rename_i xs hx; exact sound_buildSlice hE hH hev ht hsz hx hk
      · cases hk
    · cases hk
  case load t a =>
    split at hk
    · rename_i y hy; exact sound_load hE hH hev hy hk
    · cases hk
  case store t a x =>
    split at hk
    · rename_i y q off hy ha
      split at hk
      · rename_i b z hb hz
        split at hk
        · rename_i z' hz'; exact sound_store hE hH hev hy ha hb hz hz' hk
        · cases hk
      · cases hk
    · cases hk
  case nilCheck x => exact sound_nilCheck hH hev rfl hk
  case binOp op t x y yt =>
    obtain ⟨c, z, hk, hr, hz⟩ := aBin_sound (P := P) hE hk x y (hev x) (hev y)
    refine OpRes.pure hH hk ?_ hz
    show (do pure (.value (← (do eqGuard op t x y (ρ x) (ρ y); binOp op t (ρ x) (ρ y) : Sem Value))) : Sem Next).run P w = _
    rw [Sem.run_bind, hr]
    rfl
  case unOp op t x => exact sound_unOp hH hev hk
  case convert src dst x =>
    split at hk
    · rename_i hs hd
      split at hk
      · rename_i s hx; exact sound_toBytes hE hH hev hs hd hx hk
      · cases hk
    · rename_i hs hd
      split at hk
      · rename_i xs hx; exact sound_toStr hE hH hev hs hd hx hk
      · cases hk
    · rename_i ys kd hs hd
      split at hk
      · rename_i kx n hn; exact sound_convert hE hH hev hs hd hn hk
      · cases hk
    · cases hk
  case makeSlice t lo ca =>
    split at hk
    · rename_i te by' kl l kc c ht hl hc
      obtain ⟨hq, hk⟩ := cond_some hk
      exact sound_makeSlice hE hH hev ht hl hc hq hk
    · cases hk
  case slice t x lo hi mx =>
    split at hk
    · rename_i te by' ht; exact sound_slice hE hH hev ht hk
    · cases hk
  case fieldAddr t x i =>
    split at hk
    · rename_i fs hf
      split at hk
      · rename_i off ft hi; exact sound_fieldAddr hE hH hev hf hi hk
      · cases hk
    · cases hk
  case field t x i =>
    split at hk
    · rename_i fs l y hf hx
      split at hk
      · rename_i off ft hi
        split at hk
        · rename_i z hz; exact sound_field hE hH hev hf hi hx hz hk
        · cases hk
      · cases hk
    · cases hk
  case indexAddr t x i =>
    split at hk
    · rename_i te by' kx n ht hn
      split at hk
      · rename_i xs hxs; exact sound_indexAddr hE hH hev ht hn hxs hk
      · cases hk
    · cases hk
  case extract t i =>
    split at hk
    · rename_i vs hx
      split at hk
      · rename_i v hv; exact sound_extract hH hev hx hv hk
      · cases hk
    · cases hk
  case makeFunc fn first captured =>
    cases fn <;> dsimp only at hk <;> try (cases hk; done)
    obtain ⟨hf, hk⟩ := cond_some hk
    exact sound_makeFunc hH hev hf hk
  case call c =>
    split at hk
    · rename_i b hb
      have := sound_callB (P := P) (ty := ty) (cs := c.args.map fun | .const _ => true | _ => false) hE hH (AVs.rep_map ev ρ hev c.args.toList) hk
      show OpRes P base F0 W0 g h w (do let d ← resolve ρ c ty; invoke d.target d.args) k r
      unfold resolve
      rw [hb]
      have e : (List.map ρ c.args.toList).toArray = c.args.map ρ := Array.ext' (by simp)
      rw [e] at this
      exact this
    · cases hk

end
end Go.Proofs.Ythdjomfkechfoaa.Vx
