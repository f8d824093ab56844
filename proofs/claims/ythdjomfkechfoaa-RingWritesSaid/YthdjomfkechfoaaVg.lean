/-
  Vx, part g: operations that make no memory, as the executor takes them.
-/
import Derived.Test.YthdjomfkechfoaaVf
namespace Go.Proofs.Ythdjomfkechfoaa.Vx
open Go Go.RowKit
set_option linter.unusedSimpArgs false
set_option linter.unusedVariables false

section
variable {R : Type} {P : Program} {E : Env} {base : Nat} {F0 : Nat → Nat → Prop} {W0 : World} {g : Gh} {h : H} {w : World}
variable {ev : Operand → AV} {ρ : Operand → Value} {k : AV → H → Option R} {r : R} {key : Key}

theorem drop_take_get {vs : List Value} {off n j : Nat} {v : Value} (h : ((vs.drop off).take n)[j]? = some v) : vs[off + j]? = some v := by
  rw [List.getElem?_take] at h
  split at h
  · simpa [List.getElem?_drop] using h
  · cases h

theorem sound_move (hH : HRel base F0 W0 g h w) (hev : ∀ x, (ev x).rep w (Fr base F0 g h) g h (ρ x)) {x : Operand} {t : TypeId}
    (hk : (match ev x with
      | .con (.slice none 0 0) => match E.ty t with
        | some (.sc (.sl l)) => k (.fsl l []) h
        | _ => k (.con (.slice none 0 0)) h
      | v => k v h) = some r) : OpRes P base F0 W0 g h w (pure (.value (ρ x))) k r := by
  have hx := hev x
  split at hk
  · rename_i he
    rw [he] at hx
    have hx' : ρ x = .slice none 0 0 := hx
    split at hk
    · exact OpRes.pure hH hk rfl (by rw [hx']; exact ⟨none, rfl, fun h => by simp at h⟩)
    · exact OpRes.pure hH hk rfl hx
  · exact OpRes.pure hH hk rfl hx

theorem sound_pick (hH : HRel base F0 W0 g h w) (hev : ∀ x, (ev x).rep w (Fr base F0 g h) g h (ρ x)) {c a b : Operand} {p : Bool} (hc : (ev c).bool? = some p)
    (hk : aPick p (ev a) (ev b) h k = some r) : OpRes P base F0 W0 g h w (do pure (.value (if ← asBool (ρ c) then ρ a else ρ b))) k r := by
  have hcv := AV.bool?_rep hc (hev c)
  have hrun : (do pure (.value (if ← asBool (ρ c) then ρ a else ρ b)) : Sem Next).run P w = .ok (.value (if p = true then ρ a else ρ b)) w := by
    rw [hcv]; simp [asBool]
  unfold aPick at hk
  split at hk
  · rename_i p' q' ha hb
    have h1 := AV.bool?_rep ha (hev a)
    have h2 := AV.bool?_rep hb (hev b)
    refine OpRes.pure hH hk hrun ?_
    rw [h1, h2]
    cases p <;> rfl
  · cases p
    · exact OpRes.pure hH (by simpa using hk) hrun (by simpa using hev b)
    · exact OpRes.pure hH (by simpa using hk) hrun (by simpa using hev a)

theorem sound_load (hE : EOk P E) (hH : HRel base F0 W0 g h w) (hev : ∀ x, (ev x).rep w (Fr base F0 g h) g h (ρ x)) {t : TypeId} {a : Operand} {ty : TY} (ht : E.ty t = some ty)
    (hk : (match ev a with
      | .ptr q off => match h.blk q with
        | some b => match Lay.get b.lay b.x off ty.lay with
          | some y => k (.dat ty y) h
          | none => none
        | none => none
      | .ept l x off => match Lay.get l x off ty.lay with
        | some y => k (.dat ty y) h
        | none => none
      | _ => none) = some r) : OpRes P base F0 W0 g h w (do pure (.value (← Instr.loadAt t (ρ a)))) k r := by
  have hty := hE.ty t ty ht
  have ha := hev a
  split at hk
  · rename_i q off he
    rw [he] at ha
    obtain ⟨hp, hq⟩ := ha
    split at hk
    · rename_i b hb
      split at hk
      · rename_i y hy
        obtain ⟨_, vs, tt, hheap, hvals⟩ := hH.blk q b hb
        obtain ⟨hle, hsub⟩ := Lay.get_vals b.lay b.x off ty.lay y hy vs hvals
        obtain ⟨u, hu, hr⟩ := loadVar_run (P := P) hty (B := g.ρ q) (o := off) hsub (fun j v hj => by
          have := drop_take_get hj
          rw [cell_row hheap]; simpa using this)
        exact OpRes.pure hH hk (by rw [hp]; simp [Instr.loadAt, Instr.sureAddr, hu]) hr
      · cases hk
    · cases hk
  · rename_i l x off he
    rw [he] at ha
    obtain ⟨B, o, hp, hlies⟩ := ha
    split at hk
    · rename_i y hy
      obtain ⟨vs, hvals, hrow⟩ := (Lay.lies_iff l x B o).1 hlies
      obtain ⟨hle, hsub⟩ := Lay.get_vals l x off ty.lay y hy vs hvals
      obtain ⟨u, hu, hr⟩ := loadVar_run (P := P) hty (B := B) (o := o + off) hsub (fun j v hj => by
        have := hrow _ _ (drop_take_get hj)
        rw [Nat.add_assoc]; exact this.1)
      exact OpRes.pure hH hk (by rw [hp]; simp [Instr.loadAt, Instr.sureAddr, hu]) hr
    · cases hk
  · cases hk

theorem sound_nilCheck (hH : HRel base F0 W0 g h w) (hev : ∀ x, (ev x).rep w (Fr base F0 g h) g h (ρ x)) {o : Oper} {x : Operand} (ho : o.op = .nilCheck x)
    (hk : (match ev x with
      | .ptr q off => k (.ptr q off) h
      | .ept l x off => k (.ept l x off) h
      | _ => none) = some r) : OpRes P base F0 W0 g h w (execOp ρ o) k r := by
  have hx := hev x
  split at hk
  · rename_i q off he
    rw [he] at hx
    have hp := hx.1
    exact OpRes.pure hH hk (by simp [execOp, ho, hp] <;> rfl) hx
  · rename_i l y off he
    rw [he] at hx
    obtain ⟨B, o', hp, hl⟩ := hx
    exact OpRes.pure hH hk (by simp [execOp, ho, hp] <;> rfl) ⟨B, o', rfl, hl⟩
  · cases hk

theorem sound_fieldAddr (hE : EOk P E) (hH : HRel base F0 W0 g h w) (hev : ∀ x, (ev x).rep w (Fr base F0 g h) g h (ρ x)) {t : TypeId} {x : Operand} {i off : Nat} {ft : TY} {fs : List (Nat × TY)}
    (hf : E.fld t = some fs) (hi : fs[i]? = some (off, ft))
    (hk : (match ev x with
        | .ptr q o' => k (.ptr q (o' + off)) h
        | .ept l y o' => k (.ept l y (o' + off)) h
        | _ => none) = some r) : OpRes P base F0 W0 g h w (do pure (.value (← Instr.fieldAt t (ρ x) i))) k r := by
  obtain ⟨fields, hu, _, hfl⟩ := (hE.fld t fs hf).fld
  obtain ⟨f, hfi, hoff, hft⟩ := hfl i off ft hi
  have hx := hev x
  have hsz : (ft.lay.size = 0) = False := by
    apply propext; constructor
    · intro e; cases hl : ft.lay <;> simp [hl, Lay.size] at e
    · intro e; exact e.elim
  have hrun : ∀ B o', (do pure (.value (← Instr.fieldAt t (.pointer (some ⟨B, o', none⟩)) i)) : Sem Next).run P w = .ok (.value (.pointer (some ⟨B, o' + off, none⟩))) w := by
    intro B o'
    simp [Instr.fieldAt, run_underlying hu, hfi, Instr.sureAddr, fieldPlace, sizeOf_run hft, hsz, hoff, Addr.add_lit]
  split at hk
  · rename_i q o' he
    rw [he] at hx
    obtain ⟨hp, hq⟩ := hx
    exact OpRes.pure hH hk (by rw [hp]; exact hrun _ _) ⟨rfl, hq⟩
  · rename_i l y o' he
    rw [he] at hx
    obtain ⟨B, o1, hp, hl⟩ := hx
    exact OpRes.pure hH hk (by rw [hp]; exact hrun _ _) ⟨B, o1, by rw [Nat.add_assoc], hl⟩
  · cases hk

theorem part_run {t : TypeId} {y : TY} (hy : TyOk P t y) {F : Nat → Nat → Prop} {cs : List Value} {o : Nat} {x : y.den} {vs : List Value}
    (hv : y.lay.vals w F x vs) (hcs : vs = (cs.drop o).take y.lay.size) :
    ∃ u, (part t cs.toArray o).run P w = .ok u w ∧ y.rep w F x u := by
  unfold part
  simp only [Sem.run_bind, isAgg_run hy, Result.andThen_ok]
  cases y with
  | sc c =>
    obtain ⟨v, rfl, hr⟩ := hv
    have hc : cs[o]? = some v := by
      have : ([v] : List Value)[0]? = some v := rfl
      rw [hcs] at this
      simpa using drop_take_get this
    exact ⟨v, by simp [hc], hr⟩
  | st l =>
    refine ⟨.agg vs.toArray, ?_, vs, rfl, hv⟩
    simp only [if_true, Sem.run_bind, sizeOf_run hy, Result.andThen_ok, TY.lay]
    rw [hcs]
    have : (cs.toArray.extract o (o + l.size)) = ((cs.drop o).take l.size).toArray := by
      apply Array.ext'
      simp [List.extract_eq_take_drop]
    rw [this]
    rfl

theorem sound_field (hE : EOk P E) (hH : HRel base F0 W0 g h w) (hev : ∀ x, (ev x).rep w (Fr base F0 g h) g h (ρ x)) {t : TypeId} {x : Operand} {i off : Nat} {ft : TY} {fs : List (Nat × TY)}
    {l : Lay} {y : l.den} {z : ft.lay.den} (hf : E.fld t = some fs) (hi : fs[i]? = some (off, ft)) (hx : ev x = .dat (.st l) y) (hz : Lay.get l y off ft.lay = some z)
    (hk : k (.dat ft z) h = some r) : OpRes P base F0 W0 g h w (do pure (.value (← Instr.field t (ρ x) i))) k r := by
  obtain ⟨fields, hu, _, hfl⟩ := (hE.fld t fs hf).fld
  obtain ⟨f, hfi, hoff, hft⟩ := hfl i off ft hi
  have hxr := hev x
  rw [hx] at hxr
  obtain ⟨vs, hp, hvals⟩ := hxr
  obtain ⟨hle, hsub⟩ := Lay.get_vals l y off ft.lay z hz vs hvals
  obtain ⟨u, hur, hrep⟩ := part_run (P := P) (w := w) hft hsub rfl
  refine OpRes.pure hH hk ?_ hrep
  rw [hp]
  simp [Instr.field, run_underlying hu, hfi, asAgg, hoff, hur]

theorem getI_some {α : Type} {xs : List α} {i : Int} {e : α} (h : getI xs i = some e) : 0 ≤ i ∧ i < xs.length ∧ xs[i.toNat]? = some e := by
  unfold getI at h
  obtain ⟨h1, h2⟩ := cond_some h
  have h1' : 0 ≤ i := by simpa using h1
  have h3 := (List.getElem?_eq_some_iff.1 h2).1
  exact ⟨h1', by omega, h2⟩

theorem sound_indexAddr (hE : EOk P E) (hH : HRel base F0 W0 g h w) (hev : ∀ x, (ev x).rep w (Fr base F0 g h) g h (ρ x)) {t : TypeId} {x ix : Operand} {te : TY} {by' : Nat} {kx : IntKind} {n : Int}
    {xs : List te.lay.den} (ht : E.el t = some (te, by')) (hn : (ev ix).int? = some (kx, n)) (hxs : (ev x).list te.lay = some xs)
    (hk : ((getI xs n).bind fun e => k (.ept te.lay e 0) h) = some r) : OpRes P base F0 W0 g h w (do pure (.value (← Instr.indexAt t (ρ x) (ρ ix)))) k r := by
  obtain ⟨e0, i0, hu, hte, hi0, _⟩ := (hE.el t te by' ht).el
  have hix := AV.int?_rep hn (hev ix)
  have hx : (CT.sl te.lay).rep w (Fr base F0 g h) xs (ρ x) := AV.to_rep (t := .sc (.sl te.lay)) hxs (hev x)
  obtain ⟨a, cap, hv, hle, hrep⟩ := hx
  obtain ⟨e, he, hk⟩ := Option.bind_eq_some_iff.1 hk
  obtain ⟨h0, h1, h2⟩ := getI_some he
  obtain ⟨B, off, ha, hl⟩ := hrep (by omega)
  refine OpRes.pure hH hk (u := .pointer (some ⟨B, off + n.toNat * te.lay.size, none⟩)) ?_ ⟨B, off + n.toNat * te.lay.size, rfl, hl n.toNat e h2⟩
  rw [hix, hv, ha]
  simp [Instr.indexAt, asIntOf, run_underlying hu, h0, h1, sizeOf_run hte, Addr.add_lit]

theorem sound_extract (hH : HRel base F0 W0 g h w) (hev : ∀ x, (ev x).rep w (Fr base F0 g h) g h (ρ x)) {x : Operand} {i : Nat} {vs : List AV} {v : AV} (hx : ev x = .tup vs) (hi : vs[i]? = some v)
    (hk : k v h = some r) : OpRes P base F0 W0 g h w (do pure (.value (← Instr.extract (ρ x) i))) k r := by
  have hxr := hev x
  rw [hx] at hxr
  obtain ⟨us, hp, hrep⟩ := hxr
  obtain ⟨u, hu, hur⟩ := AVs.rep_get vs us hrep i v hi
  refine OpRes.pure hH hk ?_ hur
  rw [hp]
  simp [Instr.extract, hu]

theorem sound_unOp (hH : HRel base F0 W0 g h w) (hev : ∀ x, (ev x).rep w (Fr base F0 g h) g h (ρ x)) {op : UnOp} {x : Operand}
    (hk : (match op with
    | .neg => match (ev x).int? with
      | some (kx, a) => k (.int kx (kx.wrap (0 - a))) h
      | none => none
    | .xor => match (ev x).int? with
      | some (kx, a) => k (.int kx (ibits .xor kx (if kx.signed then -1 else kx.max) a)) h
      | none => none
    | .not => match (ev x).bool? with
      | some b => k (.bool (!b)) h
      | none => none
    | .plus => none) = some r) : OpRes P base F0 W0 g h w (do pure (.value (← Op.unary op (ρ x)))) k r := by
  cases op <;> dsimp only at hk
  · split at hk
    · rename_i kx a he
      have hp := AV.int?_rep he (hev x)
      exact OpRes.pure hH hk (by rw [hp]; simp [Op.unary, Op.intArith] <;> rfl) rfl
    · cases hk
  · split at hk
    · rename_i kx a he
      have hp := AV.int?_rep he (hev x)
      refine OpRes.pure hH hk (u := .int kx (ibits .xor kx (if kx.signed then -1 else kx.max) a)) ?_ rfl
      rw [hp]
      rfl
    · cases hk
  · split at hk
    · rename_i b he
      have hp := AV.bool?_rep he (hev x)
      exact OpRes.pure hH hk (by rw [hp]; simp [Op.unary] <;> rfl) rfl
    · cases hk
  · cases hk

theorem sound_convert (hE : EOk P E) (hH : HRel base F0 W0 g h w) (hev : ∀ x, (ev x).rep w (Fr base F0 g h) g h (ρ x)) {src dst : TypeId} {x : Operand} {ys : TY} {kd kx : IntKind} {n : Int}
    (hs : E.ty src = some ys) (hd : E.ty dst = some (.sc (.int kd))) (hn : (ev x).int? = some (kx, n))
    (hk : k (.int kd (kd.wrap n)) h = some r) : OpRes P base F0 W0 g h w (do pure (.value (← convert src dst (ρ x)))) k r := by
  have hp := AV.int?_rep hn (hev x)
  obtain ⟨d, hdu, hdd⟩ := (hE.ty dst _ hd).desc
  obtain ⟨e, heu, _⟩ := (hE.ty src _ hs).desc
  have hd' : d = .int kd := by
    cases d <;> simp [TY.desc, CT.desc] at hdd
    rw [kbeq_eq hdd]
  subst hd'
  refine OpRes.pure hH hk (u := .int kd (kd.wrap n)) ?_ rfl
  rw [hp]
  simp only [Sem.run_bind, convert, run_underlying heu, run_underlying hdu, Result.andThen_ok]
  cases e <;> rfl

theorem sound_makeFunc (hH : HRel base F0 W0 g h w) (hev : ∀ x, (ev x).rep w (Fr base F0 g h) g h (ρ x)) {f : Nat} {first captured : Array Operand} (hf : first.isEmpty = true)
    (hk : k (.fn f (captured.toList.map ev)) h = some r) : OpRes P base F0 W0 g h w (do pure (.value (← Instr.makeFunc (.func f) (first.map ρ) (captured.map ρ)))) k r := by
  have hfirst : first = #[] := by simpa using hf
  subst hfirst
  refine OpRes.pure hH hk (u := .func (.func f) #[] (captured.toList.map ρ).toArray) ?_ ⟨captured.toList.map ρ, rfl, AVs.rep_map ev ρ hev _⟩
  rw [show (captured.toList.map ρ).toArray = captured.map ρ from Array.ext' (by simp)]
  simp [Instr.makeFunc]

end
end Go.Proofs.Ythdjomfkechfoaa.Vx
