/-
  Vx, part h: operations that make or write memory.
-/
import Derived.Test.YthdjomfkechfoaaVg
import Derived.Laws.Tables
import Derived.Laws.CopyRow
import Derived.Deep.AppendSrc
import Derived.Deep.Upon
namespace Go.Proofs.Ythdjomfkechfoaa.Vx
open Go Go.RowKit
set_option linter.unusedSimpArgs false
set_option linter.unusedVariables false

section
variable {R : Type} {P : Program} {E : Env} {base : Nat} {F0 : Nat → Nat → Prop} {W0 : World} {g : Gh} {h : H} {w : World}
variable {ev : Operand → AV} {ρ : Operand → Value} {k : AV → H → Option R} {r : R} {key : Key}

theorem TY.rep_cells {F : Nat → Nat → Prop} : (t : TY) → (x : t.den) → (v : Value) → t.rep w F x v → ∃ vs : List Value, v.cells = vs.toArray ∧ t.lay.vals w F x vs
  | .sc c, x, v, hr => ⟨[v], (CT.rep_one c x v hr).2, v, rfl, hr⟩
  | .st l, x, v, hr => by
    obtain ⟨vs, hv, hr⟩ := hr
    exact ⟨vs, by rw [hv]; rfl, hr⟩

theorem zeroValue_run {t : TypeId} {y : TY} (hy : TyOk P t y) (w : World) (F : Nat → Nat → Prop) : ∃ z, (zeroValue t).run P w = .ok z w ∧ y.rep w F y.lay.zero z ∧ (∃ i, P.info? t = some i ∧ i.zero = some z) := by
  obtain ⟨i, z, hi, hs, hz, ho⟩ := hy.info
  exact ⟨z, by simp [zeroValue, typeInfo, hi, hz], TY.ofConst_rep y z _ ho, i, hi, hz⟩

theorem sound_new (hH : HRel base F0 W0 g h w) {s : Sem Next} {l : Lay} {x : l.den} {vs : List Value} {ty : TypeId} (hb : h.blk key = none) (hv : l.vals w (Fr base F0 g h) x vs)
    (hs : s.run P w = .ok (.value (.pointer (some ⟨w.heap.size, 0, none⟩))) (w.alloc (.cells vs.toArray ty)))
    (hk : k (.ptr key 0) (h.setBlk key ⟨l, x⟩) = some r) : OpRes P base F0 W0 g h w s k r := by
  obtain ⟨h1, h2, h3⟩ := hH.newBlk (ty := ty) hb hv
  exact ⟨_, _, _, _, _, _, hk, hs, .inl rfl, h1, h2, by rw [h3], by rw [H.setBlk_same]; rfl⟩

theorem sound_alloc (hE : EOk P E) (hH : HRel base F0 W0 g h w) {t : TypeId} {ty : TY} (ht : E.ty t = some ty) (hb : h.blk key = none)
    (hk : k (.ptr key 0) (h.setBlk key ⟨ty.lay, ty.lay.zero⟩) = some r) : OpRes P base F0 W0 g h w (do pure (.value (← Instr.alloc t true (.tuple #[])))) k r := by
  obtain ⟨z, hz, hrep, _⟩ := zeroValue_run (hE.ty t ty ht) w (Fr base F0 g h)
  obtain ⟨vs, hc, hv⟩ := TY.rep_cells ty _ z hrep
  refine sound_new hH hb hv ?_ hk (ty := t)
  simp [Instr.alloc, hz, newVar, newRow, hc]

theorem sound_box (hE : EOk P E) (hH : HRel base F0 W0 g h w) (hev : ∀ x, (ev x).rep w (Fr base F0 g h) g h (ρ x)) {t : TypeId} {ty : TY} {x : Operand} {y : ty.den} (hb : h.blk key = none)
    (hx : (ev x).to ty = some y) (hk : k (.ptr key 0) (h.setBlk key ⟨ty.lay, y⟩) = some r) : OpRes P base F0 W0 g h w (do pure (.value (← Instr.box t (ρ x)))) k r := by
  have hrep := AV.to_rep hx (hev x)
  obtain ⟨vs, hc, hv⟩ := TY.rep_cells ty y _ hrep
  refine sound_new hH hb hv ?_ hk (ty := t)
  simp [Instr.box, newVar, newRow, hc]

theorem kit_setRow {B : Nat} {old cs : Array Value} {ty : TypeId} (hg : w.heap[B]? = some (.cells old ty (0, 0))) : w.setRow B cs = setRow w B cs ty := by
  unfold World.setRow setRow
  congr 1
  apply Array.ext_getElem?
  intro i
  have hlt := (Array.getElem?_eq_some_iff.1 hg).1
  by_cases e : i = B
  · subst e
    have hx : w.heap[i] = .cells old ty (0, 0) := (Array.getElem?_eq_some_iff.1 hg).2
    rw [Array.getElem?_modify, Array.getElem?_eq_getElem hlt, hx]
    simp [hlt]
  · simp [Array.getElem?_modify, Array.getElem?_setIfInBounds, Ne.symm e]

theorem sound_store (hE : EOk P E) (hH : HRel base F0 W0 g h w) (hev : ∀ x, (ev x).rep w (Fr base F0 g h) g h (ρ x)) {t : TypeId} {ty : TY} {a x : Operand} {q : Key} {off : Nat} {b : Blk}
    {y : ty.den} {z : b.lay.den} (ht : E.ty t = some ty) (ha : ev a = .ptr q off) (hb : h.blk q = some b) (hx : (ev x).to ty = some y) (hz : Lay.set b.lay b.x off ty.lay y = some z)
    (hk : k (.con undef) (h.setBlk q ⟨b.lay, z⟩) = some r) : OpRes P base F0 W0 g h w (do Instr.storeAt t (ρ a) (ρ x); pure .skip) k r := by
  have har := hev a
  rw [ha] at har
  obtain ⟨hp, hq⟩ := har
  have hrep := AV.to_rep hx (hev x)
  obtain ⟨us, hc, hu⟩ := TY.rep_cells ty y _ hrep
  obtain ⟨hbase, vs, tt, hheap, hvals⟩ := hH.blk q b hb
  obtain ⟨hle, hset⟩ := Lay.set_vals b.lay b.x off ty.lay y z hz vs us hvals hu
  have hul := Lay.vals_length _ _ _ hu
  have hvl := Lay.vals_length _ _ _ hvals
  obtain ⟨h1, h2⟩ := hH.write hb hset (ty := tt)
  refine ⟨_, _, g, _, .skip, undef, hk, ?_, .inr ⟨rfl, rfl⟩, h1, h2, rfl⟩
  have hst := run_storeCells_at (P := P) (g.ρ q) off tt us 0 vs.toArray w hheap (by simp [hul, hvl]; exact hle) (Lay.vals_one _ _ _ hu)
  rw [hp]
  simp only [Nat.add_zero, List.toList_toArray] at hst
  have hsz : (us.length = ty.lay.size) := hul
  simp [Instr.storeAt, Instr.sureAddr, storeVar, hc, hsz, sizeOf_run (hE.ty t ty ht), hst, kit_setRow hheap]

/-! ### structs and rows that are built -/
theorem fill_fold (off : Nat) : ∀ (us : List Value) (n : Nat) (cells : Array Value), off + n + us.length ≤ cells.size →
    ((us.zipIdx n).foldl (fun (cs : Array Value) (p : Value × Nat) => cs.setIfInBounds (off + p.2) p.1) cells).size = cells.size ∧
    ∀ i, ((us.zipIdx n).foldl (fun (cs : Array Value) (p : Value × Nat) => cs.setIfInBounds (off + p.2) p.1) cells)[i]? = if off + n ≤ i ∧ i < off + n + us.length then us[i - (off + n)]? else cells[i]?
  | [], n, cells, _ => by
    refine ⟨rfl, fun i => ?_⟩
    rw [if_neg (by simp only [List.length_nil]; omega)]
    rfl
  | u :: us, n, cells, hl => by
    simp only [List.length_cons] at hl
    obtain ⟨h1, h2⟩ := fill_fold off us (n + 1) (cells.setIfInBounds (off + n) u) (by simp; omega)
    refine ⟨by simpa using h1, fun i => ?_⟩
    simp only [List.zipIdx_cons, List.foldl_cons]
    rw [h2 i]
    simp only [List.length_cons]
    by_cases e : i = off + n
    · subst e
      rw [if_neg (by omega), if_pos (by omega)]
      simp [show off + n < cells.size by omega]
    · by_cases hi : off + (n + 1) ≤ i ∧ i < off + (n + 1) + us.length
      · rw [if_pos hi, if_pos (by omega)]
        rw [show i - (off + n) = (i - (off + (n + 1))) + 1 by omega]
        rfl
      · rw [if_neg hi, if_neg (by omega), Array.getElem?_setIfInBounds_ne (by omega)]

theorem fill_one (cells : Array Value) (off : Nat) (v : Value) (us : List Value) (hc : v.cells = us.toArray) (hle : off + us.length ≤ cells.size) :
    v.cells.zipIdx.foldl (fun (cs : Array Value) (p : Value × Nat) => cs.setIfInBounds (off + p.2) p.1) cells = (cells.toList.take off ++ us ++ cells.toList.drop (off + us.length)).toArray := by
  obtain ⟨h1, h2⟩ := fill_fold off us 0 cells (by simpa using hle)
  have e : v.cells.zipIdx.foldl (fun (cs : Array Value) (p : Value × Nat) => cs.setIfInBounds (off + p.2) p.1) cells = (us.zipIdx 0).foldl (fun (cs : Array Value) (p : Value × Nat) => cs.setIfInBounds (off + p.2) p.1) cells := by
    rw [← Array.foldl_toList, Array.toList_zipIdx, hc]
  rw [e]
  apply Array.ext_getElem?
  intro i
  rw [h2 i]
  simp only [Nat.add_zero, List.getElem?_toArray]
  have hm : (cells.toList.take off).length = off := by simp; omega
  by_cases h3 : i < off
  · rw [if_neg (by omega), List.append_assoc, List.getElem?_append_left (by omega), List.getElem?_take, if_pos h3]
    simp
  · by_cases h4 : i < off + us.length
    · rw [if_pos (by omega), List.append_assoc, List.getElem?_append_right (by omega), hm, List.getElem?_append_left (by omega)]
    · rw [if_neg (by omega), List.getElem?_append_right (by simp; omega), List.getElem?_drop]
      simp only [List.length_append, hm]
      rw [show off + us.length + (i - (off + us.length)) = i by omega]
      simp

theorem mapM_opt {α β : Type} (f : α → Option β) : ∀ (l : List α) (r : List β), l.length = r.length → (∀ (i : Nat) (a : α), l[i]? = some a → ∃ b, r[i]? = some b ∧ f a = some b) → l.mapM f = some r
  | [], [], _, _ => rfl
  | [], _ :: _, h, _ => by simp at h
  | _ :: _, [], h, _ => by simp at h
  | a :: l, b :: r, h, hp => by
    obtain ⟨b', hb, hf⟩ := hp 0 a rfl
    simp at hb
    subst hb
    have ih := mapM_opt f l r (by simpa using h) (fun i a ha => by simpa using hp (i + 1) a (by simpa using ha))
    simp [List.mapM_cons, hf, ih]

theorem setFields_fill {F : Nat → Nat → Prop} {fs : List (Nat × TY)} {l : Lay} {place : Nat → Option (Nat × Nat)} (hp : ∀ (i off : Nat) (ft : TY), fs[i]? = some (off, ft) → place i = some (off, ft.lay.size))
    (hev : ∀ x, (ev x).rep w F g h (ρ x)) : ∀ (parts : List (Nat × Operand)) (x x' : l.den) (cs : List Value), l.vals w F x cs → setFields fs l ev parts x = some x' →
    ∃ cs' : List Value, Instr.fill place cs.toArray (parts.map fun p => (p.1, ρ p.2)) = some cs'.toArray ∧ l.vals w F x' cs'
  | [], x, x', cs, hv, hs => by
    simp only [setFields, Option.some.injEq] at hs
    subst hs
    exact ⟨cs, rfl, hv⟩
  | (i, o) :: parts, x, x', cs, hv, hs => by
    simp only [setFields] at hs
    split at hs
    · cases hs
    · rename_i off ft hi
      split at hs
      · cases hs
      · rename_i y hy
        split at hs
        · cases hs
        · rename_i z hz
          obtain ⟨us, hc, hu⟩ := TY.rep_cells ft y _ (AV.to_rep hy (hev o))
          obtain ⟨hle, hset⟩ := Lay.set_vals l x off ft.lay y z hz cs us hv hu
          have hul := Lay.vals_length _ _ _ hu
          have hcl := Lay.vals_length _ _ _ hv
          obtain ⟨cs', hf, hv'⟩ := setFields_fill hp hev parts z x' _ hset hs
          refine ⟨cs', ?_, hv'⟩
          have hone := fill_one cs.toArray off (ρ o) us hc (by simp [hul, hcl]; exact hle)
          simp only [List.map_cons, Instr.fill, hp i off ft hi]
          rw [if_neg (by simp [hc, hul, hcl]; omega)]
          rw [← hf]
          congr 1
          rw [hul] at hone
          simpa using hone

theorem sound_build (hE : EOk P E) (hH : HRel base F0 W0 g h w) (hev : ∀ x, (ev x).rep w (Fr base F0 g h) g h (ρ x)) {t : TypeId} {parts : Array (Nat × Operand)} {l : Lay} {fs : List (Nat × TY)} {x : l.den}
    (ht : E.ty t = some (.st l)) (hf : E.fld t = some fs) (hx : setFields fs l ev parts.toList l.zero = some x)
    (hk : k (.dat (.st l) x) h = some r) : OpRes P base F0 W0 g h w (do pure (.value (← Instr.build t (parts.map fun (i, x) => (i, ρ x))))) k r := by
  obtain ⟨fields, hu, hlen, hfl⟩ := (hE.fld t fs hf).fld
  obtain ⟨i, z, hi, hs, hz, ho⟩ := (hE.ty t _ ht).info
  have hzr := TY.ofConst_rep (w := w) (F := Fr base F0 g h) (.st l) z _ ho
  obtain ⟨zs, hzv, hzs⟩ := hzr
  obtain ⟨cs', hfill, hv'⟩ := setFields_fill (place := fun i => ((fs.map fun p => (p.1, p.2.lay.size)).toArray[i]?)) (fun i off ft hi => by simp [hi]) hev parts.toList l.zero x zs hzs hx
  have hplaces : fields.toList.mapM (fun f => (P.info? f.type).map fun i => (f.offset, i.size)) = some (fs.map fun p => (p.1, p.2.lay.size)) := by
    refine mapM_opt _ _ _ (by simpa using hlen) (fun i f hfi => ?_)
    have hlt := (List.getElem?_eq_some_iff.1 hfi).1
    have hlt' : i < fs.length := by simpa [hlen] using hlt
    have he : fs[i]? = some (fs[i].1, fs[i].2) := by simp [hlt']
    obtain ⟨f', hf', hoff, hty⟩ := hfl i fs[i].1 fs[i].2 he
    have : f = f' := by
      have h1 : fields[i]? = some f := by simpa using hfi
      rw [hf'] at h1; exact (Option.some.inj h1).symm
    subst this
    obtain ⟨j, _, hj, hjs, _⟩ := hty.info
    exact ⟨(fs[i].1, fs[i].2.lay.size), by simp [hlt'], by simp [hj, hjs, hoff]⟩
  refine OpRes.pure hH hk (u := .agg cs'.toArray) ?_ ⟨cs', rfl, hv'⟩
  have hb : P.built t (parts.map fun (i, x) => (i, ρ x)).toList = some cs'.toArray := by
    unfold Program.built
    simp only [hi, hu, hz, hplaces]
    rw [hzv]
    simpa [Value.cells] using hfill
  simp [run_build w t _ _ hb]

/-! ### rows -/
def Rows (w : World) (F : Nat → Nat → Prop) (l : Lay) : List l.den → List Value → Prop
  | [], vs => vs = []
  | x :: xs, vs => ∃ us vs', vs = us ++ vs' ∧ l.vals w F x us ∧ Rows w F l xs vs'

section
variable {F F' : Nat → Nat → Prop} {w' : World}

theorem Lay.size_pos : (l : Lay) → 0 < l.size
  | .one _ => by simp [Lay.size]
  | .cons _ l => by simp [Lay.size]

theorem Rows.length {l : Lay} : ∀ {xs : List l.den} {vs : List Value}, Rows w F l xs vs → vs.length = xs.length * l.size
  | [], vs, hr => by have : vs = [] := hr; subst this; simp
  | x :: xs, vs, hr => by
    obtain ⟨us, vs', rfl, hu, hr⟩ := hr
    simp [Rows.length hr, Lay.vals_length _ _ _ hu, Nat.add_mul, Nat.add_comm]

theorem Rows.append {l : Lay} : ∀ {xs : List l.den} {vs : List Value}, Rows w F l xs vs → ∀ {ys : List l.den} {us : List Value}, Rows w F l ys us → Rows w F l (xs ++ ys) (vs ++ us)
  | [], vs, hr, ys, us, hr' => by have : vs = [] := hr; subst this; exact hr'
  | x :: xs, vs, hr, ys, us, hr' => by
    obtain ⟨as, vs', rfl, hu, hr⟩ := hr
    exact ⟨as, vs' ++ us, by simp, hu, Rows.append hr hr'⟩

theorem Rows.keeps {l : Lay} (hk : Keeps w F w' F') : ∀ {xs : List l.den} {vs : List Value}, Rows w F l xs vs → Rows w' F' l xs vs
  | [], vs, hr => hr
  | x :: xs, vs, hr => by
    obtain ⟨us, vs', rfl, hu, hr⟩ := hr
    exact ⟨us, vs', rfl, Lay.vals_keeps hk _ _ _ hu, Rows.keeps hk hr⟩

theorem Rows.one {l : Lay} : ∀ {xs : List l.den} {vs : List Value}, Rows w F l xs vs → ∀ v ∈ vs, v.oneCell' = true
  | [], vs, hr => by have : vs = [] := hr; subst this; intro v hv; simp at hv
  | x :: xs, vs, hr => by
    obtain ⟨us, vs', rfl, hu, hr⟩ := hr
    intro v hv
    rcases List.mem_append.1 hv with hv | hv
    · exact Lay.vals_one _ _ _ hu v hv
    · exact Rows.one hr v hv

theorem RowAt.append {B o : Nat} {vs us : List Value} (h1 : RowAt w F B o vs) (h2 : RowAt w F B (o + vs.length) us) : RowAt w F B o (vs ++ us) := by
  intro j v hj
  by_cases hlt : j < vs.length
  · rw [List.getElem?_append_left hlt] at hj; exact h1 j v hj
  · rw [List.getElem?_append_right (by omega)] at hj
    have := h2 _ v hj
    rw [show o + vs.length + (j - vs.length) = o + j by omega] at this
    exact this

theorem RowAt.left {B o : Nat} {vs us : List Value} (h : RowAt w F B o (vs ++ us)) : RowAt w F B o vs := by
  intro j v hj
  have hlt := (List.getElem?_eq_some_iff.1 hj).1
  exact h j v (by rw [List.getElem?_append_left hlt]; exact hj)

theorem RowAt.right {B o : Nat} {vs us : List Value} (h : RowAt w F B o (vs ++ us)) : RowAt w F B (o + vs.length) us := by
  intro j v hj
  have := h (vs.length + j) v (by rw [List.getElem?_append_right (by omega)]; simpa using hj)
  rw [← Nat.add_assoc] at this
  exact this

theorem Rows.lies {l : Lay} : ∀ {xs : List l.den} {vs : List Value} {B off : Nat}, Rows w F l xs vs → RowAt w F B off vs → ∀ (i : Nat) (x : l.den), xs[i]? = some x → l.lies w F x B (off + i * l.size)
  | [], vs, B, off, hr, hrow, i, x, hx => by simp at hx
  | y :: xs, vs, B, off, hr, hrow, i, x, hx => by
    obtain ⟨us, vs', rfl, hu, hr⟩ := hr
    cases i with
    | zero =>
      simp at hx; subst hx
      exact (Lay.lies_iff l y B _).2 ⟨us, hu, by simpa using hrow.left⟩
    | succ i =>
      have hul := Lay.vals_length _ _ _ hu
      have := Rows.lies hr (hul ▸ hrow.right) i x (by simpa using hx)
      rw [show off + l.size + i * l.size = off + (i + 1) * l.size by rw [Nat.succ_mul]; omega] at this
      exact this

theorem rows_of_lies {l : Lay} : ∀ (xs : List l.den) (B off : Nat), (∀ (i : Nat) (x : l.den), xs[i]? = some x → l.lies w F x B (off + i * l.size)) → ∃ vs, Rows w F l xs vs ∧ RowAt w F B off vs
  | [], B, off, _ => ⟨[], rfl, fun j v hj => by simp at hj⟩
  | x :: xs, B, off, hl => by
    obtain ⟨us, hu, hrow⟩ := (Lay.lies_iff l x B off).1 (by simpa using hl 0 x rfl)
    have hul := Lay.vals_length _ _ _ hu
    obtain ⟨vs, hr, hrow'⟩ := rows_of_lies xs B (off + l.size) (fun i y hy => by
      have := hl (i + 1) y (by simpa using hy)
      rw [show off + (i + 1) * l.size = off + l.size + i * l.size by rw [Nat.succ_mul]; omega] at this
      exact this)
    exact ⟨us ++ vs, ⟨us, vs, rfl, hu, hr⟩, RowAt.append hrow (by rw [hul]; exact hrow')⟩

theorem Rows.set {l : Lay} {y : l.den} {us : List Value} (hu : l.vals w F y us) : ∀ {xs : List l.den} {vs : List Value} (i : Nat), Rows w F l xs vs → i < xs.length →
    Rows w F l (xs.set i y) (vs.take (i * l.size) ++ us ++ vs.drop (i * l.size + us.length))
  | [], vs, i, hr, hi => by simp at hi
  | x :: xs, vs, 0, hr, hi => by
    obtain ⟨as, vs', rfl, ha, hr⟩ := hr
    have h1 := Lay.vals_length _ _ _ hu
    have h2 := Lay.vals_length _ _ _ ha
    refine ⟨us, vs', ?_, hu, hr⟩
    simp [h1, ← h2]
  | x :: xs, vs, i + 1, hr, hi => by
    obtain ⟨as, vs', rfl, ha, hr⟩ := hr
    have h2 := Lay.vals_length _ _ _ ha
    refine ⟨as, _, ?_, ha, Rows.set hu i hr (by simpa using hi)⟩
    have e : (i + 1) * l.size = as.length + i * l.size := by rw [Nat.succ_mul, h2]; omega
    rw [e, List.take_append, List.drop_append, List.take_of_length_le (by omega), List.drop_eq_nil_of_le (by omega)]
    simp [List.append_assoc, Nat.add_assoc]

theorem rows_replicate {l : Lay} {zs : List Value} (hz : l.vals w F l.zero zs) : ∀ n, Rows w F l (List.replicate n l.zero) (List.replicate n zs).flatten
  | 0 => rfl
  | n + 1 => ⟨zs, (List.replicate n zs).flatten, by simp [List.replicate_succ], hz, rows_replicate hz n⟩
end

end
end Go.Proofs.Ythdjomfkechfoaa.Vx
