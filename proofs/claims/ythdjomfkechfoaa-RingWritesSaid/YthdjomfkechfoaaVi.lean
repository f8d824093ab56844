/-
  Vx, part i: rows that are built, cut and appended to.
-/
import Derived.Test.YthdjomfkechfoaaVh
namespace Go.Proofs.Ythdjomfkechfoaa.Vx
open Go Go.RowKit
set_option linter.unusedSimpArgs false
set_option linter.unusedVariables false

section
variable {R : Type} {P : Program} {E : Env} {base : Nat} {F0 : Nat → Nat → Prop} {W0 : World} {g : Gh} {h : H} {w : World}
variable {ev : Operand → AV} {ρ : Operand → Value} {k : AV → H → Option R} {r : R} {key : Key}

/-- A new block that nothing will write. -/
theorem below_alloc (w : World) (o : Obj) : Below w.heap.size w (w.alloc o) := (Below.refl _ w).alloc (Nat.le_refl _) o

theorem HRel.newRow (hH : HRel base F0 W0 g h w) {l : Lay} {xs : List l.den} {vs : List Value} (hr : Rows w (Fr base F0 g h) l xs vs) (ty : TypeId) :
    HRel base F0 W0 g h (w.alloc (.cells vs.toArray ty)) ∧ Ext base F0 g h w g h (w.alloc (.cells vs.toArray ty)) ∧
    ∀ (i : Nat) (x : l.den), xs[i]? = some x → l.lies (w.alloc (.cells vs.toArray ty)) (Fr base F0 g h) x w.heap.size (0 + i * l.size) := by
  obtain ⟨h1, h2⟩ := hH.grow (below_alloc w (.cells vs.toArray ty))
  refine ⟨h1, h2, fun i x hx => Rows.lies (hr.keeps h2.keeps) (fun j v hj => ⟨?_, hH.fresh_free (Nat.le_refl _) _⟩) i x hx⟩
  rw [cell_row heap_alloc_here]
  simpa using hj

theorem setElems_fill {F : Nat → Nat → Prop} {te : TY} (hev : ∀ x, (ev x).rep w F g h (ρ x)) : ∀ (parts : List (Nat × Operand)) (xs xs' : List te.den) (cs : List Value),
    Rows w F te.lay xs cs → setElems te ev parts xs = some xs' →
    ∃ cs' : List Value, Instr.fill (fun i => some (i * te.lay.size, te.lay.size)) cs.toArray (parts.map fun p => (p.1, ρ p.2)) = some cs'.toArray ∧ Rows w F te.lay xs' cs'
  | [], xs, xs', cs, hr, hs => by
    simp only [setElems, Option.some.injEq] at hs
    subst hs
    exact ⟨cs, rfl, hr⟩
  | (i, o) :: parts, xs, xs', cs, hr, hs => by
    simp only [setElems] at hs
    split at hs
    · cases hs
    · rename_i y hy
      obtain ⟨hlt, hs⟩ := cond_some hs
      have hlt' : i < xs.length := by simpa [Nat.blt_eq] using hlt
      obtain ⟨us, hc, hu⟩ := TY.rep_cells te y _ (AV.to_rep hy (hev o))
      have hul := Lay.vals_length _ _ _ hu
      have hcl := hr.length
      have hle : i * te.lay.size + te.lay.size ≤ cs.length := by
        rw [hcl]
        calc i * te.lay.size + te.lay.size = (i + 1) * te.lay.size := by rw [Nat.succ_mul]
          _ ≤ xs.length * te.lay.size := Nat.mul_le_mul_right _ hlt'
      obtain ⟨cs', hf, hr'⟩ := setElems_fill hev parts _ xs' _ (Rows.set hu i hr hlt') hs
      refine ⟨cs', ?_, hr'⟩
      have hone := fill_one cs.toArray (i * te.lay.size) (ρ o) us hc (by simp [hul]; exact hle)
      simp only [List.map_cons, Instr.fill]
      rw [if_neg (by simp [hc, hul]; omega)]
      rw [← hf]
      congr 1

theorem zero_cells {F : Nat → Nat → Prop} {l : Lay} {zs : List Value} (hz : l.vals w F l.zero zs) : ∀ n, Rows w F l (List.replicate n l.zero) ((List.range (n * l.size)).map fun i => zs.toArray[i % zs.length]!)
  | 0 => by simp [Rows]
  | n + 1 => by
    have hl := Lay.vals_length _ _ _ hz
    have hp := Lay.size_pos l
    refine ⟨zs, (List.range (n * l.size)).map (fun i => zs.toArray[i % zs.length]!), ?_, hz, zero_cells hz n⟩
    rw [show (n + 1) * l.size = l.size + n * l.size by rw [Nat.succ_mul]; omega, List.range_add, List.map_append, List.map_map]
    congr 1
    · apply List.ext_getElem?
      intro i
      by_cases hi : i < l.size
      · rw [List.getElem?_map, List.getElem?_range hi]
        simp [hl, Nat.mod_eq_of_lt hi, hi]
      · rw [List.getElem?_eq_none (by simp; omega), List.getElem?_eq_none (by omega)]
    · apply List.map_congr_left
      intro i _
      simp [hl, Function.comp]

theorem buildSlice_run {t e : TypeId} {te : TY} {n : Nat} {parts : Array (Nat × Value)} {z : Value} {zs : List Value} {cells : Array Value} (hu : P.underlying t = some (.slice e)) (hte : TyOk P e te)
    (hsz : ¬ (n * te.lay.size > 2 ^ 24)) (hz : (zeroValue e).run P w = .ok z w) (hzc : z.cells = zs.toArray)
    (hf : Instr.fill (fun i => some (i * te.lay.size, te.lay.size)) ((List.range (n * te.lay.size)).map fun i => zs.toArray[i % zs.length]!).toArray parts.toList = some cells) :
    (Instr.buildSlice t n parts).run P w = .ok (.slice (some ⟨w.heap.size, 0, none⟩) n n) (w.alloc (.cells cells e)) := by
  have hinit : Array.map (fun x => zs.toArray[x % zs.toArray.size]!) (Array.range (n * te.lay.size)) = ((List.range (n * te.lay.size)).map fun i => zs.toArray[i % zs.length]!).toArray := by
    apply Array.ext'
    simp
  unfold Instr.buildSlice
  simp only [Sem.run_bind, run_underlying hu, Result.andThen_ok, sizeOf_run hte]
  rw [if_neg hsz]
  by_cases h0 : n * te.lay.size = 0
  · rw [if_pos h0]
    rw [Sem.run_bind, Sem.run_pure, Result.andThen_ok]
    rw [h0] at hf ⊢
    have hf' : Instr.fill (fun i => some (i * te.lay.size, te.lay.size)) (Array.map (fun (x : Nat) => (#[] : Array Value)[x % 0]!) (Array.range 0)) parts.toList = some cells := by
      rw [show Array.map (fun (x : Nat) => (#[] : Array Value)[x % 0]!) (Array.range 0) = (List.map (fun i => zs.toArray[i % zs.length]!) (List.range 0)).toArray from Array.ext' (by simp)]
      exact hf
    show (match Instr.fill (fun i => some (i * te.lay.size, te.lay.size)) (Array.map (fun (x : Nat) => (#[] : Array Value)[x % 0]!) (Array.range 0)) parts.toList with
      | some cells => (do let a ← newRow e cells; pure (Value.slice (some a) n n) : Sem Value)
      | _ => stuck "buildSlice: a part of the wrong size").run P w = _
    rw [hf']
    rfl
  · rw [if_neg h0]
    simp only [Sem.run_bind, hz, Result.andThen_ok, Sem.run_pure, hzc]
    rw [hinit, hf]
    rfl

theorem sound_buildSlice (hE : EOk P E) (hH : HRel base F0 W0 g h w) (hev : ∀ x, (ev x).rep w (Fr base F0 g h) g h (ρ x)) {t : TypeId} {n by' : Nat} {parts : Array (Nat × Operand)} {te : TY} {xs : List te.lay.den}
    (ht : E.el t = some (te, by')) (hsz : Nat.ble (n * te.lay.size) 16777216 = true) (hx : setElems te ev parts.toList (List.replicate n te.lay.zero) = some xs)
    (hk : k (.fsl te.lay xs) h = some r) : OpRes P base F0 W0 g h w (do pure (.value (← Instr.buildSlice t n (parts.map fun (i, x) => (i, ρ x))))) k r := by
  obtain ⟨e, i, hu, hte, hi, _⟩ := (hE.el t te by' ht).el
  obtain ⟨z, hz, hzr, _⟩ := zeroValue_run hte w (Fr base F0 g h)
  obtain ⟨zs, hzc, hzv⟩ := TY.rep_cells te _ z hzr
  have hzl := Lay.vals_length _ _ _ hzv
  obtain ⟨cs', hf, hr⟩ := setElems_fill hev parts.toList _ xs _ (zero_cells hzv n) hx
  have hlen : xs.length = n := by
    have : ∀ (parts : List (Nat × Operand)) (xs xs' : List te.den), setElems te ev parts xs = some xs' → xs'.length = xs.length := by
      intro parts
      induction parts with
      | nil => intro xs xs' hs; simp only [setElems, Option.some.injEq] at hs; rw [hs]
      | cons p parts ih =>
        intro xs xs' hs
        simp only [setElems] at hs
        split at hs
        · cases hs
        · obtain ⟨_, hs⟩ := cond_some hs
          rw [ih _ _ hs]; simp
    rw [this _ _ _ hx]; simp
  obtain ⟨h1, h2, h3⟩ := hH.newRow hr e
  have hsz' : ¬ (16777216 < n * te.lay.size) := by have := Nat.le_of_ble_eq_true hsz; omega
  refine ⟨_, h, g, _, .value (.slice (some ⟨w.heap.size, 0, none⟩) n n), .slice (some ⟨w.heap.size, 0, none⟩) n n, hk, ?_, .inl rfl, h1, h2, ?_⟩
  · rw [Sem.run_bind, buildSlice_run hu hte (by simpa using hsz') hz hzc (cells := cs'.toArray) (by
      rw [show (parts.map fun (i, x) => (i, ρ x)).toList = parts.toList.map fun p => (p.1, ρ p.2) by simp]; exact hf)]
    rfl
  · exact ⟨_, by rw [hlen], fun _ => ⟨w.heap.size, 0, rfl, h3⟩⟩

/-! ### cuts -/
theorem drop_take_getElem {α : Type} {xs : List α} {a n i : Nat} {x : α} (h : ((xs.drop a).take n)[i]? = some x) : xs[a + i]? = some x := by
  rw [List.getElem?_take] at h
  split at h
  · simpa [List.getElem?_drop] using h
  · cases h

theorem sliceBound_run {v : Value} {kx : IntKind} {i : Int} {y : Nat} {code : BoundsCode} (hv : v = .int kx i) (h0 : 0 ≤ i) (h1 : i ≤ y) : (Instr.sliceBound v y code).run P w = .ok i.toNat w := by
  subst hv
  simp [Instr.sliceBound, asIntOf, h0, h1]

theorem sliceAt_run {t e : TypeId} {te : TY} (hu : P.underlying t = some (.slice e)) (hte : TyOk P e te) {a : Option Addr} {len cap : Nat} (hle : len ≤ cap) {lo hi mx : Option Value} {l u : Int}
    (hlo : (lo = none ∧ l = 0) ∨ ∃ v kx, lo = some v ∧ v = .int kx l) (hhi : (hi = none ∧ u = len ∧ mx = none) ∨ ∃ v kx, hi = some v ∧ v = .int kx u)
    (hmx : mx = none ∨ ∃ v kx, mx = some v ∧ v = .int kx u) (h0 : 0 ≤ l) (h1 : l ≤ u) (h2 : u ≤ len) :
    (Instr.sliceAt t (.slice a len cap) lo hi mx).run P w =
      .ok (.slice (if (if mx.isSome then u.toNat else cap) = l.toNat then a else a.map (·.add (l.toNat * te.lay.size))) (u.toNat - l.toNat) ((if mx.isSome then u.toNat else cap) - l.toNat)) w := by
  have hul : u ≤ cap := by omega
  have hlu : (l : Int) ≤ (u.toNat : Int) := by omega
  have huu : u ≤ (u.toNat : Int) := by omega
  simp only [Instr.sliceAt, Sem.run_bind, run_underlying hu, Result.andThen_ok, Instr.slice]
  have hb : (Instr.sliceBounds true len cap lo hi mx).run P w = .ok (l.toNat, u.toNat, (if mx.isSome then u.toNat else cap)) w := by
    rcases hmx with rfl | ⟨vm, km, rfl, hvm⟩
    · rcases hhi with ⟨rfl, hu', _⟩ | ⟨vh, kh, rfl, hvh⟩
      · have hul' : (l : Int) ≤ (len : Int) := by omega
        have : u.toNat = len := by omega
        rcases hlo with ⟨rfl, hl0⟩ | ⟨vl, kl, rfl, hvl⟩
        · simp [Instr.sliceBounds, hl0, this]
        · simp [Instr.sliceBounds, sliceBound_run hvl h0 hul', this]
      · rcases hlo with ⟨rfl, hl0⟩ | ⟨vl, kl, rfl, hvl⟩
        · simp [Instr.sliceBounds, sliceBound_run hvh (by omega) hul, hl0]
        · simp [Instr.sliceBounds, sliceBound_run hvh (by omega) hul, sliceBound_run hvl h0 hlu]
    · rcases hhi with ⟨rfl, hu', hc⟩ | ⟨vh, kh, rfl, hvh⟩
      · simp at hc
      · rcases hlo with ⟨rfl, hl0⟩ | ⟨vl, kl, rfl, hvl⟩
        · simp [Instr.sliceBounds, sliceBound_run hvm (by omega) hul, sliceBound_run hvh (by omega) huu, hl0]
        · simp [Instr.sliceBounds, sliceBound_run hvm (by omega) hul, sliceBound_run hvh (by omega) huu, sliceBound_run hvl h0 hlu]
  simp only [Sem.run_bind, run_underlying hu, Result.andThen_ok, hb, sizeOf_run hte, Sem.run_pure]
end
end Go.Proofs.Ythdjomfkechfoaa.Vx
