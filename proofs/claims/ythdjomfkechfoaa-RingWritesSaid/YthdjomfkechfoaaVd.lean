/-
  Vx, part d: the small heap and the machine's: what each change of the one is in the other.
-/
import Derived.Test.YthdjomfkechfoaaVc
namespace Go.Proofs.Ythdjomfkechfoaa.Vx
open Go Go.RowKit
set_option linter.unusedSimpArgs false
set_option linter.unusedVariables false

/-- Where the small heap's blocks and tokens lie. -/
structure Gh where
  ρ : Key → Nat
  τ : Nat → Nat × Nat × Nat

/-- Cells that nothing will write. -/
def Fr (base : Nat) (F0 : Nat → Nat → Prop) (g : Gh) (h : H) (B o : Nat) : Prop :=
  (B < base → F0 B o) ∧ (∀ k, (h.blk k).isSome = true → g.ρ k ≠ B) ∧
  (∀ t, h.tok t = true → (g.τ t).1 = B → (g.τ t).2.1 ≤ o → o < (g.τ t).2.2 → False)

mutual
def AV.rep (w : World) (F : Nat → Nat → Prop) (g : Gh) (h : H) : AV → Value → Prop
  | .undef, _ => True
  | .dat t x, v => t.rep w F x v
  | .con c, v => v = c
  | .fsl l xs, v => ∃ a, v = .slice a (List.length xs) (List.length xs) ∧
      (0 < List.length xs → ∃ B off, a = some ⟨B, off, none⟩ ∧ ∀ (i : Nat) (x : l.den), xs[i]? = some x → l.lies w F x B (off + i * l.size))
  | .osl l xs t, v => ∃ a cap, v = .slice a (List.length xs) cap ∧ List.length xs ≤ cap ∧ t < h.nt ∧
      (0 < cap → ∃ B off, a = some ⟨B, off, none⟩ ∧ (∀ (i : Nat) (x : l.den), xs[i]? = some x → l.lies w F x B (off + i * l.size)) ∧
        (h.tok t = true → List.length xs < cap → g.τ t = (B, off + List.length xs * l.size, off + cap * l.size)))
  | .ptr k off, v => v = .pointer (some ⟨g.ρ k, off, none⟩) ∧ (h.blk k).isSome = true
  | .ept l x off, v => ∃ B o, v = .pointer (some ⟨B, o + off, none⟩) ∧ l.lies w F x B o
  | .tup vs, v => ∃ us : List Value, v = .tuple us.toArray ∧ AVs.rep w F g h vs us
  | .fn f caps, v => ∃ us : List Value, v = .func (.func f) #[] us.toArray ∧ AVs.rep w F g h caps us
def AVs.rep (w : World) (F : Nat → Nat → Prop) (g : Gh) (h : H) : List AV → List Value → Prop
  | [], us => us = []
  | a :: vs, us => ∃ u us', us = u :: us' ∧ AV.rep w F g h a u ∧ AVs.rep w F g h vs us'
end

structure HRel (base : Nat) (F0 : Nat → Nat → Prop) (W0 : World) (g : Gh) (h : H) (w : World) : Prop where
  below : Below base W0 w
  hb : base ≤ w.heap.size
  blk : ∀ k b, h.blk k = some b → base ≤ g.ρ k ∧ ∃ (vs : List Value) (ty : TypeId), w.heap[g.ρ k]? = some (.cells vs.toArray ty (0, 0)) ∧ b.lay.vals w (Fr base F0 g h) b.x vs
  inj : ∀ k k', (h.blk k).isSome = true → (h.blk k').isSome = true → g.ρ k = g.ρ k' → k = k'
  tok : ∀ t, h.tok t = true → (g.τ t).2.1 < (g.τ t).2.2 → base ≤ (g.τ t).1 ∧ (∀ k, (h.blk k).isSome = true → g.ρ k ≠ (g.τ t).1) ∧
    ∃ (c : Array Value) (ty : TypeId), w.heap[(g.τ t).1]? = some (.cells c ty (0, 0)) ∧ (g.τ t).2.2 ≤ c.size
  tokd : ∀ t t', h.tok t = true → h.tok t' = true → (g.τ t).2.1 < (g.τ t).2.2 → (g.τ t').2.1 < (g.τ t').2.2 → (g.τ t).1 = (g.τ t').1 → t = t'
  toklt : ∀ t, h.tok t = true → t < h.nt

/-- What was known stays known. -/
structure Ext (base : Nat) (F0 : Nat → Nat → Prop) (g : Gh) (h : H) (w : World) (g' : Gh) (h' : H) (w' : World) : Prop where
  keeps : Keeps w (Fr base F0 g h) w' (Fr base F0 g' h')
  rho : ∀ k, (h.blk k).isSome = true → (h'.blk k).isSome = true ∧ g'.ρ k = g.ρ k
  nt : h.nt ≤ h'.nt
  tok : ∀ t, t < h.nt → h'.tok t = true → h.tok t = true ∧ g'.τ t = g.τ t

section
variable {base : Nat} {F0 : Nat → Nat → Prop} {W0 : World} {g g' g'' : Gh} {h h' h'' : H} {w w' w'' : World}

theorem Ext.refl : Ext base F0 g h w g h w := ⟨Keeps.refl _ _, fun _ hk => ⟨hk, rfl⟩, Nat.le_refl _, fun _ _ ht => ⟨ht, rfl⟩⟩

theorem Ext.trans (e : Ext base F0 g h w g' h' w') (e' : Ext base F0 g' h' w' g'' h'' w'') : Ext base F0 g h w g'' h'' w'' :=
  ⟨e.keeps.trans e'.keeps, fun k hk => let ⟨h1, h2⟩ := e.rho k hk; let ⟨h3, h4⟩ := e'.rho k h1; ⟨h3, h4.trans h2⟩,
    Nat.le_trans e.nt e'.nt, fun t ht htt => let ⟨h1, h2⟩ := e'.tok t (Nat.lt_of_lt_of_le ht e.nt) htt; let ⟨h3, h4⟩ := e.tok t ht h1; ⟨h3, h2.trans h4⟩⟩

mutual
theorem AV.rep_ext (e : Ext base F0 g h w g' h' w') : (a : AV) → (v : Value) → a.rep w (Fr base F0 g h) g h v → a.rep w' (Fr base F0 g' h') g' h' v
  | .undef, _, _ => trivial
  | .dat t x, v, hr => TY.rep_keeps e.keeps t x v hr
  | .con c, v, hr => hr
  | .fsl l xs, v, hr => by
    obtain ⟨a, hv, hr⟩ := hr
    refine ⟨a, hv, fun hp => ?_⟩
    obtain ⟨B, off, ha, hr⟩ := hr hp
    exact ⟨B, off, ha, fun i x hx => Lay.lies_keeps e.keeps l x B _ (hr i x hx)⟩
  | .osl l xs t, v, hr => by
    obtain ⟨a, cap, hv, hle, hlt, hr⟩ := hr
    refine ⟨a, cap, hv, hle, Nat.lt_of_lt_of_le hlt e.nt, fun hp => ?_⟩
    obtain ⟨B, off, ha, hr, ht⟩ := hr hp
    refine ⟨B, off, ha, fun i x hx => Lay.lies_keeps e.keeps l x B _ (hr i x hx), fun htok hc => ?_⟩
    obtain ⟨h1, h2⟩ := e.tok t hlt htok
    rw [h2]; exact ht h1 hc
  | .ptr k off, v, hr => by
    obtain ⟨hv, hk⟩ := hr
    obtain ⟨h1, h2⟩ := e.rho k hk
    exact ⟨by rw [h2]; exact hv, h1⟩
  | .ept l x off, v, hr => by
    obtain ⟨B, o, hv, hr⟩ := hr
    exact ⟨B, o, hv, Lay.lies_keeps e.keeps l x B o hr⟩
  | .tup vs, v, hr => by
    obtain ⟨us, hv, hr⟩ := hr
    exact ⟨us, hv, AVs.rep_ext e vs us hr⟩
  | .fn f caps, v, hr => by
    obtain ⟨us, hv, hr⟩ := hr
    exact ⟨us, hv, AVs.rep_ext e caps us hr⟩
theorem AVs.rep_ext (e : Ext base F0 g h w g' h' w') : (vs : List AV) → (us : List Value) → AVs.rep w (Fr base F0 g h) g h vs us → AVs.rep w' (Fr base F0 g' h') g' h' vs us
  | [], us, hr => hr
  | a :: vs, us, hr => by
    obtain ⟨u, us', hu, hr, h2⟩ := hr
    exact ⟨u, us', hu, AV.rep_ext e a u hr, AVs.rep_ext e vs us' h2⟩
end

mutual
theorem AV.rep_weak {F F' : Nat → Nat → Prop} (hF : ∀ B o, F B o → F' B o) : (a : AV) → (v : Value) → a.rep w F g h v → a.rep w F' g h v
  | .undef, _, _ => trivial
  | .dat t x, v, hr => TY.rep_keeps (fun B o v hf hc => ⟨hc, hF B o hf⟩) t x v hr
  | .con c, v, hr => hr
  | .fsl l xs, v, hr => by
    obtain ⟨a, hv, hr⟩ := hr
    refine ⟨a, hv, fun hp => ?_⟩
    obtain ⟨B, off, ha, hr⟩ := hr hp
    exact ⟨B, off, ha, fun i x hx => Lay.lies_keeps (fun B o v hf hc => ⟨hc, hF B o hf⟩) l x B _ (hr i x hx)⟩
  | .osl l xs t, v, hr => by
    obtain ⟨a, cap, hv, hle, hlt, hr⟩ := hr
    refine ⟨a, cap, hv, hle, hlt, fun hp => ?_⟩
    obtain ⟨B, off, ha, hr, ht⟩ := hr hp
    exact ⟨B, off, ha, fun i x hx => Lay.lies_keeps (fun B o v hf hc => ⟨hc, hF B o hf⟩) l x B _ (hr i x hx), ht⟩
  | .ptr k off, v, hr => hr
  | .ept l x off, v, hr => by
    obtain ⟨B, o, hv, hr⟩ := hr
    exact ⟨B, o, hv, Lay.lies_keeps (fun B o v hf hc => ⟨hc, hF B o hf⟩) l x B o hr⟩
  | .tup vs, v, hr => by
    obtain ⟨us, hv, hr⟩ := hr
    exact ⟨us, hv, AVs.rep_weak hF vs us hr⟩
  | .fn f caps, v, hr => by
    obtain ⟨us, hv, hr⟩ := hr
    exact ⟨us, hv, AVs.rep_weak hF caps us hr⟩
theorem AVs.rep_weak {F F' : Nat → Nat → Prop} (hF : ∀ B o, F B o → F' B o) : (vs : List AV) → (us : List Value) → AVs.rep w F g h vs us → AVs.rep w F' g h vs us
  | [], us, hr => hr
  | a :: vs, us, hr => by
    obtain ⟨u, us', hu, hr, h2⟩ := hr
    exact ⟨u, us', hu, AV.rep_weak hF a u hr, AVs.rep_weak hF vs us' h2⟩
end

/-- The heap grows: what was there is as it was. -/
theorem HRel.grow (hr : HRel base F0 W0 g h w) (hw : Below w.heap.size w w') : HRel base F0 W0 g h w' ∧ Ext base F0 g h w g h w' := by
  have hk : Keeps w (Fr base F0 g h) w' (Fr base F0 g h) := fun B o v hf hc => ⟨by
    rw [World.cell?_of_block (w := w) (hw.block B (World.block_lt_of_cell? w ⟨B, o, none⟩ hc))]; exact hc, hf⟩
  have hlt : ∀ {B : Nat} {o : Obj}, w.heap[B]? = some o → w'.heap[B]? = some o := fun {B o} hB => by
    rw [hw.block B]; exact hB
    exact (Array.getElem?_eq_some_iff.1 hB).1
  refine ⟨⟨hr.below.trans (hw.mono hr.hb), Nat.le_trans hr.hb hw.size, fun k b hb => ?_, hr.inj, fun t ht hlo => ?_, hr.tokd, hr.toklt⟩, ⟨hk, fun _ hk => ⟨hk, rfl⟩, Nat.le_refl _, fun _ _ ht => ⟨ht, rfl⟩⟩⟩
  · obtain ⟨h1, vs, ty, h2, h3⟩ := hr.blk k b hb
    exact ⟨h1, vs, ty, hlt h2, Lay.vals_keeps hk _ _ _ h3⟩
  · obtain ⟨h1, h2, c, ty, h3, h4⟩ := hr.tok t ht hlo
    exact ⟨h1, h2, c, ty, hlt h3, h4⟩

theorem Key.eq_iff : ∀ (p q : Key), Key.eq p q = true ↔ p = q
  | [], [] => by simp [Key.eq]
  | [], _ :: _ => by simp [Key.eq]
  | _ :: _, [] => by simp [Key.eq]
  | a :: p, b :: q => by
    have ih := Key.eq_iff p q
    cases hab : Nat.beq a b
    · have : a ≠ b := by intro e; subst e; simp [Nat.beq_refl] at hab
      simp [Key.eq, hab, this]
    · have : a = b := Nat.eq_of_beq_eq_true hab
      simp [Key.eq, hab, this, ih]

theorem H.setBlk_same (h : H) (k : Key) (b : Blk) : (h.setBlk k b).blk k = some b := by
  simp [H.setBlk, (Key.eq_iff k k).2 rfl]

theorem H.setBlk_other (h : H) {k q : Key} (b : Blk) (hq : q ≠ k) : (h.setBlk k b).blk q = h.blk q := by
  have : Key.eq q k = false := by
    cases hx : Key.eq q k
    · rfl
    · exact absurd ((Key.eq_iff q k).1 hx) hq
  simp [H.setBlk, this]

theorem HRel.rho_lt (hr : HRel base F0 W0 g h w) {k : Key} (hk : (h.blk k).isSome = true) : g.ρ k < w.heap.size := by
  obtain ⟨b, hb⟩ := Option.isSome_iff_exists.1 hk
  obtain ⟨_, vs, ty, h2, _⟩ := hr.blk k b hb
  exact (Array.getElem?_eq_some_iff.1 h2).1

theorem HRel.tok_lt (hr : HRel base F0 W0 g h w) {t : Nat} (ht : h.tok t = true) (hlo : (g.τ t).2.1 < (g.τ t).2.2) : (g.τ t).1 < w.heap.size := by
  obtain ⟨_, _, c, ty, h3, _⟩ := hr.tok t ht hlo
  exact (Array.getElem?_eq_some_iff.1 h3).1

/-- New cells are free. -/
theorem HRel.fresh_free (hr : HRel base F0 W0 g h w) {B : Nat} (hB : w.heap.size ≤ B) (o : Nat) : Fr base F0 g h B o :=
  ⟨fun hlt => absurd hlt (by have := hr.hb; omega), fun k hk he => by have := hr.rho_lt hk; omega,
    fun t ht he hlo hhi => by have := hr.tok_lt ht (by omega); omega⟩

theorem heap_alloc_old {w : World} {o : Obj} {B : Nat} (hB : B < w.heap.size) : (w.alloc o).heap[B]? = w.heap[B]? := Below.heap_alloc w o B hB
theorem heap_alloc_here {w : World} {o : Obj} : (w.alloc o).heap[w.heap.size]? = some o := (MapKept.heap_alloc w o).1

/-- A new block that will be written. -/
theorem HRel.newBlk (hr : HRel base F0 W0 g h w) {key : Key} (hkey : h.blk key = none) {l : Lay} {x : l.den} {vs : List Value} {ty : TypeId} (hv : l.vals w (Fr base F0 g h) x vs) :
    let g' : Gh := { g with ρ := fun q => bif Key.eq q key then w.heap.size else g.ρ q }
    HRel base F0 W0 g' (h.setBlk key ⟨l, x⟩) (w.alloc (.cells vs.toArray ty)) ∧ Ext base F0 g h w g' (h.setBlk key ⟨l, x⟩) (w.alloc (.cells vs.toArray ty)) ∧ g'.ρ key = w.heap.size := by
  intro g'
  have hself : g'.ρ key = w.heap.size := by simp [g', (Key.eq_iff key key).2 rfl]
  have hoth : ∀ q, q ≠ key → g'.ρ q = g.ρ q := fun q hq => by
    have : Key.eq q key = false := by
      cases hx : Key.eq q key
      · rfl
      · exact absurd ((Key.eq_iff q key).1 hx) hq
    simp [g', this]
  have hne : ∀ q, (h.blk q).isSome = true → q ≠ key := fun q hq e => by subst e; simp [hkey] at hq
  have hsome : ∀ q, ((h.setBlk key ⟨l, x⟩).blk q).isSome = true → q = key ∨ (h.blk q).isSome = true := fun q hq => by
    by_cases e : q = key
    · exact .inl e
    · rw [H.setBlk_other _ _ e] at hq; exact .inr hq
  have hF : ∀ B o, Fr base F0 g h B o → B < w.heap.size → Fr base F0 g' (h.setBlk key ⟨l, x⟩) B o := fun B o hf hB => by
    refine ⟨hf.1, fun k hk he => ?_, hf.2.2⟩
    rcases hsome k hk with e | hk
    · subst e; rw [hself] at he; omega
    · rw [hoth k (hne k hk)] at he; exact hf.2.1 k hk he
  have hkeep : Keeps w (Fr base F0 g h) (w.alloc (.cells vs.toArray ty)) (Fr base F0 g' (h.setBlk key ⟨l, x⟩)) := fun B o v hf hc => by
    have hlt := World.block_lt_of_cell? w ⟨B, o, none⟩ hc
    exact ⟨by rw [World.cell?_of_block (w := w) (heap_alloc_old hlt)]; exact hc, hF B o hf hlt⟩
  refine ⟨⟨hr.below.alloc hr.hb _, by simp; have := hr.hb; omega, fun k b hb => ?_, fun k k' hk hk' he => ?_, fun t ht hlo => ?_, hr.tokd, hr.toklt⟩,
    ⟨hkeep, fun k hk => ⟨by rw [H.setBlk_other _ _ (hne k hk)]; exact hk, hoth k (hne k hk)⟩, Nat.le_refl _, fun _ _ ht => ⟨ht, rfl⟩⟩, hself⟩
  · by_cases e : k = key
    · subst e
      rw [H.setBlk_same] at hb
      cases hb
      rw [hself]
      exact ⟨hr.hb, vs, ty, heap_alloc_here, Lay.vals_keeps hkeep l x vs hv⟩
    · rw [H.setBlk_other _ _ e] at hb
      obtain ⟨h1, us, t, h2, h3⟩ := hr.blk k b hb
      rw [hoth k e]
      refine ⟨h1, us, t, ?_, Lay.vals_keeps hkeep _ _ _ h3⟩
      rw [heap_alloc_old (Array.getElem?_eq_some_iff.1 h2).1]; exact h2
  · rcases hsome k hk with e | h1 <;> rcases hsome k' hk' with e' | h2
    · exact e.trans e'.symm
    · rw [e, hself, hoth k' (hne k' h2)] at he; have := hr.rho_lt h2; omega
    · rw [e', hself, hoth k (hne k h1)] at he; have := hr.rho_lt h1; omega
    · rw [hoth k (hne k h1), hoth k' (hne k' h2)] at he; exact hr.inj k k' h1 h2 he
  · obtain ⟨h1, h2, c, t', h3, h4⟩ := hr.tok t ht hlo
    refine ⟨h1, fun k hk he => ?_, c, t', ?_, h4⟩
    · rcases hsome k hk with e | hk1
      · rw [e, hself] at he; have := (Array.getElem?_eq_some_iff.1 h3).1; have he' : w.heap.size = (g.τ t).1 := he; omega
      · rw [hoth k (hne k hk1)] at he; exact h2 k hk1 he
    · show (w.alloc _).heap[(g.τ t).1]? = _
      rw [heap_alloc_old (Array.getElem?_eq_some_iff.1 h3).1]; exact h3

/-- A world in which one block has been written anew. -/
def setRow (w : World) (B : Nat) (c : Array Value) (ty : TypeId) : World := { w with heap := w.heap.setIfInBounds B (.cells c ty (0, 0)) }

theorem setRow_same {w : World} {B : Nat} {c : Array Value} {ty : TypeId} (hB : B < w.heap.size) : (setRow w B c ty).heap[B]? = some (.cells c ty (0, 0)) := by
  simp [setRow, hB]

theorem setRow_other {w : World} {B q : Nat} {c : Array Value} {ty : TypeId} (hq : q ≠ B) : (setRow w B c ty).heap[q]? = w.heap[q]? := by
  simp [setRow, Array.getElem?_setIfInBounds, Ne.symm hq]

theorem setRow_below {w : World} {B base : Nat} {c : Array Value} {ty : TypeId} (hB : base ≤ B) : Below base w (setRow w B c ty) :=
  ⟨rfl, rfl, rfl, by simp [setRow], fun k hk => setRow_other (by omega)⟩

theorem cell_setRow_other {w : World} {B q o : Nat} {c : Array Value} {ty : TypeId} (hq : q ≠ B) : (setRow w B c ty).cell? ⟨q, o, none⟩ = w.cell? ⟨q, o, none⟩ :=
  World.cell?_of_block (w := w) (setRow_other hq)

theorem cell_row {w : World} {B o : Nat} {c : Array Value} {ty : TypeId} {fz : Nat × Nat} (hB : w.heap[B]? = some (.cells c ty fz)) : w.cell? ⟨B, o, none⟩ = c[o]? := by
  simp [World.cell?, hB]

theorem setRow_setRow {w : World} {B : Nat} {c c' : Array Value} {ty ty' : TypeId} : setRow (setRow w B c ty) B c' ty' = setRow w B c' ty' := by
  simp [setRow]

theorem setCell_eq_setRow {w : World} {B o : Nat} {c : Array Value} {ty : TypeId} {v : Value} (hB : w.heap[B]? = some (.cells c ty (0, 0))) :
    w.setCell ⟨B, o, none⟩ v = setRow w B (c.setIfInBounds o v) ty := by
  unfold World.setCell setRow
  congr 1
  apply Array.ext_getElem?
  intro i
  have hlt := (Array.getElem?_eq_some_iff.1 hB).1
  by_cases e : i = B
  · subst e
    have hx : w.heap[i] = .cells c ty (0, 0) := (Array.getElem?_eq_some_iff.1 hB).2
    rw [Array.getElem?_modify, Array.getElem?_eq_getElem hlt, hx]
    simp [hlt]
  · simp [Array.getElem?_modify, Array.getElem?_setIfInBounds, Ne.symm e]

/-- A block of the small heap is written. -/
theorem HRel.write (hr : HRel base F0 W0 g h w) {q : Key} {b : Blk} (hb : h.blk q = some b) {z : b.lay.den} {vs : List Value} {ty : TypeId}
    (hv : b.lay.vals w (Fr base F0 g h) z vs) :
    HRel base F0 W0 g (h.setBlk q ⟨b.lay, z⟩) (setRow w (g.ρ q) vs.toArray ty) ∧ Ext base F0 g h w g (h.setBlk q ⟨b.lay, z⟩) (setRow w (g.ρ q) vs.toArray ty) := by
  have hq : (h.blk q).isSome = true := by rw [hb]; rfl
  obtain ⟨hbase, _, _, hheap, _⟩ := hr.blk q b hb
  have hlt := (Array.getElem?_eq_some_iff.1 hheap).1
  have hsome : ∀ k, ((h.setBlk q ⟨b.lay, z⟩).blk k).isSome = (h.blk k).isSome := fun k => by
    by_cases e : k = q
    · subst e; rw [H.setBlk_same, hq]; rfl
    · rw [H.setBlk_other _ _ e]
  have hF : ∀ B o, Fr base F0 g (h.setBlk q ⟨b.lay, z⟩) B o ↔ Fr base F0 g h B o := fun B o => by
    unfold Fr; simp only [hsome]; rfl
  have hkeep : Keeps w (Fr base F0 g h) (setRow w (g.ρ q) vs.toArray ty) (Fr base F0 g (h.setBlk q ⟨b.lay, z⟩)) := fun B o v hf hc =>
    ⟨by rw [cell_setRow_other (fun e => hf.2.1 q hq e.symm)]; exact hc, (hF B o).2 hf⟩
  refine ⟨⟨hr.below.trans (setRow_below hbase), by simp [setRow]; exact hr.hb, fun k b' hb' => ?_, fun k k' hk hk' he => ?_, fun t ht hlo => ?_, hr.tokd, hr.toklt⟩,
    ⟨hkeep, fun k hk => ⟨by rw [hsome]; exact hk, rfl⟩, Nat.le_refl _, fun _ _ ht => ⟨ht, rfl⟩⟩⟩
  · by_cases e : k = q
    · subst e
      rw [H.setBlk_same] at hb'
      cases hb'
      exact ⟨hbase, vs, ty, setRow_same hlt, Lay.vals_keeps hkeep _ _ _ hv⟩
    · rw [H.setBlk_other _ _ e] at hb'
      obtain ⟨h1, us, t, h2, h3⟩ := hr.blk k b' hb'
      refine ⟨h1, us, t, ?_, Lay.vals_keeps hkeep _ _ _ h3⟩
      rw [setRow_other (fun e' => e (hr.inj k q (by rw [hb']; rfl) hq e'))]; exact h2
  · rw [hsome] at hk hk'; exact hr.inj k k' hk hk' he
  · obtain ⟨h1, h2, c, t', h3, h4⟩ := hr.tok t ht hlo
    refine ⟨h1, fun k hk => h2 k (by rw [hsome] at hk; exact hk), c, t', ?_, h4⟩
    rw [setRow_other (fun e => h2 q hq e.symm)]; exact h3

end
end Go.Proofs.Ythdjomfkechfoaa.Vx
