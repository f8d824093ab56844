/-
  Vx, part s: cuts, and a function's contract out of the executor.
-/
import Derived.Test.YthdjomfkechfoaaVr
namespace Go.Proofs.Ythdjomfkechfoaa.Vx
open Go Go.RowKit
set_option linter.unusedSimpArgs false
set_option linter.unusedVariables false

/-- Where the executor stops in a loop, and what is kept there. -/
structure CutD where
  skel : List (Nat × List Nat)
  dats : List (Nat × TY)
  fsls : List (Nat × Lay)
  osls : List (Nat × Lay)
  ptrs : List (Nat × Key × Nat)
  blks : List (Key × Lay)

@[reducible] def DDat : List (Nat × TY) → Type
  | [] => Unit
  | p :: r => p.2.den × DDat r

@[reducible] def DLst : List (Nat × Lay) → Type
  | [] => Unit
  | p :: r => List p.2.den × DLst r

@[reducible] def DBlk : List (Key × Lay) → Type
  | [] => Unit
  | p :: r => p.2.den × DBlk r

structure SD (cd : CutD) where
  d : DDat cd.dats
  f : DLst cd.fsls
  o : DLst cd.osls
  b : DBlk cd.blks

/-! ### taking it out -/
def exDat (tm : Nat → AV) : (ds : List (Nat × TY)) → Option (DDat ds)
  | [] => some ()
  | p :: r => ((tm p.1).to p.2).bind fun x => (exDat tm r).map fun y => (x, y)

def AV.fslOf (v : AV) (l : Lay) : Option (List l.den) :=
  match v with
  | .fsl l' xs => (AV.fsl l' xs).list l
  | _ => none

def exFsl (tm : Nat → AV) : (ds : List (Nat × Lay)) → Option (DLst ds)
  | [] => some ()
  | p :: r => ((tm p.1).fslOf p.2).bind fun x => (exFsl tm r).map fun y => (x, y)

def AV.oslOf (h : H) (v : AV) (used : List Nat) (l : Lay) : Option (List l.den × List Nat) :=
  match v with
  | .fsl l' xs => ((AV.fsl l' xs).list l).map fun x => (x, used)
  | .osl l' xs t => bif h.tok t && !(hasTmp used t) then ((AV.osl l' xs t).list l).map fun x => (x, t :: used) else none
  | _ => none

def exOsl (h : H) (tm : Nat → AV) : (ds : List (Nat × Lay)) → List Nat → Option (DLst ds)
  | [], _ => some ()
  | p :: r, used => ((tm p.1).oslOf h used p.2).bind fun x => (exOsl h tm r x.2).map fun y => (x.1, y)

def exPtr (tm : Nat → AV) : List (Nat × Key × Nat) → Bool
  | [] => true
  | p :: r => (match tm p.1 with
    | .ptr k off => Key.eq k p.2.1 && Nat.beq off p.2.2
    | _ => false) && exPtr tm r

def exBlk (h : H) : (ds : List (Key × Lay)) → Option (DBlk ds)
  | [] => some ()
  | p :: r => match h.blk p.1 with
    | some b => (Lay.castTo (l := b.lay) b.x p.2).bind fun x => (exBlk h r).map fun y => (x, y)
    | none => none

/-! ### putting it back -/
def tmDat : (ds : List (Nat × TY)) → DDat ds → (Nat → AV) → Nat → AV
  | [], _, tm, i => tm i
  | p :: r, x, tm, i => bif Nat.beq i p.1 then .dat p.2 x.1 else tmDat r x.2 tm i

def tmFsl : (ds : List (Nat × Lay)) → DLst ds → (Nat → AV) → Nat → AV
  | [], _, tm, i => tm i
  | p :: r, x, tm, i => bif Nat.beq i p.1 then .fsl p.2 x.1 else tmFsl r x.2 tm i

def tmOsl : (ds : List (Nat × Lay)) → DLst ds → Nat → (Nat → AV) → Nat → AV
  | [], _, _, tm, i => tm i
  | p :: r, x, t, tm, i => bif Nat.beq i p.1 then .osl p.2 x.1 t else tmOsl r x.2 (t + 1) tm i

def tmPtr : (ds : List (Nat × Key × Nat)) → (Nat → AV) → Nat → AV
  | [], tm, i => tm i
  | p :: r, tm, i => bif Nat.beq i p.1 then .ptr p.2.1 p.2.2 else tmPtr r tm i

def blkOf : (ds : List (Key × Lay)) → DBlk ds → Key → Option Blk
  | [], _, _ => none
  | p :: r, x, q => bif Key.eq q p.1 then some ⟨p.2, x.1⟩ else blkOf r x.2 q

def cTm (cd : CutD) (s : SD cd) : Nat → AV := tmDat cd.dats s.d (tmFsl cd.fsls s.f (tmOsl cd.osls s.o 0 (tmPtr cd.ptrs fun _ => .undef)))

def cH (cd : CutD) (s : SD cd) : H := { blk := blkOf cd.blks s.b, tok := fun t => Nat.blt t cd.osls.length, nt := cd.osls.length }

def hasKey : List (Key × Lay) → Key → Bool
  | [], _ => false
  | p :: r, q => bif Key.eq q p.1 then true else hasKey r q

def ptrsIn (cd : CutD) : Bool := cd.ptrs.all fun p => hasKey cd.blks p.2.1

def extract (cd : CutD) (n : Nat) (c : AF) (h : H) : Option (SD cd) :=
  bif Nat.ble n c.n && (exPtr c.tm cd.ptrs && ptrsIn cd) then
    (exDat c.tm cd.dats).bind fun d => (exFsl c.tm cd.fsls).bind fun f => (exOsl h c.tm cd.osls []).bind fun o => (exBlk h cd.blks).map fun b => ⟨d, f, o, b⟩
  else none

section
variable {P : Program} {base : Nat} {F0 : Nat → Nat → Prop} {W0 : World} {g g' : Gh} {h h' : H} {w : World} {F : Nat → Nat → Prop}

theorem exDat_rep {tm : Nat → AV} {vs : Nat → Value} (htm : ∀ i, (tm i).rep w F g h (vs i)) : ∀ (ds : List (Nat × TY)) (x : DDat ds), exDat tm ds = some x → ∀ (tm' : Nat → AV), (∀ i, (tm' i).rep w F g h (vs i)) →
    ∀ i, (tmDat ds x tm' i).rep w F g h (vs i)
  | [], x, hx, tm', ht, i => ht i
  | p :: r, x, hx, tm', ht, i => by
    simp only [exDat] at hx
    obtain ⟨y, hy, hx⟩ := Option.bind_eq_some_iff.1 hx
    obtain ⟨z, hz, hx⟩ := Option.map_eq_some_iff.1 hx
    subst hx
    simp only [tmDat]
    cases hb : Nat.beq i p.1
    · exact exDat_rep htm r z hz tm' ht i
    · have e := Nat.eq_of_beq_eq_true hb
      have := AV.to_rep hy (htm p.1)
      rw [e]
      exact this

theorem exFsl_rep {tm : Nat → AV} {vs : Nat → Value} (htm : ∀ i, (tm i).rep w F g h (vs i)) : ∀ (ds : List (Nat × Lay)) (x : DLst ds), exFsl tm ds = some x → ∀ (tm' : Nat → AV), (∀ i, (tm' i).rep w F g h (vs i)) →
    ∀ i, (tmFsl ds x tm' i).rep w F g h (vs i)
  | [], x, hx, tm', ht, i => ht i
  | p :: r, x, hx, tm', ht, i => by
    simp only [exFsl] at hx
    obtain ⟨y, hy, hx⟩ := Option.bind_eq_some_iff.1 hx
    obtain ⟨z, hz, hx⟩ := Option.map_eq_some_iff.1 hx
    subst hx
    simp only [tmFsl]
    cases hb : Nat.beq i p.1
    · exact exFsl_rep htm r z hz tm' ht i
    · have e := Nat.eq_of_beq_eq_true hb
      have hr := htm p.1
      rw [e]
      unfold AV.fslOf at hy
      split at hy
      · rename_i l' xs he
        rw [he] at hr
        obtain ⟨e1, e2⟩ := list_fsl hy
        obtain ⟨pi, pl⟩ := p
        simp only at e1 e2 hr ⊢
        subst e1
        simp only at e2
        subst e2
        exact hr
      · cases hy

/-- The tokens that are taken out, one behind the other. -/
def toksOf (h : H) (tm : Nat → AV) (g : Gh) : (ds : List (Nat × Lay)) → List (Nat × Nat × Nat)
  | [] => []
  | p :: r => (match tm p.1 with
    | .osl _ _ t => g.τ t
    | _ => (0, 0, 0)) :: toksOf h tm g r

theorem toksOf_length {tm : Nat → AV} : ∀ (ds : List (Nat × Lay)), (toksOf h tm g ds).length = ds.length
  | [] => rfl
  | p :: r => by simp [toksOf, toksOf_length r]

/-- Each of them is owned, and none is met twice. -/
theorem exOsl_toks {tm : Nat → AV} : ∀ (ds : List (Nat × Lay)) (used : List Nat) (x : DLst ds), exOsl h tm ds used = some x →
    ∀ (j : Nat) (y : Nat × Nat × Nat), (toksOf h tm g ds)[j]? = some y → y.2.1 < y.2.2 → ∃ t, h.tok t = true ∧ g.τ t = y ∧ t ∉ used ∧ ∃ p v, ds[j]? = some p ∧ tm p.1 = v ∧ (∃ l xs, v = .osl l xs t)
  | [], used, x, hx, j, y, hy, hlt => by simp [toksOf] at hy
  | p :: r, used, x, hx, j, y, hy, hlt => by
    simp only [exOsl] at hx
    obtain ⟨z, hz, hx⟩ := Option.bind_eq_some_iff.1 hx
    obtain ⟨u, hu, hx⟩ := Option.map_eq_some_iff.1 hx
    cases j with
    | zero =>
      simp only [toksOf, List.getElem?_cons_zero, Option.some.injEq] at hy
      unfold AV.oslOf at hz
      split at hz
      · rename_i l' xs he
        rw [he] at hy
        simp only at hy
        subst hy
        simp at hlt
      · rename_i l' xs t he
        rw [he] at hy
        simp only at hy
        obtain ⟨hc, hz⟩ := cond_some hz
        simp only [Bool.and_eq_true, Bool.not_eq_true'] at hc
        refine ⟨t, hc.1, hy, fun hm => ?_, p, _, rfl, he, l', xs, rfl⟩
        rw [(hasTmp_iff used t).2 hm] at hc
        exact absurd hc.2 (by decide)
      · cases hz
    | succ j =>
      simp only [toksOf, List.getElem?_cons_succ] at hy
      obtain ⟨t, h1, h2, h3, q, v, h4, h5⟩ := exOsl_toks r z.2 u hu j y hy hlt
      refine ⟨t, h1, h2, fun hm => h3 ?_, q, v, by simpa using h4, h5⟩
      unfold AV.oslOf at hz
      split at hz
      · obtain ⟨_, _, hz⟩ := Option.map_eq_some_iff.1 hz
        rw [← hz]; exact hm
      · obtain ⟨hc, hz⟩ := cond_some hz
        obtain ⟨_, _, hz⟩ := Option.map_eq_some_iff.1 hz
        rw [← hz]; exact List.mem_cons_of_mem _ hm
      · cases hz

/-- Two of them are two. -/
theorem exOsl_apart {tm : Nat → AV} : ∀ (ds : List (Nat × Lay)) (used : List Nat) (x : DLst ds), exOsl h tm ds used = some x →
    ∀ (i j : Nat) (p q : Nat × Lay) (t : Nat) (l l' : Lay) (xs : List l.den) (ys : List l'.den), ds[i]? = some p → ds[j]? = some q → tm p.1 = .osl l xs t → tm q.1 = .osl l' ys t → i = j
  | [], used, x, hx, i, j, p, q, t, l, l', xs, ys, hi, hj, h1, h2 => by simp at hi
  | d :: r, used, x, hx, i, j, p, q, t, l, l', xs, ys, hi, hj, h1, h2 => by
    simp only [exOsl] at hx
    obtain ⟨z, hz, hx⟩ := Option.bind_eq_some_iff.1 hx
    obtain ⟨u, hu, hx⟩ := Option.map_eq_some_iff.1 hx
    have hfst : ∀ (l0 : Lay) (zs : List l0.den), tm d.1 = .osl l0 zs t → t ∈ z.2 := by
      intro l0 zs he
      unfold AV.oslOf at hz
      rw [he] at hz
      simp only at hz
      obtain ⟨hc, hz⟩ := cond_some hz
      obtain ⟨_, _, hz⟩ := Option.map_eq_some_iff.1 hz
      rw [← hz]; exact List.mem_cons_self ..
    have hno : ∀ (k : Nat) (q' : Nat × Lay) (l0 : Lay) (zs : List l0.den), r[k]? = some q' → tm q'.1 = .osl l0 zs t → t ∈ z.2 → False := by
      intro k q' l0 zs hk he hm
      have : ∀ (ds : List (Nat × Lay)) (used : List Nat) (x : DLst ds), exOsl h tm ds used = some x → ∀ (k : Nat), ds[k]? = some q' → t ∈ used → False := by
        intro ds
        induction ds with
        | nil => intro used x hx k hk; simp at hk
        | cons d' r' ih =>
          intro used x hx k hk hm
          simp only [exOsl] at hx
          obtain ⟨z', hz', hx⟩ := Option.bind_eq_some_iff.1 hx
          obtain ⟨u', hu', hx⟩ := Option.map_eq_some_iff.1 hx
          cases k with
          | zero =>
            simp at hk
            subst hk
            unfold AV.oslOf at hz'
            rw [he] at hz'
            simp only at hz'
            obtain ⟨hc, _⟩ := cond_some hz'
            rw [(hasTmp_iff used t).2 hm] at hc
            simp at hc
          | succ k =>
            refine ih z'.2 u' hu' k (by simpa using hk) ?_
            unfold AV.oslOf at hz'
            split at hz'
            · obtain ⟨_, _, hz'⟩ := Option.map_eq_some_iff.1 hz'
              rw [← hz']; exact hm
            · obtain ⟨_, hz'⟩ := cond_some hz'
              obtain ⟨_, _, hz'⟩ := Option.map_eq_some_iff.1 hz'
              rw [← hz']; exact List.mem_cons_of_mem _ hm
            · cases hz'
      exact this r z.2 u hu k hk hm
    cases i with
    | zero =>
      simp at hi
      subst hi
      cases j with
      | zero => rfl
      | succ j => exact (hno j q l' ys (by simpa using hj) h2 (hfst l xs h1)).elim
    | succ i =>
      cases j with
      | zero =>
        simp at hj
        subst hj
        exact (hno i p l xs (by simpa using hi) h1 (hfst l' ys h2)).elim
      | succ j =>
        have := exOsl_apart r z.2 u hu i j p q t l l' xs ys (by simpa using hi) (by simpa using hj) h1 h2
        omega

theorem exOsl_rep {tm : Nat → AV} {vs : Nat → Value} (htm : ∀ i, (tm i).rep w (Fr base F0 g h) g h (vs i)) (hk : Keeps w (Fr base F0 g h) w F) {N : Nat} (hnt : h'.nt = N) : ∀ (ds : List (Nat × Lay)) (k : Nat) (used : List Nat) (x : DLst ds),
    exOsl h tm ds used = some x → (∀ j y, (toksOf h tm g ds)[j]? = some y → g'.τ (k + j) = y) → k + ds.length ≤ N → ∀ (tm' : Nat → AV), (∀ i, (tm' i).rep w F g' h' (vs i)) → ∀ i, (tmOsl ds x k tm' i).rep w F g' h' (vs i)
  | [], k, used, x, hx, hg, hle, tm', ht, i => ht i
  | p :: r, k, used, x, hx, hg, hle, tm', ht, i => by
    simp only [exOsl] at hx
    obtain ⟨z, hz, hx⟩ := Option.bind_eq_some_iff.1 hx
    obtain ⟨u, hu, hx⟩ := Option.map_eq_some_iff.1 hx
    subst hx
    simp only [tmOsl]
    simp only [List.length_cons] at hle
    cases hb : Nat.beq i p.1
    · exact exOsl_rep htm hk hnt r (k + 1) z.2 u hu (fun j y hy => by
        rw [show k + 1 + j = k + (j + 1) by omega]; exact hg (j + 1) y (by simpa [toksOf] using hy)) (by omega) tm' ht i
    · have e := Nat.eq_of_beq_eq_true hb
      have hr := htm p.1
      have h0 := hg 0 _ rfl
      simp only [Nat.add_zero] at h0
      rw [e]
      obtain ⟨pi, pl⟩ := p
      unfold AV.oslOf at hz
      simp only at hz hr h0 ⊢
      split at hz
      · rename_i l' xs he
        rw [he] at hr h0
        obtain ⟨y, hy, hz⟩ := Option.map_eq_some_iff.1 hz
        subst hz
        obtain ⟨e1, e2⟩ := list_fsl hy
        subst e1
        simp only at e2
        subst e2
        obtain ⟨a, hv, hl⟩ := hr
        refine ⟨a, _, hv, Nat.le_refl _, by rw [hnt]; omega, fun hp => ?_⟩
        obtain ⟨B, off, ha, hl⟩ := hl hp
        exact ⟨B, off, ha, fun i x hx => Lay.lies_keeps hk _ _ _ _ (hl i x hx), fun _ hlt => absurd hlt (Nat.lt_irrefl _)⟩
      · rename_i l' xs t he
        rw [he] at hr h0
        obtain ⟨hc, hz⟩ := cond_some hz
        simp only [Bool.and_eq_true, Bool.not_eq_true'] at hc
        obtain ⟨y, hy, hz⟩ := Option.map_eq_some_iff.1 hz
        subst hz
        obtain ⟨e1, e2⟩ := list_osl hy
        subst e1
        simp only at e2
        subst e2
        obtain ⟨a, cap, hv, hle', hlt, hl⟩ := hr
        refine ⟨a, cap, hv, hle', by rw [hnt]; omega, fun hp => ?_⟩
        obtain ⟨B, off, ha, hl, ht⟩ := hl hp
        refine ⟨B, off, ha, fun i x hx => Lay.lies_keeps hk _ _ _ _ (hl i x hx), fun _ hlt => ?_⟩
        simp only at h0
        rw [h0]
        exact ht hc.1 hlt
      · cases hz

theorem exPtr_rep {tm : Nat → AV} {vs : Nat → Value} {F' : Nat → Nat → Prop} (htm : ∀ i, (tm i).rep w F' g h (vs i)) (hrho : g'.ρ = g.ρ) : ∀ (ds : List (Nat × Key × Nat)), exPtr tm ds = true → (∀ p ∈ ds, (h'.blk p.2.1).isSome = true) →
    ∀ (tm' : Nat → AV), (∀ i, (tm' i).rep w F g' h' (vs i)) → ∀ i, (tmPtr ds tm' i).rep w F g' h' (vs i)
  | [], hx, hb, tm', ht, i => ht i
  | p :: r, hx, hb, tm', ht, i => by
    simp only [exPtr, Bool.and_eq_true] at hx
    simp only [tmPtr]
    cases hbq : Nat.beq i p.1
    · exact exPtr_rep htm hrho r hx.2 (fun q hq => hb q (List.mem_cons_of_mem _ hq)) tm' ht i
    · have e := Nat.eq_of_beq_eq_true hbq
      have hr := htm p.1
      have h1 := hx.1
      rw [e]
      split at h1
      · rename_i k off he
        simp only [Bool.and_eq_true] at h1
        rw [he] at hr
        obtain ⟨hv, _⟩ := hr
        have e1 := (Key.eq_iff _ _).1 h1.1
        have e2 := Nat.eq_of_beq_eq_true h1.2
        exact ⟨by rw [hrho, ← e1, ← e2]; exact hv, hb p (List.mem_cons_self ..)⟩
      · cases h1

theorem blkOf_some : ∀ (ds : List (Key × Lay)) (x : DBlk ds), exBlk h ds = some x → ∀ q b, blkOf ds x q = some b → ∃ b', h.blk q = some b' ∧ ∃ e : b'.lay = b.lay, e ▸ b'.x = b.x
  | [], x, hx, q, b, hb => by simp [blkOf] at hb
  | p :: r, x, hx, q, b, hb => by
    simp only [exBlk] at hx
    split at hx
    · rename_i b0 hb0
      obtain ⟨y, hy, hx⟩ := Option.bind_eq_some_iff.1 hx
      obtain ⟨z, hz, hx⟩ := Option.map_eq_some_iff.1 hx
      subst hx
      simp only [blkOf] at hb
      cases hq : Key.eq q p.1
      · rw [hq] at hb
        exact blkOf_some r z hz q b hb
      · rw [hq] at hb
        simp only [cond_true, Option.some.injEq] at hb
        subst hb
        have e := (Key.eq_iff _ _).1 hq
        refine ⟨b0, by rw [e]; exact hb0, ?_⟩
        unfold Lay.castTo at hy
        split at hy
        · rename_i hl
          have el := Lay.beq_eq _ _ hl
          exact ⟨el, by have := Option.some.inj hy; exact this⟩
        · cases hy
    · cases hx

theorem blkOf_has : ∀ (ds : List (Key × Lay)) (x : DBlk ds) (q : Key), hasKey ds q = true → (blkOf ds x q).isSome = true
  | [], x, q, hq => by simp [hasKey] at hq
  | p :: r, x, q, hq => by
    simp only [hasKey] at hq
    simp only [blkOf]
    cases hk : Key.eq q p.1
    · rw [hk] at hq
      exact blkOf_has r x.2 q hq
    · rfl

theorem blt_iff {a b : Nat} : Nat.blt a b = true ↔ a < b := by simp [Nat.blt_eq]

/-- What is taken out stands for the same. -/
theorem cover {cd : CutD} {n : Nat} {c : AF} {s : SD cd} {vs : Nat → Value} (hx : extract cd n c h = some s) (hH : HRel base F0 W0 g h w) (htm : ∀ i, (c.tm i).rep w (Fr base F0 g h) g h (vs i)) :
    ∃ g', HRel base F0 W0 g' (cH cd s) w ∧ (∀ i, (cTm cd s i).rep w (Fr base F0 g' (cH cd s)) g' (cH cd s) (vs i)) ∧ n ≤ c.n := by
  unfold extract at hx
  obtain ⟨hc, hx⟩ := cond_some hx
  simp only [Bool.and_eq_true] at hc
  obtain ⟨hn, hptr, hin⟩ := hc
  obtain ⟨d, hd, hx⟩ := Option.bind_eq_some_iff.1 hx
  obtain ⟨f, hf, hx⟩ := Option.bind_eq_some_iff.1 hx
  obtain ⟨o, ho, hx⟩ := Option.bind_eq_some_iff.1 hx
  obtain ⟨b, hb, hx⟩ := Option.map_eq_some_iff.1 hx
  subst hx
  let g' : Gh := ⟨g.ρ, fun t => ((toksOf h c.tm g cd.osls)[t]?).getD (0, 0, 0)⟩
  let h' : H := cH cd ⟨d, f, o, b⟩
  have hblk : ∀ q b1, h'.blk q = some b1 → ∃ b', h.blk q = some b' ∧ ∃ e : b'.lay = b1.lay, e ▸ b'.x = b1.x := blkOf_some cd.blks b hb
  have hsome : ∀ q, (h'.blk q).isSome = true → (h.blk q).isSome = true := fun q hq => by
    obtain ⟨b1, hb1⟩ := Option.isSome_iff_exists.1 hq
    obtain ⟨b', h1, _⟩ := hblk q b1 hb1
    rw [h1]; rfl
  have htok : ∀ t, h'.tok t = true → (g'.τ t).2.1 < (g'.τ t).2.2 → ∃ u, h.tok u = true ∧ g.τ u = g'.τ t ∧ ∃ p l xs, cd.osls[t]? = some p ∧ c.tm p.1 = .osl l xs u := by
    intro t ht hlt
    have ht' : t < cd.osls.length := blt_iff.1 ht
    have hget : (toksOf h c.tm g cd.osls)[t]? = some (g'.τ t) := by
      have : t < (toksOf h c.tm g cd.osls).length := by rw [toksOf_length]; exact ht'
      simp only [g', List.getElem?_eq_getElem this, Option.getD_some]
    obtain ⟨u, h1, h2, _, p, v, h4, h5, l, xs, h6⟩ := exOsl_toks cd.osls [] o ho t _ hget hlt
    exact ⟨u, h1, h2, p, l, xs, h4, by rw [h5, h6]⟩
  have hfr : ∀ B o', Fr base F0 g h B o' → Fr base F0 g' h' B o' := by
    intro B o' hf
    refine ⟨hf.1, fun k hk => hf.2.1 k (hsome k hk), fun t ht hB hlo hhi => ?_⟩
    obtain ⟨u, h1, h2, _⟩ := htok t ht (by omega)
    rw [← h2] at hB hlo hhi
    exact hf.2.2 u h1 hB hlo hhi
  have hk : Keeps w (Fr base F0 g h) w (Fr base F0 g' h') := fun B o' v hf hcell => ⟨hcell, hfr B o' hf⟩
  have hrep : ∀ (a : AV) (v : Value), True := fun _ _ => trivial
  refine ⟨g', ⟨hH.below, hH.hb, fun k b1 hb1 => ?_, fun k k' h1 h2 he => hH.inj k k' (hsome k h1) (hsome k' h2) he, fun t ht hlt => ?_, fun t t' ht ht' hlt hlt' he => ?_, fun t ht => blt_iff.1 ht⟩, ?_, Nat.le_of_ble_eq_true hn⟩
  · obtain ⟨b', h1, e, he⟩ := hblk k b1 hb1
    obtain ⟨h2, vs', ty, h3, h4⟩ := hH.blk k b' h1
    refine ⟨h2, vs', ty, h3, ?_⟩
    obtain ⟨lay', x'⟩ := b'
    obtain ⟨lay1, x1⟩ := b1
    simp only at e he h4 ⊢
    subst e
    simp only at he
    subst he
    exact Lay.vals_keeps hk _ _ _ h4
  · obtain ⟨u, h1, h2, _⟩ := htok t ht hlt
    rw [← h2] at hlt ⊢
    obtain ⟨q1, q2, q3⟩ := hH.tok u h1 hlt
    exact ⟨q1, fun k hk => q2 k (hsome k hk), q3⟩
  · obtain ⟨u, h1, h2, p, l, xs, h3, h4⟩ := htok t ht hlt
    obtain ⟨u', h1', h2', p', l', xs', h3', h4'⟩ := htok t' ht' hlt'
    rw [← h2] at hlt he
    rw [← h2'] at hlt' he
    have e := hH.tokd u u' h1 h1' hlt hlt' he
    subst e
    exact exOsl_apart cd.osls [] o ho t t' p p' u l l' xs xs' h3 h3' h4 h4'
  · -- what the temporaries hold: by way of the old ghosts
    have hp := exPtr_rep (F := Fr base F0 g' h') (g' := g') (h' := h') (vs := vs) htm rfl cd.ptrs hptr (fun p hp => by
      have := List.all_eq_true.1 hin p hp
      exact blkOf_has cd.blks b p.2.1 this) (fun _ => .undef) (fun _ => trivial)
    have ho' := exOsl_rep (g' := g') (h' := h') (F := Fr base F0 g' h') (N := cd.osls.length) htm hk rfl cd.osls 0 [] o ho (fun j y hy => by
      simp only [g', Nat.zero_add, hy, Option.getD_some]) (by omega) _ hp
    -- data and whole rows do not hang on the ghosts
    have hD : ∀ (ds : List (Nat × TY)) (x : DDat ds), exDat c.tm ds = some x → ∀ (tm' : Nat → AV), (∀ i, (tm' i).rep w (Fr base F0 g' h') g' h' (vs i)) → ∀ i, (tmDat ds x tm' i).rep w (Fr base F0 g' h') g' h' (vs i) := by
      intro ds
      induction ds with
      | nil => intro x _ tm' ht i; exact ht i
      | cons p r ih =>
        intro x hx tm' ht i
        simp only [exDat] at hx
        obtain ⟨y, hy, hx⟩ := Option.bind_eq_some_iff.1 hx
        obtain ⟨z, hz, hx⟩ := Option.map_eq_some_iff.1 hx
        subst hx
        simp only [tmDat]
        cases hbq : Nat.beq i p.1
        · exact ih z hz tm' ht i
        · have e := Nat.eq_of_beq_eq_true hbq
          rw [e]
          exact TY.rep_keeps hk _ _ _ (AV.to_rep hy (htm p.1))
    have hFs : ∀ (ds : List (Nat × Lay)) (x : DLst ds), exFsl c.tm ds = some x → ∀ (tm' : Nat → AV), (∀ i, (tm' i).rep w (Fr base F0 g' h') g' h' (vs i)) → ∀ i, (tmFsl ds x tm' i).rep w (Fr base F0 g' h') g' h' (vs i) := by
      intro ds
      induction ds with
      | nil => intro x _ tm' ht i; exact ht i
      | cons p r ih =>
        intro x hx tm' ht i
        simp only [exFsl] at hx
        obtain ⟨y, hy, hx⟩ := Option.bind_eq_some_iff.1 hx
        obtain ⟨z, hz, hx⟩ := Option.map_eq_some_iff.1 hx
        subst hx
        simp only [tmFsl]
        cases hbq : Nat.beq i p.1
        · exact ih z hz tm' ht i
        · have e := Nat.eq_of_beq_eq_true hbq
          have hr := htm p.1
          rw [e]
          unfold AV.fslOf at hy
          split at hy
          · rename_i l' xs he
            rw [he] at hr
            obtain ⟨e1, e2⟩ := list_fsl hy
            obtain ⟨pi, pl⟩ := p
            simp only at e1 e2 hr ⊢
            subst e1
            simp only at e2
            subst e2
            obtain ⟨a, hv, hl⟩ := hr
            refine ⟨a, hv, fun hp => ?_⟩
            obtain ⟨B, off, ha, hl⟩ := hl hp
            exact ⟨B, off, ha, fun i x hx => Lay.lies_keeps hk _ _ _ _ (hl i x hx)⟩
          · cases hy
    exact hD cd.dats d hd _ (hFs cd.fsls f hf _ ho')
end

/-! ### where the work stands -/
def mkItem (body : Code) : Nat × List Nat → Option AI
  | (0, p) => (codeAt body p).map (.code p ·)
  | (1, p) => match codeAt body p with
    | some (.loop b) => some (.inLoop p b)
    | _ => none
  | (2, p) => match codeAt body p with
    | some (.block id _) => some (.inBlock p id)
    | _ => none
  | _ => none

def pathEq : List Nat → List Nat → Bool
  | [], [] => true
  | a :: p, b :: q => bif Nat.beq a b then pathEq p q else false
  | _, _ => false

theorem pathEq_eq : ∀ (p q : List Nat), pathEq p q = true → p = q
  | [], [], _ => rfl
  | [], _ :: _, h => by simp [pathEq] at h
  | _ :: _, [], h => by simp [pathEq] at h
  | a :: p, b :: q, h => by
    simp only [pathEq] at h
    cases h1 : Nat.beq a b
    · rw [h1] at h; cases h
    · rw [h1] at h
      simp only [cond_true] at h
      rw [Nat.eq_of_beq_eq_true h1, pathEq_eq p q h]

def sameItem : AI → Nat × List Nat → Bool
  | .code p _, (0, q) => pathEq p q
  | .inLoop p _, (1, q) => pathEq p q
  | .inBlock p _, (2, q) => pathEq p q
  | _, _ => false

def sameSkel : List AI → List (Nat × List Nat) → Bool
  | [], [] => true
  | a :: as, s :: ss => sameItem a s && sameSkel as ss
  | _, _ => false

theorem sameSkel_eq {body : Code} : ∀ (todo : List AI) (sk : List (Nat × List Nat)), sameSkel todo sk = true → (∀ ai ∈ todo, PathOk body ai) → sk.filterMap (mkItem body) = todo
  | [], [], _, _ => rfl
  | [], _ :: _, h, _ => by simp [sameSkel] at h
  | _ :: _, [], h, _ => by simp [sameSkel] at h
  | a :: as, s :: ss, h, hp => by
    simp only [sameSkel, Bool.and_eq_true] at h
    have h1 := hp a (List.mem_cons_self ..)
    have h2 := sameSkel_eq as ss h.2 (fun ai hai => hp ai (List.mem_cons_of_mem _ hai))
    have : mkItem body s = some a := by
      obtain ⟨hs, _⟩ := h
      unfold sameItem at hs
      split at hs
      · rename_i p c q
        rw [← pathEq_eq _ _ hs]
        have h1 : codeAt body p = some c := h1
        simp [mkItem, h1]
      · rename_i p c q
        rw [← pathEq_eq _ _ hs]
        have h1 : codeAt body p = some (.loop c) := h1
        simp [mkItem, h1]
      · rename_i p id q
        rw [← pathEq_eq _ _ hs]
        obtain ⟨b, h1⟩ := h1
        simp [mkItem, h1]
      · cases hs
    rw [List.filterMap_cons_some this, h2]

structure Loop1 (R : Type) where
  cd : CutD
  F : SD cd → Option R

def Kof {R : Type} (n : Nat) : List (Loop1 R) → AF → H → Option R
  | [], _, _ => none
  | l :: ls, c, h => bif sameSkel c.todo l.cd.skel then (extract l.cd n c h).bind l.F else Kof n ls c h

def cAF (f : Nat) (b : Body) (cd : CutD) (s : SD cd) : AF := { f := f, n := b.ntmps, path := [], res := b.results, tm := cTm cd s, todo := cd.skel.filterMap (mkItem b.code) }

def BodyOk (P : Program) (f : Nat) (b : Body) : Prop := CallOk P f ∧ ∃ fn, P.funcs[f]? = some fn ∧ fn.body = some b.code ∧ fn.ntmps = b.ntmps ∧ fn.results = b.results.toArray

section
variable {R : Type} {P : Program} {E : Env} {base : Nat} {F0 : Nat → Nat → Prop} {W0 : World} {fin : List AV → H → Option R} {Q : R → Value → World → Prop} {f : Nat} {b : Body}

theorem Kof_some {n : Nat} {c : AF} {h : H} {r : R} : ∀ (ls : List (Loop1 R)), Kof n ls c h = some r → ∃ l ∈ ls, sameSkel c.todo l.cd.skel = true ∧ ∃ s, extract l.cd n c h = some s ∧ l.F s = some r
  | [], hk => by simp [Kof] at hk
  | l :: ls, hk => by
    simp only [Kof] at hk
    cases hs : sameSkel c.todo l.cd.skel
    · rw [hs] at hk
      obtain ⟨l', hm, h1⟩ := Kof_some ls hk
      exact ⟨l', List.mem_cons_of_mem _ hm, h1⟩
    · rw [hs] at hk
      obtain ⟨s, h1, h2⟩ := Option.bind_eq_some_iff.1 hk
      exact ⟨l, List.mem_cons_self .., hs, s, h1, h2⟩

theorem cutOk_of (hE : EOk P E) (hm : P.follows .mixedOrders = true) (hb : BodyOk P f b) (hfin : FinOk base F0 W0 fin Q) (lst : Nat → List (Loop1 R)) (h0 : ∀ l ∈ lst 0, ∀ s, l.F s = none)
    (hs : ∀ n, ∀ l ∈ lst (n + 1), ∀ s r, l.F s = some r → ∃ N, run E fin (Kof b.ntmps (lst n)) N false (cAF f b l.cd s) [] (cH l.cd s) = some r) :
    ∀ n, CutOk P base F0 W0 f (Kof b.ntmps (lst n)) Q := by
  intro n
  induction n with
  | zero =>
    intro c h r hk
    obtain ⟨l, hl, _, s, _, h2⟩ := Kof_some _ hk
    rw [h0 l hl s] at h2
    cases h2
  | succ n ih =>
    intro c h r hk g w a cs0 hcf hH hF
    obtain ⟨l, hl, hsk, s, hex, hr⟩ := Kof_some _ hk
    obtain ⟨N, hrun⟩ := hs n l hl s r hr
    obtain ⟨g', hH', htm', hn⟩ := cover (vs := fun i => a.tmps.getD i undef) hex hH hF.tm
    obtain ⟨_, fn, hfn, hbody, hnt, hres⟩ := hb
    obtain ⟨fn', body', hfn', hres', hbody', hpath⟩ := hF.fn
    rw [hcf, hfn] at hfn'
    cases hfn'
    rw [hbody] at hbody'
    cases hbody'
    have htodo := sameSkel_eq c.todo l.cd.skel hsk hpath
    have hfr : frameOf (cAF f b l.cd s) a = frameOf c a := by
      unfold frameOf cAF
      rw [htodo, hcf]
    have hF' : FR P w (Fr base F0 g' (cH l.cd s)) g' (cH l.cd s) (cAF f b l.cd s) a :=
      ⟨htm', Nat.le_trans hn hF.size, hF.defers, fn, b.code, hfn, hres, hbody, fun ai hai => hpath ai (by rw [← htodo]; exact hai)⟩
    have := run_sound hE hm hfin ih N false _ [] _ r hrun rfl g' w a [] cs0 hH' hF' rfl
    rw [hfr] at this
    exact this

def fin0 (rs : List TY) : List AV → H → Option (Den rs) := fun vs _ => argsTo rs vs

theorem contract_gen (hE : EOk P E) (hm : P.follows .mixedOrders = true) (hb : BodyOk P f b) (s : Summ) (fin : List AV → H → Option (Den s.rs))
    (hfin0 : ∀ (base : Nat) (F0 : Nat → Nat → Prop) (W0 : World) vs h r, fin vs h = some r → ∀ g w us, HRel base F0 W0 g h w → AVs.rep w (Fr base F0 g h) g h vs us → ∀ g' h', AVs.rep w (fun B o => B < base → F0 B o) g' h' (s.out r) us)
    (lst : Nat → List (Loop1 (Den s.rs))) (h0 : ∀ l ∈ lst 0, ∀ x, l.F x = none)
    (hs : ∀ n, ∀ l ∈ lst (n + 1), ∀ x r, l.F x = some r → ∃ N, run E fin (Kof b.ntmps (lst n)) N false (cAF f b l.cd x) [] (cH l.cd x) = some r)
    (hrun : ∀ x r, s.F x = some r → ∃ n N, run E fin (Kof b.ntmps (lst n)) N true { f := f, n := b.ntmps, path := [], res := b.results, tm := argTm (resList s.ps x), todo := [.code [] b.code] } [] H.empty = some r) :
    Contract P f s := by
  refine ⟨hb.1, fun x r hF w F0 vs hvs cs0 => ?_⟩
  obtain ⟨n, N, hr⟩ := hrun x r hF
  let Q : Den s.rs → Value → World → Prop := fun r v w' => ∃ us, v = retVal us ∧ (∀ g' h', AVs.rep w' (fun B o => B < w.heap.size → F0 B o) g' h' (s.out r) us) ∧ Below w.heap.size w w'
  have hfin : FinOk w.heap.size F0 w fin Q := by
    intro as h r' ha g w' us hH hu
    exact ⟨us, rfl, hfin0 _ _ _ as h r' ha g w' us hH hu, hH.below⟩
  have hK := cutOk_of hE hm hb hfin lst h0 hs n
  obtain ⟨_, fn, hfn, hbody, hnt, hres⟩ := hb
  let g : Gh := ⟨fun _ => 0, fun _ => (0, 0, 0)⟩
  have hH : HRel w.heap.size F0 w g H.empty w := ⟨Below.refl _ _, Nat.le_refl _, fun k b hb => (by cases hb), fun k k' hk => (by cases hk), fun t ht => (by cases ht), fun t t' ht => (by cases ht), fun t ht => (by cases ht)⟩
  have hargs : AVs.rep w (Fr w.heap.size F0 g H.empty) g H.empty (resList s.ps x) vs := by
    refine resList_rep s.ps x vs (DenRep.keeps (fun B o v hf hc => ⟨hc, fun _ => hf, fun k hk => (by cases hk), fun t ht => (by cases ht)⟩) _ _ _ hvs)
  have hF' : FR P w (Fr w.heap.size F0 g H.empty) g H.empty { f := f, n := b.ntmps, path := [], res := b.results, tm := argTm (resList s.ps x), todo := [.code [] b.code] }
      { tmps := vs.toArray ++ Array.replicate (fn.ntmps - vs.length) undef, defers := [] } :=
    ⟨argTm_rep _ vs hargs, by simp; omega, rfl, fn, b.code, hfn, hres, hbody, fun ai hai => by
      rcases List.mem_cons.1 hai with e | hai
      · subst e; rfl
      · cases hai⟩
  have hl := run_sound hE hm hfin hK N true _ [] _ r hr rfl g w _ [] cs0 hH hF' rfl
  have henter : Frame.enter P f vs.toArray .normal = (bF f).at { tmps := vs.toArray ++ Array.replicate (fn.ntmps - vs.length) undef, defers := [] } [.code b.code] := by
    simp [Frame.enter, Frame.at, hfn, hbody, bF]
  obtain ⟨v, w', fr, ⟨us, hv, hd, hbel⟩, hst, hfr, hlv⟩ := hl
  exact ⟨.returned v, w', fr, ⟨us, by rw [hv], hd, hbel⟩, by rw [henter]; exact hst, hfr, hlv⟩

theorem contract_of (hE : EOk P E) (hm : P.follows .mixedOrders = true) (hb : BodyOk P f b) (s : Summ) (hmk : s.out = resList s.rs) (lst : Nat → List (Loop1 (Den s.rs))) (h0 : ∀ l ∈ lst 0, ∀ x, l.F x = none)
    (hs : ∀ n, ∀ l ∈ lst (n + 1), ∀ x r, l.F x = some r → ∃ N, run E (fin0 s.rs) (Kof b.ntmps (lst n)) N false (cAF f b l.cd x) [] (cH l.cd x) = some r)
    (hrun : ∀ x r, s.F x = some r → ∃ n N, run E (fin0 s.rs) (Kof b.ntmps (lst n)) N true { f := f, n := b.ntmps, path := [], res := b.results, tm := argTm (resList s.ps x), todo := [.code [] b.code] } [] H.empty = some r) :
    Contract P f s := by
  refine contract_gen hE hm hb s (fin0 s.rs) ?_ lst h0 hs hrun
  intro base F0 W0 vs h r hf g w us hH hu g' h'
  rw [hmk]
  exact resList_rep s.rs r us (DenRep.keeps (fun B o v hf hc => ⟨hc, hf.1⟩) _ _ _ (argsTo_rep s.rs vs us r hf hu))

/-- A function that hands back a closure over one variable, which nothing writes. -/
def finClo (q : Nat) (l : Lay) : List AV → H → Option (l.den × Unit)
  | [.fn q' [.ptr k 0]], h => bif Nat.beq q' q then (match h.blk k with
    | some b => (Lay.castTo (l := b.lay) b.x l).map fun x => (x, ())
    | none => none) else none
  | _, _ => none

def mkClo (q : Nat) (l : Lay) : l.den × Unit → List AV := fun r => [.fn q [.ept l r.1 0]]

theorem contract_clo (hE : EOk P E) (hm : P.follows .mixedOrders = true) (hb : BodyOk P f b) (q : Nat) (l : Lay) (ps : List TY) (G : Den ps → Option (l.den × Unit))
    (hrun : ∀ x r, G x = some r → ∃ N, run E (finClo q l) (fun _ _ => none) N true { f := f, n := b.ntmps, path := [], res := b.results, tm := argTm (resList ps x), todo := [.code [] b.code] } [] H.empty = some r) :
    Contract P f { ps := ps, rs := [.st l], F := G, out := mkClo q l } := by
  refine contract_gen hE hm hb _ (finClo q l) ?_ (fun _ => []) (fun l hl => by cases hl) (fun n l hl => by cases hl) (fun x r hr => ?_)
  · intro base F0 W0 vs h r hf g w us hH hu g' h'
    unfold finClo at hf
    split at hf
    · rename_i q' k
      obtain ⟨hq, hf⟩ := cond_some hf
      have hq := Nat.eq_of_beq_eq_true hq
      subst hq
      split at hf
      · rename_i b' hb'
        obtain ⟨x, hx, hf⟩ := Option.map_eq_some_iff.1 hf
        subst hf
        obtain ⟨u, us', rfl, ⟨cs, hu1, hcs⟩, hn⟩ := hu
        have hn : us' = [] := hn
        subst hn
        obtain ⟨c, cs', rfl, ⟨hc, _⟩, hn⟩ := hcs
        have hn : cs' = [] := hn
        subst hn
        obtain ⟨hbase, vs', ty, hheap, hvals⟩ := hH.blk k b' hb'
        refine ⟨u, [], rfl, ⟨[c], hu1, c, [], rfl, ⟨g.ρ k, 0, hc, ?_⟩, rfl⟩, rfl⟩
        have hv2 := Lay.castTo_vals hx hvals
        refine (Lay.lies_iff l x _ _).2 ⟨vs', Lay.vals_keeps (fun B o v hf hc => ⟨hc, hf.1⟩) _ _ _ hv2, fun j v hj => ⟨?_, fun hlt => by omega⟩⟩
        rw [cell_row hheap]
        simpa using hj
      · cases hf
    · cases hf
  · obtain ⟨N, hN⟩ := hrun x r hr
    exact ⟨0, N, hN⟩
end
end Go.Proofs.Ythdjomfkechfoaa.Vx
