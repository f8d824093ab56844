/-
  Vx, part l: append.
-/
import Derived.Test.YthdjomfkechfoaaVk
import Derived.Laws.IdiomStrings
import Derived.Laws.MakeOwn
namespace Go.Proofs.Ythdjomfkechfoaa.Vx
open Go Go.RowKit
set_option linter.unusedSimpArgs false
set_option linter.unusedVariables false

section
variable {R : Type} {P : Program} {E : Env} {base : Nat} {F0 : Nat → Nat → Prop} {W0 : World} {g : Gh} {h : H} {w : World}
variable {ev : Operand → AV} {ρ : Operand → Value} {k : AV → H → Option R} {r : R} {key : Key}

theorem src_of {F : Nat → Nat → Prop} {l : Lay} {ys : List l.den} {v : Value} {tx e' : TypeId} (hk : P.underlying tx = some (.slice e')) (hr : (CT.sl l).rep w F ys v) :
    ∃ news, Src P l.size tx v ys.length news w ∧ Rows w F l ys news := by
  obtain ⟨a, cap, hv, hle, hrep⟩ := hr
  by_cases h0 : 0 < List.length (α := l.den) ys
  · obtain ⟨B, off, ha, hl⟩ := hrep h0
    obtain ⟨news, hrows, hat⟩ := rows_of_lies ys B off hl
    refine ⟨news, ?_, hrows⟩
    rw [hv, ha]
    exact Src.ofSlice w hk ⟨B, off, none⟩ _ _ news hrows.length (fun j u hu => by rw [Addr.add_lit]; exact (hat j u hu).1) hrows.one
  · have hy : ys = [] := List.eq_nil_of_length_eq_zero (by omega)
    subst hy
    refine ⟨[], ?_, rfl⟩
    rw [hv]
    cases a with
    | none => exact Src.ofNil w hk cap
    | some ad => exact Src.ofSlice w hk ad 0 cap [] (by simp) (fun j u hu => by simp at hu) (fun u hu => by simp at hu)

theorem olds_of {F : Nat → Nat → Prop} {l : Lay} {xs : List l.den} {a : Option Addr} {cap : Nat} (hrep : 0 < xs.length → ∃ B off, a = some ⟨B, off, none⟩ ∧ ∀ (i : Nat) (x : l.den), xs[i]? = some x → l.lies w F x B (off + i * l.size)) :
    ∃ olds, Rows w F l xs olds ∧ (Builtin.firstCells l.size xs.length (.slice a xs.length cap)).run P w.drew = .ok olds.toArray w.drew := by
  by_cases h0 : 0 < List.length (α := l.den) xs
  · obtain ⟨B, off, ha, hl⟩ := hrep h0
    obtain ⟨olds, hrows, hat⟩ := rows_of_lies xs B off hl
    refine ⟨olds, hrows, ?_⟩
    rw [ha]
    exact run_firstCells_some w.drew l.size xs.length ⟨B, off, none⟩ xs.length cap olds hrows.length (fun j u hu => by rw [Addr.add_lit]; exact (hat j u hu).1)
  · have hy : xs = [] := List.eq_nil_of_length_eq_zero (by omega)
    subst hy
    refine ⟨[], rfl, ?_⟩
    cases a with
    | none => exact run_firstCells_none w.drew l.size 0 0 cap
    | some ad => exact run_firstCells_some w.drew l.size 0 ad 0 cap [] (by simp) (fun j u hu => by simp at hu)

theorem run_append_at {t tx ty e te : TypeId} {i : TypeInfo} (ht : P.underlying t = some (.slice e)) (hi : P.info? e = some i) {b off sLen sCap n : Nat} {x : Value} {news : List Value} (hs : Src P i.size tx x n news w)
    {cur : Array Value} (hb : w.heap[b]? = some (.cells cur te (0, 0))) (hroom : sLen + n ≤ sCap) (hfit : off + sLen * i.size + news.length ≤ cur.size) :
    (Builtin.append_ #[t, tx] ty #[.slice (some ⟨b, off, none⟩) sLen sCap, x]).run P w = .ok (.slice (some ⟨b, off, none⟩) (sLen + n) sCap)
      (setRow w b (cur.toList.take (off + sLen * i.size) ++ news ++ cur.toList.drop (off + sLen * i.size + news.length)).toArray te) := by
  have hst := run_storeCells_at (P := P) b (off + sLen * i.size) te news 0 cur w hb (by simpa using hfit) hs.one
  simp only [Nat.add_zero] at hst
  rw [kit_setRow hb] at hst
  rcases hs.kind with ⟨e', hk⟩ | hk <;> simp [Builtin.append_, run_underlying ht, run_underlying hk, sizeOf, typeInfo, hi, hs.len, hroom, hs.cells, Addr.add_lit, hst]

def spendO (h : H) : Option Nat → H
  | none => h
  | some t => h.spend t

theorem spendO_nt (o : Option Nat) : (spendO h o).nt = h.nt := by cases o <;> rfl
theorem spendO_blk (o : Option Nat) : (spendO h o).blk = h.blk := by cases o <;> rfl
theorem spendO_tok {o : Option Nat} {u : Nat} (hu : (spendO h o).tok u = true) : h.tok u = true := by
  cases o with
  | none => exact hu
  | some t => exact (spend_tok.1 hu).2

theorem HRel.spendO (hH : HRel base F0 W0 g h w) (o : Option Nat) : HRel base F0 W0 g (spendO h o) w ∧ Ext base F0 g h w g (spendO h o) w := by
  cases o with
  | none => exact ⟨hH, Ext.refl⟩
  | some t => exact hH.spend t

/-- What is known of the slice that is appended to. -/
structure Grows (g : Gh) (h : H) (w : World) (F : Nat → Nat → Prop) (l : Lay) (xs : List l.den) (a : Option Addr) (cap : Nat) (o : Option Nat) : Prop where
  le : xs.length ≤ cap
  rep : 0 < xs.length → ∃ B off, a = some ⟨B, off, none⟩ ∧ ∀ (i : Nat) (x : l.den), xs[i]? = some x → l.lies w F x B (off + i * l.size)
  tok : match o with
    | none => cap = xs.length
    | some t => h.tok t = true ∧ (0 < cap → ∃ B off, a = some ⟨B, off, none⟩ ∧ (∀ (i : Nat) (x : l.den), xs[i]? = some x → l.lies w F x B (off + i * l.size)) ∧
        (xs.length < cap → g.τ t = (B, off + xs.length * l.size, off + cap * l.size)))

theorem append_core (hH : HRel base F0 W0 g h w) {t tx ty e : TypeId} {te : TY} {bytes : Nat} (hu : P.underlying t = some (.slice e)) (hte : TyOk P e te) {i : TypeInfo} (hi : P.info? e = some i) (hby : i.bytes = bytes) (hby1 : 1 ≤ bytes)
    {e' : TypeId} (hux : P.underlying tx = some (.slice e')) {xs ys : List te.lay.den} {a : Option Addr} {cap : Nat} {o : Option Nat} (hg : Grows g h w (Fr base F0 g h) te.lay xs a cap o)
    {v : Value} (hv : (CT.sl te.lay).rep w (Fr base F0 g h) ys v) (hfit : (xs.length + ys.length) * bytes ≤ 140737488355328) :
    ∃ u w' g', (Builtin.append_ #[t, tx] ty #[.slice a xs.length cap, v]).run P w = .ok u w' ∧ HRel base F0 W0 g' (spendO h o).fresh w' ∧ Ext base F0 g h w g' (spendO h o).fresh w' ∧
      (AV.osl te.lay (xs ++ ys) h.nt).rep w' (Fr base F0 g' (spendO h o).fresh) g' (spendO h o).fresh u := by
  obtain ⟨i', z, hi', hsz, hz, hzo⟩ := hte.info
  have : i' = i := by rw [hi] at hi'; exact (Option.some.inj hi').symm
  subst this
  obtain ⟨news, hsrc, hnews⟩ := src_of (P := P) hux hv
  rw [← hsz] at hsrc
  have hnl := hnews.length
  have hsp := te.lay.size_pos
  obtain ⟨hS, eS⟩ := hH.spendO o
  have hblkS : ∀ k b, (spendO h o).blk k = some b → h.blk k = some b := fun k b hb => by rw [spendO_blk] at hb; exact hb
  by_cases hroom : xs.length + ys.length ≤ cap
  · by_cases hn : ys.length = 0
    · -- nothing
      have hy : ys = [] := List.eq_nil_of_length_eq_zero hn
      subst hy
      have hnw : news = [] := hnews
      subst hnw
      have hrun := run_append_nothing (P := P) w t tx ty e i' hu hi a xs.length cap hg.le v hsrc
      -- the region that goes on
      let x : Nat × Nat × Nat := match o with
        | none => (0, 0, 0)
        | some tk => if xs.length < cap then g.τ tk else (0, 0, 0)
      have hx : x.2.1 < x.2.2 → ∃ tk, o = some tk ∧ xs.length < cap ∧ x = g.τ tk ∧ h.tok tk = true := by
        intro hlt
        cases o with
        | none => simp [x] at hlt
        | some tk =>
          by_cases hc : xs.length < cap
          · exact ⟨tk, rfl, hc, by simp [x, hc], hg.tok.1⟩
          · simp [x, hc] at hlt
      obtain ⟨h1, h2⟩ := hS.fresh x (fun hlt => by
        obtain ⟨tk, ho, hc, he, htk⟩ := hx hlt
        rw [he] at hlt ⊢
        obtain ⟨q1, q2, q3⟩ := hH.tok tk htk hlt
        refine ⟨q1, fun k hk => q2 k (by rw [spendO_blk] at hk; exact hk), q3, fun u hu hlo heq => ?_⟩
        have := hH.tokd u tk (spendO_tok hu) htk hlo hlt heq
        subst this
        rw [ho] at hu
        exact (spend_tok.1 hu).1 rfl) eS (fun o' v' hf hc hlo hhi => by
        obtain ⟨tk, ho, hc', he, htk⟩ := hx (by omega)
        rw [he] at hf hlo hhi
        exact hf.2.2 tk htk rfl hlo hhi) (fun k b hb => by
        obtain ⟨_, vs, ty', q1, q2⟩ := hH.blk k b (hblkS k b hb)
        exact ⟨vs, ty', q1, q2⟩)
      rw [spendO_nt] at h1 h2
      refine ⟨_, w, _, hrun, h1, h2, ?_⟩
      have hnil : xs ++ [] = xs := by simp
      rw [hnil]
      refine ⟨a, cap, rfl, hg.le, ?_, fun hp => ?_⟩
      · show h.nt < (spendO h o).nt + 1
        rw [spendO_nt]; omega
      · cases o with
        | none =>
          have hc := hg.tok
          simp only at hc
          obtain ⟨B, off, ha, hl⟩ := hg.rep (by omega)
          exact ⟨B, off, ha, fun i x hx => Lay.lies_keeps h2.keeps _ _ _ _ (hl i x hx), fun _ hlt => by omega⟩
        | some tk =>
          obtain ⟨B, off, ha, hl, ht⟩ := hg.tok.2 hp
          refine ⟨B, off, ha, fun i x hx => Lay.lies_keeps h2.keeps _ _ _ _ (hl i x hx), fun _ hlt => ?_⟩
          rw [Gh.tk_same]
          have hlt' : xs.length < cap := hlt
          simp only [x, hlt', if_true]
          exact ht hlt'
    · -- in place
      have hlt : xs.length < cap := by omega
      cases o with
      | none => have hc := hg.tok; simp only at hc; omega
      | some tk =>
        obtain ⟨htk, hreg⟩ := hg.tok
        obtain ⟨B, off, ha, hl, htau⟩ := hreg (by omega)
        have htau := htau hlt
        have hcs : xs.length * te.lay.size < cap * te.lay.size := Nat.mul_lt_mul_of_pos_right hlt hsp
        have hne : (g.τ tk).2.1 < (g.τ tk).2.2 := by rw [htau]; show off + _ < off + _; omega
        obtain ⟨hbB, hrB, c, tyB, hheap, hcsz⟩ := hH.tok tk htk hne
        rw [htau] at hbB hrB hheap hcsz
        simp only at hbB hrB hheap hcsz
        have hmul : (xs.length + ys.length) * te.lay.size ≤ cap * te.lay.size := Nat.mul_le_mul_right _ hroom
        rw [Nat.add_mul] at hmul
        have hfit' : off + xs.length * i'.size + news.length ≤ c.size := by rw [hsz, hnl]; omega
        have hrun := run_append_at (P := P) (t := t) (tx := tx) (ty := ty) (te := tyB) hu hi (off := off) hsrc hheap hroom hfit'
        rw [hsz] at hrun hfit'
        have hbl := (Array.getElem?_eq_some_iff.1 hheap).1
        -- the row's new cells
        have hcl : c.toList.length = c.size := Array.length_toList
        have hc1 : ∀ j, ¬ (off + xs.length * te.lay.size ≤ j ∧ j < off + xs.length * te.lay.size + news.length) →
            (c.toList.take (off + xs.length * te.lay.size) ++ news ++ c.toList.drop (off + xs.length * te.lay.size + news.length)).toArray[j]? = c[j]? := by
          intro j hj
          have hm : (c.toList.take (off + xs.length * te.lay.size)).length = off + xs.length * te.lay.size := by rw [List.length_take]; omega
          simp only [List.getElem?_toArray]
          by_cases h3 : j < off + xs.length * te.lay.size
          · rw [List.append_assoc, List.getElem?_append_left (by omega), List.getElem?_take, if_pos h3]; simp
          · rw [List.getElem?_append_right (by rw [List.length_append]; omega), List.getElem?_drop]
            simp only [List.length_append, hm]
            rw [show off + xs.length * te.lay.size + news.length + (j - (off + xs.length * te.lay.size + news.length)) = j by omega]
            simp
        have hc2 : ∀ j u, news[j]? = some u → (c.toList.take (off + xs.length * te.lay.size) ++ news ++ c.toList.drop (off + xs.length * te.lay.size + news.length)).toArray[off + xs.length * te.lay.size + j]? = some u := by
          intro j u hj
          have hm : (c.toList.take (off + xs.length * te.lay.size)).length = off + xs.length * te.lay.size := by rw [List.length_take]; omega
          have hjl := (List.getElem?_eq_some_iff.1 hj).1
          simp only [List.getElem?_toArray]
          rw [List.append_assoc, List.getElem?_append_right (by omega), hm, List.getElem?_append_left (by omega)]
          rw [show off + xs.length * te.lay.size + j - (off + xs.length * te.lay.size) = j by omega]; exact hj
        generalize hc' : (c.toList.take (off + xs.length * te.lay.size) ++ news ++ c.toList.drop (off + xs.length * te.lay.size + news.length)).toArray = c' at hrun hc1 hc2
        have hcsz' : c'.size = c.size := by
          rw [← hc']; simp; omega
        have hkeep : Keeps w (Fr base F0 g h) (setRow w B c' tyB) (Fr base F0 g (h.spend tk)) := by
          intro B' o' v' hf hc
          refine ⟨?_, hf.spend⟩
          by_cases hB : B' = B
          · subst hB
            rw [cell_row (setRow_same hbl), hc1 o' (fun hj => hf.2.2 tk htk (by rw [htau]) (by rw [htau]; exact hj.1) (by rw [htau]; show o' < off + cap * te.lay.size; omega))]
            rw [cell_row hheap] at hc; exact hc
          · rw [cell_setRow_other hB]; exact hc
        have hHw : HRel base F0 W0 g (h.spend tk) (setRow w B c' tyB) := by
          refine ⟨hH.below.trans (setRow_below hbB), by simp [setRow]; exact hH.hb, fun k b hb => ?_, hS.inj, fun u hu hlo => ?_, hS.tokd, hS.toklt⟩
          · obtain ⟨q1, vs, ty', q2, q3⟩ := hH.blk k b hb
            refine ⟨q1, vs, ty', ?_, Lay.vals_keeps hkeep _ _ _ q3⟩
            rw [setRow_other (hrB k (by rw [show h.blk k = some b from hb]; rfl))]; exact q2
          · obtain ⟨q1, q2, c2, ty', q3, q4⟩ := hS.tok u hu hlo
            refine ⟨q1, q2, c2, ty', ?_, q4⟩
            rw [setRow_other (fun heq => (spend_tok.1 hu).1 (hH.tokd u tk (spend_tok.1 hu).2 htk hlo hne (by rw [heq, htau])))]; exact q3
        have eW : Ext base F0 g h w g (h.spend tk) (setRow w B c' tyB) := ⟨hkeep, fun _ hk => ⟨hk, rfl⟩, Nat.le_refl _, fun u _ hu => ⟨(spend_tok.1 hu).2, rfl⟩⟩
        obtain ⟨h1, h2⟩ := hHw.fresh (B, off + (xs.length + ys.length) * te.lay.size, off + cap * te.lay.size) (fun _ =>
          ⟨hbB, fun k hk => hrB k hk, ⟨c', tyB, setRow_same hbl, by rw [hcsz']; exact hcsz⟩, fun u hu hlo heq => (spend_tok.1 hu).1 (hH.tokd u tk (spend_tok.1 hu).2 htk hlo hne (by rw [heq, htau]))⟩) eW
          (fun o' v' hf hc hlo hhi => hf.2.2 tk htk (by rw [htau]) (by rw [htau]; show off + xs.length * te.lay.size ≤ o'; simp only [Nat.add_mul] at hlo; omega) (by rw [htau]; exact hhi))
          (fun k b hb => by
            obtain ⟨_, vs, ty', q2, q3⟩ := hH.blk k b hb
            exact ⟨vs, ty', by rw [setRow_other (hrB k (by rw [show h.blk k = some b from hb]; rfl))]; exact q2, q3⟩)
        have hnt : (h.spend tk).nt = h.nt := rfl
        rw [hnt] at h1 h2
        refine ⟨_, _, _, by rw [ha]; exact hrun, h1, h2, ?_⟩
        refine ⟨_, cap, by rw [List.length_append], by rw [List.length_append]; exact hroom, Nat.lt_succ_self _, fun _ => ⟨B, off, rfl, ?_, fun _ _ => ?_⟩⟩
        · obtain ⟨olds, hro, hato⟩ := rows_of_lies xs B off hl
          have hol := hro.length
          refine Rows.lies (Rows.append (hro.keeps h2.keeps) (hnews.keeps h2.keeps)) (RowAt.append (fun j v' hj => h2.keeps B _ _ (hato j v' hj).2 (hato j v' hj).1) (fun j v' hj => ?_))
          have hjl := (List.getElem?_eq_some_iff.1 hj).1
          rw [hol]
          refine ⟨by rw [cell_row (setRow_same hbl)]; exact hc2 j v' hj, fun hb => absurd hb (by omega), fun k hk => hrB k hk, fun u hu heq hlo hhi => ?_⟩
          rcases fresh_tok.1 hu with e1 | hu1
          · have e1' : u = h.nt := e1
            rw [e1', Gh.tk_same] at hlo
            simp only [Nat.add_mul] at hlo
            omega
          · have hne' : u ≠ h.nt := fun e1 => by have := hH.toklt u (spend_tok.1 hu1).2; omega
            rw [Gh.tk_other hne'] at heq hlo hhi
            exact (spend_tok.1 hu1).1 (hH.tokd u tk (spend_tok.1 hu1).2 htk (by omega) hne (by rw [heq, htau]))
        · rw [Gh.tk_same, List.length_append]
  · -- a new row
    have hgr : cap < xs.length + ys.length := by omega
    obtain ⟨olds, hro, hold⟩ := olds_of (P := P) (cap := cap) hg.rep
    have hol := hro.length
    rw [← hsz] at hold
    have h63 : ((xs.length + ys.length : Nat) : Int) ≤ 9223372036854775807 := by
      have : (xs.length + ys.length) * 1 ≤ (xs.length + ys.length) * bytes := Nat.mul_le_mul_left _ hby1
      omega
    have hrun := run_append_grow_src (P := P) w t tx ty e i' z hu hi hz a xs.length cap olds hold v ys.length news hsrc hgr h63 (growslice_fits hgr (by rw [hby]; exact hfit))
    have hge := grownCap_ge w (xs.length + ys.length) cap e
    generalize grownCap w (xs.length + ys.length) cap e = nc at hrun hge
    obtain ⟨zs, hzc, hzv⟩ := TY.rep_cells (w := w) (F := Fr base F0 g h) te _ z (TY.ofConst_rep te z _ hzo)
    have hzl := Lay.vals_length _ _ _ hzv
    generalize hcells : ((olds ++ news).toArray ++ Builtin.zeroCells z.cells (nc - (xs.length + ys.length))) = cells at hrun
    have hcsz : cells.size = nc * te.lay.size := by
      rw [← hcells]
      simp only [Array.size_append, List.size_toArray, List.length_append, size_zeroCells, hol, hnl, hzc, hzl]
      rw [← Nat.add_mul, ← Nat.add_mul]
      congr 1; omega
    have hcget : ∀ (j : Nat) (u : Value), (olds ++ news)[j]? = some u → cells[j]? = some u := by
      intro j u hj
      have hjl := (List.getElem?_eq_some_iff.1 hj).1
      rw [← hcells, Array.getElem?_append_left (by simpa using hjl)]
      simpa using hj
    have hbelow : Below w.heap.size w (w.drew.alloc (.cells cells e)) := (Below.refl _ w).drew.alloc (Nat.le_refl _) _
    obtain ⟨hG, eG⟩ := hH.grow hbelow
    obtain ⟨hGS, eGS⟩ := hG.spendO o
    have hnew : (w.drew.alloc (.cells cells e)).heap[w.heap.size]? = some (.cells cells e (0, 0)) := heap_alloc_here (w := w.drew)
    obtain ⟨h1, h2⟩ := hGS.fresh (w.heap.size, (xs.length + ys.length) * te.lay.size, nc * te.lay.size) (fun _ =>
      ⟨hH.hb, fun k hk => by rw [spendO_blk] at hk; have := hH.rho_lt hk; show g.ρ k ≠ w.heap.size; omega, ⟨cells, e, hnew, by rw [hcsz]; exact Nat.le_refl _⟩,
        fun u hu hlo => by have := hH.tok_lt (spendO_tok hu) hlo; show (g.τ u).1 ≠ w.heap.size; omega⟩) (eG.trans eGS)
      (fun o' v' hf hc _ _ => by have := World.block_lt_of_cell? w ⟨w.heap.size, o', none⟩ hc; exact absurd this (Nat.lt_irrefl _))
      (fun k b hb => by
        obtain ⟨_, vs, ty', q2, q3⟩ := hH.blk k b (hblkS k b hb)
        exact ⟨vs, ty', by rw [hbelow.block _ (Array.getElem?_eq_some_iff.1 q2).1]; exact q2, q3⟩)
    rw [spendO_nt] at h1 h2
    refine ⟨_, _, _, hrun, h1, h2, ?_⟩
    refine ⟨_, nc, by rw [List.length_append], by rw [List.length_append]; exact hge, ?_, fun _ => ⟨w.heap.size, 0, rfl, ?_, fun _ _ => ?_⟩⟩
    · show h.nt < (spendO h o).nt + 1
      rw [spendO_nt]; omega
    · refine Rows.lies (Rows.append (hro.keeps h2.keeps) (hnews.keeps h2.keeps)) (fun j v' hj => ?_)
      have hjl := (List.getElem?_eq_some_iff.1 hj).1
      rw [List.length_append, hol, hnl, ← Nat.add_mul] at hjl
      refine ⟨by rw [cell_row hnew, Nat.zero_add]; exact hcget j v' hj, fun hb => absurd hb (by have := hH.hb; omega), fun k hk => ?_, fun u hu heq hlo hhi => ?_⟩
      · rw [show ((spendO h o).fresh).blk = h.blk from spendO_blk o] at hk
        have := hH.rho_lt hk
        show g.ρ k ≠ w.heap.size
        omega
      · rcases fresh_tok.1 hu with e1 | hu1
        · rw [e1, spendO_nt, Gh.tk_same] at hlo
          simp only at hlo
          omega
        · have hu2 := spendO_tok hu1
          have hne' : u ≠ h.nt := fun e1 => by have := hH.toklt u hu2; omega
          rw [Gh.tk_other hne'] at heq hlo hhi
          have := hH.tok_lt hu2 (by omega)
          omega
    · rw [Gh.tk_same, List.length_append]
      simp

/-! ### bytes and strings, and new rows -/
theorem sound_toBytes (hE : EOk P E) (hH : HRel base F0 W0 g h w) (hev : ∀ x, (ev x).rep w (Fr base F0 g h) g h (ρ x)) {src dst : TypeId} {x : Operand} {s : ByteArray}
    (hs : E.ty src = some (.sc .str)) (hd : E.ty dst = some (.sc (.sl (.one (.int .u8))))) (hx : (ev x).to (.sc .str) = some s)
    (hk : k (.dat (.sc (.sl (.one (.int .u8)))) (bytesOf s)) h = some r) : OpRes P base F0 W0 g h w (do pure (.value (← convert src dst (ρ x)))) k r := by
  have hp : ρ x = .string s := AV.to_rep (t := .sc .str) hx (hev x)
  obtain ⟨d, hdu, hdd⟩ := (hE.ty src _ hs).desc
  have hd1 : d = .string := by cases d <;> simp [TY.desc, CT.desc] at hdd ⊢
  subst hd1
  obtain ⟨d2, hdu2, hdd2⟩ := (hE.ty dst _ hd).desc
  have he := hE.elu dst _ hd rfl
  obtain ⟨e, hsl, heu⟩ := he
  have hrun := run_bytes_of_string (P := P) w src dst e s hdu hsl heu
  have hge := grownCap_ge w s.size 0 e
  generalize grownCap w s.size 0 e = nc at hrun hge
  have hbelow : Below w.heap.size w (w.drew.alloc (.cells (bytesRow s nc) e ((bytesRow s nc).size, (bytesRow s nc).size + 1))) := (Below.refl _ w).drew.alloc (Nat.le_refl _) _
  obtain ⟨hG, eG⟩ := hH.grow hbelow
  have hnew : (w.drew.alloc (.cells (bytesRow s nc) e ((bytesRow s nc).size, (bytesRow s nc).size + 1))).heap[w.heap.size]? = some (.cells (bytesRow s nc) e ((bytesRow s nc).size, (bytesRow s nc).size + 1)) := heap_alloc_here (w := w.drew)
  have hlen : List.length (bytesOf s) = s.size := by
    simp only [bytesOf, List.length_map]
    rfl
  refine ⟨_, h, g, _, .value (.slice (some ⟨w.heap.size, 0, none⟩) s.size nc), .slice (some ⟨w.heap.size, 0, none⟩) s.size nc, hk, ?_, .inl rfl, hG, eG, ?_⟩
  · rw [Sem.run_bind, hp, hrun]; rfl
  · refine ⟨_, nc, by rw [hlen], by rw [hlen]; exact hge, fun hp => ⟨w.heap.size, 0, rfl, fun i y hy => ⟨.int .u8 y, ?_, hH.fresh_free (Nat.le_refl _) _, rfl⟩⟩⟩
    rw [cell_row hnew]
    have hi : i < s.data.toList.length := by
      have := (List.getElem?_eq_some_iff.1 hy).1
      simpa [bytesOf] using this
    have hy' : (s.data.toList[i].toNat : Int) = y := by
      have : (bytesOf s)[i]? = some y := hy
      unfold bytesOf at this
      rw [List.getElem?_map, List.getElem?_eq_getElem hi] at this
      simpa using this
    simp only [Lay.size, Nat.zero_add, Nat.mul_one]
    unfold bytesRow
    rw [Array.getElem?_append_left (by simpa using hi), Array.getElem?_map]
    have : s.data[i]? = some s.data.toList[i] := by
      rw [← Array.getElem?_toList, List.getElem?_eq_getElem hi]
    rw [this, ← hy']
    rfl

theorem sound_toStr (hE : EOk P E) (hH : HRel base F0 W0 g h w) (hev : ∀ x, (ev x).rep w (Fr base F0 g h) g h (ρ x)) {src dst : TypeId} {x : Operand} {xs : List Int}
    (hs : E.ty src = some (.sc (.sl (.one (.int .u8))))) (hd : E.ty dst = some (.sc .str)) (hx : (ev x).list (.one (.int .u8)) = some xs)
    (hk : k (.dat (.sc .str) (strOfNums xs)) h = some r) : OpRes P base F0 W0 g h w (do pure (.value (← convert src dst (ρ x)))) k r := by
  obtain ⟨a, cap, hv, hle, hrep⟩ := AV.list_rep hx (hev x)
  obtain ⟨d, hdu, hdd⟩ := (hE.ty dst _ hd).desc
  have hd1 : d = .string := by cases d <;> simp [TY.desc, CT.desc] at hdd ⊢
  subst hd1
  obtain ⟨e, hsl, heu⟩ := hE.elu src _ hs rfl
  refine OpRes.pure hH hk (u := .string (strOfNums xs)) ?_ rfl
  rw [hv, Sem.run_bind]
  by_cases h0 : 0 < List.length (α := Int) xs
  · obtain ⟨B, off, ha, hl⟩ := hrep h0
    rw [ha, run_convert_bytes_arg w src e hsl heu B off (List.length (α := Int) xs) cap xs rfl (fun i hi => ?_) dst hdu]
    · rfl
    · obtain ⟨v, hc, _, hv⟩ := hl i xs[i] (by simp [hi])
      simp only [Lay.size, Nat.mul_one] at hc
      rw [hc]
      have : v = .int .u8 xs[i] := hv
      rw [this]
      simp [List.getD, List.getElem?_eq_getElem hi]
  · have hy : xs = [] := List.eq_nil_of_length_eq_zero (by omega)
    subst hy
    cases a with
    | none => rw [run_convert_bytes_nil w src e hsl heu _ _ dst hdu]; rfl
    | some ad =>
      have hl : (loadCells ad 0).run P w = .ok #[] w := run_loadCells_list (P := P) w ad [] (fun j v hj => by simp at hj)
      have hb : (convert src dst (.slice (some ad) 0 cap)).run P w = .ok (.string (strOfNums [])) w := by
        rw [run_convert_bytes_string w src dst e _ _ cap hsl heu hdu, run_bytesToString w _ 0 cap [] (by simpa using hl)]
        rfl
      show ((convert src dst (.slice (some ad) 0 cap)).run P w).andThen _ = _
      rw [hb]
      rfl

theorem sound_makeSlice (hE : EOk P E) (hH : HRel base F0 W0 g h w) (hev : ∀ x, (ev x).rep w (Fr base F0 g h) g h (ρ x)) {t : TypeId} {lo ca : Operand} {te : TY} {bytes : Nat} {kl kc : IntKind} {l c : Int}
    (ht : E.el t = some (te, bytes)) (hl : (ev lo).int? = some (kl, l)) (hc : (ev ca).int? = some (kc, c)) (hq : (decide (0 ≤ l) && (decide (l ≤ c) && decide ((bytes : Int) * c ≤ 281474976710656))) = true)
    (hk : k (.osl te.lay (List.replicate l.toNat te.lay.zero) h.nt) h.fresh = some r) : OpRes P base F0 W0 g h w (do pure (.value (← Instr.makeSlice t (ρ lo) (ρ ca)))) k r := by
  simp only [Bool.and_eq_true, decide_eq_true_eq] at hq
  obtain ⟨h0, hlc, hb⟩ := hq
  obtain ⟨e, i, hu, hte, hi, hby, hby1⟩ := (hE.el t te bytes ht).el
  obtain ⟨i', z, hi', hsz, hz, hzo⟩ := hte.info
  have : i' = i := by rw [hi] at hi'; exact (Option.some.inj hi').symm
  subst this
  have h63 : c ≤ 9223372036854775807 := by
    have hb1 : (1 : Int) ≤ bytes := by omega
    have : 1 * c ≤ (bytes : Int) * c := Int.mul_le_mul_of_nonneg_right hb1 (by omega)
    omega
  have hrun := run_make (P := P) w t e i' z hu hi hz kl kc l c h0 hlc (by rw [hby]; exact hb) h63
  obtain ⟨zs, hzc, hzv⟩ := TY.rep_cells (w := w) (F := Fr base F0 g h) te _ z (TY.ofConst_rep te z _ hzo)
  have hzl := Lay.vals_length _ _ _ hzv
  have hsp := te.lay.size_pos
  have hrows := zero_cells hzv l.toNat
  generalize hcells : madeCells z.cells (c.toNat * i'.size) = cells at hrun
  have hcsz : cells.size = c.toNat * te.lay.size := by rw [← hcells, size_madeCells, hsz]
  have hll : l.toNat ≤ c.toNat := by omega
  have hmul : l.toNat * te.lay.size ≤ c.toNat * te.lay.size := Nat.mul_le_mul_right _ hll
  have hbelow : Below w.heap.size w (w.alloc (.cells cells e)) := (Below.refl _ w).alloc (Nat.le_refl _) _
  obtain ⟨hG, eG⟩ := hH.grow hbelow
  have hnew : (w.alloc (.cells cells e)).heap[w.heap.size]? = some (.cells cells e (0, 0)) := heap_alloc_here
  obtain ⟨h1, h2⟩ := hG.fresh (w.heap.size, l.toNat * te.lay.size, c.toNat * te.lay.size) (fun _ =>
    ⟨hH.hb, fun k hk => by have := hH.rho_lt hk; show g.ρ k ≠ w.heap.size; omega, ⟨cells, e, hnew, by rw [hcsz]; exact Nat.le_refl _⟩,
      fun u hu hlo => by have := hH.tok_lt hu hlo; show (g.τ u).1 ≠ w.heap.size; omega⟩) eG
    (fun o' v' hf hc' _ _ => by have := World.block_lt_of_cell? w ⟨w.heap.size, o', none⟩ hc'; exact absurd this (Nat.lt_irrefl _))
    (fun k b hb => by
      obtain ⟨_, vs, ty', q2, q3⟩ := hH.blk k b hb
      exact ⟨vs, ty', by rw [hbelow.block _ (Array.getElem?_eq_some_iff.1 q2).1]; exact q2, q3⟩)
  refine ⟨_, _, _, _, .value (.slice (some ⟨w.heap.size, 0, none⟩) l.toNat c.toNat), .slice (some ⟨w.heap.size, 0, none⟩) l.toNat c.toNat, hk, ?_, .inl rfl, h1, h2, ?_⟩
  · rw [Sem.run_bind, AV.int?_rep hl (hev lo), AV.int?_rep hc (hev ca), hrun]; rfl
  · refine ⟨_, c.toNat, by rw [List.length_replicate], by rw [List.length_replicate]; exact hll, Nat.lt_succ_self _, fun _ => ⟨w.heap.size, 0, rfl, ?_, fun _ _ => ?_⟩⟩
    · refine Rows.lies (hrows.keeps h2.keeps) (fun j v' hj => ?_)
      have hjl := (List.getElem?_eq_some_iff.1 hj).1
      simp only [List.length_map, List.length_range] at hjl
      refine ⟨?_, fun hb => absurd hb (by have := hH.hb; omega), fun k hk => ?_, fun u hu heq hlo hhi => ?_⟩
      · rw [cell_row hnew, Nat.zero_add, ← hcells]
        rw [List.getElem?_map, List.getElem?_range hjl] at hj
        simp only [Option.map_some, Option.some.injEq] at hj
        unfold madeCells
        rw [Array.getElem?_map, Array.getElem?_range, if_pos (by rw [hsz]; omega)]
        simp only [Option.map_some, Option.some.injEq]
        rw [← hj, hzc]
        simp
      · have := hH.rho_lt hk
        show g.ρ k ≠ w.heap.size
        omega
      · rcases fresh_tok.1 hu with e1 | hu1
        · rw [e1, Gh.tk_same] at hlo
          simp only at hlo
          omega
        · have hne' : u ≠ h.nt := fun e1 => by have := hH.toklt u hu1; omega
          rw [Gh.tk_other hne'] at heq hlo hhi
          have := hH.tok_lt hu1 (by omega)
          omega
    · rw [Gh.tk_same, List.length_replicate]
      simp
end
end Go.Proofs.Ythdjomfkechfoaa.Vx
