/-
  Vx, part v: '[]byte("..")' of a constant: the row is laid and marked in one go; regions that hold such a thing are cuts.
-/
import Derived.Test.YthdjomfkechfoaaVs
import Derived.Lib.SlBytesConst
namespace Go.Proofs.Ythdjomfkechfoaa.Vx
open Go Go.RowKit
set_option linter.unusedSimpArgs false
set_option linter.unusedVariables false

section
variable {R : Type}

/-- The bytes, where two operations lay a constant's row and turn it to its own type. -/
def litOf (E : Env) (tm : Nat → AV) (o1 o2 : Oper) : Option (List Int) :=
  match o1.op, o2.op with
  | .buildSlice t n parts, .convert s t' (.tmp d) =>
    match E.el t with
    | some (.sc (.int .u8), _) =>
      bif (Nat.beq s t && Nat.beq t' t) && ((match o1.dst with | some d' => Nat.beq d' d | none => false) && (o1.guard.isNone && (o2.guard.isNone && Nat.ble n 16777216))) then
        setElems (.sc (.int .u8)) (evalA tm) parts.toList (List.replicate n (0 : Int)) else none
    | _ => none
  | _, _ => none

def litGo (E : Env) (fin : List AV → H → Option R) (K' : AF → H → Option R) (fuel : Nat) (c : AF) (ops : Array Oper) (p : List Nat) (rid : Nat) (k : List AI) : List (Oper × Nat) → (Nat → AV) → H → Option R
  | [], _, _ => none
  | [_], _, _ => none
  | (o, i) :: (o2, i2) :: is, tm, h =>
    match litOf E tm o o2 with
    | some xs => bif dstOk o.dst c.n && dstOk o2.dst c.n then
        run E fin K' fuel true { c with tm := putA (putA tm o.dst .undef) o2.dst (.dat (.sc (.sl (.one (.int .u8)))) xs), todo := .inReg ops is p rid :: k } [] h else none
    | none => bif dstOk o.dst c.n && o.guard.isNone then
        aOp E (site rid i :: c.path) (evalA tm) o h fun v h' => litGo E fin K' fuel c ops p rid k ((o2, i2) :: is) (putA tm o.dst v) h' else none

def litK (E : Env) (fin : List AV → H → Option R) (fuel : Nat) : Nat → AF → H → Option R
  | 0 => fun _ _ => none
  | n + 1 => fun c h =>
    match c.todo with
    | .code p (.region rid ops false) :: k => litGo E fin (litK E fin fuel n) fuel c ops p rid k ops.toList.zipIdx c.tm h
    | _ => none
end

section
variable {R : Type} {P : Program} {E : Env} {base : Nat} {F0 : Nat → Nat → Prop} {W0 : World} {fin : List AV → H → Option R} {Q : R → Value → World → Prop} {f0 : FuncId} {w : World} {g : Gh} {h : H}

/-- A new block with a mark. -/
theorem HRel.newRowM (hH : HRel base F0 W0 g h w) {l : Lay} {xs : List l.den} {vs : List Value} (hr : Rows w (Fr base F0 g h) l xs vs) (ty : TypeId) (fz : Nat × Nat) :
    HRel base F0 W0 g h (w.alloc (.cells vs.toArray ty fz)) ∧ Ext base F0 g h w g h (w.alloc (.cells vs.toArray ty fz)) ∧
    ∀ (i : Nat) (x : l.den), xs[i]? = some x → l.lies (w.alloc (.cells vs.toArray ty fz)) (Fr base F0 g h) x w.heap.size (0 + i * l.size) := by
  obtain ⟨h1, h2⟩ := hH.grow (below_alloc w (.cells vs.toArray ty fz))
  refine ⟨h1, h2, fun i x hx => Rows.lies (hr.keeps h2.keeps) (fun j v hj => ⟨?_, hH.fresh_free (Nat.le_refl _) _⟩) i x hx⟩
  rw [cell_row heap_alloc_here]
  simpa using hj

theorem setElems_length {te : TY} {ev : Operand → AV} : ∀ (parts : List (Nat × Operand)) (xs xs' : List te.den), setElems te ev parts xs = some xs' → xs'.length = xs.length
  | [], xs, xs', hs => by simp only [setElems, Option.some.injEq] at hs; rw [hs]
  | p :: parts, xs, xs', hs => by
    simp only [setElems] at hs
    split at hs
    · cases hs
    · obtain ⟨_, hs⟩ := cond_some hs
      rw [setElems_length parts _ _ hs]; simp

theorem litOf_sound (hE : EOk P E) (hH : HRel base F0 W0 g h w) {tm : Nat → AV} {a : Act} {o1 o2 : Oper} {xs : List Int} (htm : ∀ i, (tm i).rep w (Fr base F0 g h) g h (a.tmps.getD i undef)) (hl : litOf E tm o1 o2 = some xs) {n0 : Nat} (hd : dstOk o1.dst n0 = true) (hn : n0 ≤ a.tmps.size) :
    o1.guard = none ∧ o2.guard = none ∧ ∃ v w1 w2, (execOp a.eval o1).run P w = .ok (.value v) w1 ∧ (execOp (a.put o1.dst v).eval o2).run P w1 = .ok (.value v) w2 ∧
      HRel base F0 W0 g h w2 ∧ Ext base F0 g h w g h w2 ∧ (AV.dat (.sc (.sl (.one (.int .u8)))) xs).rep w2 (Fr base F0 g h) g h v := by
  obtain ⟨dst1, op1, ty1, pos1, after1, guard1⟩ := o1
  obtain ⟨dst2, op2, ty2, pos2, after2, guard2⟩ := o2
  unfold litOf at hl
  split at hl
  · rename_i t n parts s t' d heq1 heq2
    simp only at heq1 heq2
    subst heq1
    subst heq2
    split at hl
    · rename_i by' hel
      obtain ⟨hc, hl2⟩ := cond_some hl
      simp only [Bool.and_eq_true, Option.isNone_iff_eq_none] at hc
      obtain ⟨⟨hs, ht'⟩, hdst, hg1, hg2, hle⟩ := hc
      have hs : s = t := Nat.eq_of_beq_eq_true hs
      have ht' : t' = t := Nat.eq_of_beq_eq_true ht'
      subst hs
      subst ht'
      have hdst1 : dst1 = some d := by
        cases dst1 with
        | none => cases hdst
        | some d' => simp only at hdst; rw [Nat.eq_of_beq_eq_true hdst]
      subst hdst1
      refine ⟨hg1, hg2, ?_⟩
      have hev := eval_rep htm
      obtain ⟨e, i, hu, hte, hi, _⟩ := (hE.el _ _ by' hel).el
      obtain ⟨z, hz, hzr, _⟩ := zeroValue_run hte w (Fr base F0 g h)
      obtain ⟨zs, hzc, hzv⟩ := TY.rep_cells (.sc (.int .u8)) _ z hzr
      obtain ⟨cs', hf, hr⟩ := setElems_fill (te := .sc (.int .u8)) hev parts.toList _ xs _ (zero_cells hzv n) hl2
      have hlen : xs.length = n := by
        have := setElems_length (te := .sc (.int .u8)) parts.toList _ _ hl2
        exact this.trans List.length_replicate
      obtain ⟨h1, h2, h3⟩ := hH.newRowM hr e (cs'.toArray.size, cs'.toArray.size + 1)
      have hsz' : ¬ (n * (TY.sc (.int .u8)).lay.size > 2 ^ 24) := by
        have := Nat.le_of_ble_eq_true hle
        show ¬ (n * 1 > 2 ^ 24)
        omega
      have hrun := buildSlice_run (P := P) (w := w) hu hte hsz' hz hzc (parts := parts.map fun (i, x) => (i, a.eval x)) (cells := cs'.toArray) (by
        rw [show (parts.map fun (i, x) => (i, a.eval x)).toList = parts.toList.map fun p => (p.1, a.eval p.2) by simp]; exact hf)
      have heu : P.underlying e = some (.int .u8) := by
        obtain ⟨dd, hdd, hdd2⟩ := hte.desc
        cases dd <;> simp [TY.desc, CT.desc] at hdd2
        rename_i kk
        have : kk = .u8 := (kbeq_eq hdd2).symm
        rw [hdd, this]
      have hconv := Lib.run_convert_bytes_const (P := P) w _ e cs'.toArray n n hu heu
      refine ⟨.slice (some ⟨w.heap.size, 0, none⟩) n n, w.alloc (.cells cs'.toArray e), _, ?_, ?_, h1, h2, ?_⟩
      · show (do pure (Next.value (← Instr.buildSlice _ n (parts.map fun (i, x) => (i, a.eval x)))) : Sem Next).run P w = _
        rw [Sem.run_bind, hrun]; rfl
      · have hdn : d < a.tmps.size := Nat.lt_of_lt_of_le (by simpa [dstOk, Nat.blt_eq] using hd) hn
        have hev2 : (a.put (some d) (.slice (some ⟨w.heap.size, 0, none⟩) n n)).eval (.tmp d) = .slice (some ⟨w.heap.size, 0, none⟩) n n := by
          simp [Act.put, Act.eval, hdn]
        show (do pure (Next.value (← convert _ _ ((a.put (some d) (.slice (some ⟨w.heap.size, 0, none⟩) n n)).eval (.tmp d)))) : Sem Next).run P _ = _
        rw [hev2, Sem.run_bind, hconv]; rfl
      · exact ⟨_, n, by rw [hlen], by rw [hlen]; exact Nat.le_refl _, fun _ => ⟨w.heap.size, 0, rfl, h3⟩⟩
    · cases hl
  · cases hl

theorem litGo_sound (hE : EOk P E) (hm : P.follows .mixedOrders = true) (hfin : FinOk base F0 W0 fin Q) {K' : AF → H → Option R} (hK : CutOk P base F0 W0 f0 K' Q) {fuel : Nat} {c : AF} {ops : Array Oper} {p : List Nat} {rid : Nat} {k : List AI} (hcf : c.f = f0) :
    ∀ (l : List (Oper × Nat)) (tm : Nat → AV) (h : H) (r : R), litGo E fin K' fuel c ops p rid k l tm h = some r →
    ∀ (g : Gh) (w : World) (a : Act) (cs0 : List Frame), HRel base F0 W0 g h w → FR P w (Fr base F0 g h) g h { c with tm := tm, todo := .inReg ops l p rid :: k } a →
      Lands P f0 (Q r) cs0 (lone (frameOf { c with tm := tm, todo := .inReg ops l p rid :: k } a) cs0 w)
  | [], tm, h, r, hr => by simp [litGo] at hr
  | [_], tm, h, r, hr => by simp [litGo] at hr
  | (o, i) :: (o2, i2) :: is, tm, h, r, hr => by
    intro g w a cs0 hH hF
    have hmem : ∀ j ∈ ((o, i) :: (o2, i2) :: is), ops[j.2]? = some j.1 := by
      obtain ⟨_, body', _, _, _, hp⟩ := hF.fn
      exact fun j hj => hp (.inReg ops ((o, i) :: (o2, i2) :: is) p rid) (List.mem_cons_self ..) j.1 j.2 hj
    have ho : ops[i]? = some o := hmem (o, i) (List.mem_cons_self ..)
    have ho2 : ops[i2]? = some o2 := hmem (o2, i2) (List.mem_cons_of_mem _ (List.mem_cons_self ..))
    have hpath : ∀ (l' : List (Oper × Nat)), (∀ j ∈ l', j ∈ ((o, i) :: (o2, i2) :: is)) → ∀ body, (∀ ai ∈ (AI.inReg ops ((o, i) :: (o2, i2) :: is) p rid :: k), PathOk body ai) → ∀ ai ∈ AI.inReg ops l' p rid :: k, PathOk body ai := by
      intro l' hl' body hb ai hai
      rcases List.mem_cons.1 hai with e | hai
      · subst e
        exact fun o' i' hm => hb (.inReg ops ((o, i) :: (o2, i2) :: is) p rid) (List.mem_cons_self ..) o' i' (hl' _ hm)
      · exact hb ai (List.mem_cons_of_mem _ hai)
    simp only [litGo] at hr
    split at hr
    · rename_i xs hxs
      obtain ⟨hdd, hr⟩ := cond_some hr
      simp only [Bool.and_eq_true] at hdd
      obtain ⟨hg1, hg2, v, w1, w2, hr1, hr2, hH2, hX2, hv⟩ := litOf_sound hE hH hF.tm hxs hdd.1 hF.size
      have hw1 : Region.wanted o (yielded ops a.tmps) = true := by unfold Region.wanted; rw [hg1]
      have hw2 : Region.wanted o2 (yielded ops (a.put o.dst v).tmps) = true := by unfold Region.wanted; rw [hg2]
      have hst1 := step_value (P := P) (b := bF c.f) (a := a) (rest := i2 :: is.map (·.2)) (k := k.map AI.conc) (cs := cs0) ho hw1 hr1 (.inl rfl)
      have hst2 := step_value (P := P) (b := bF c.f) (a := a.put o.dst v) (rest := is.map (·.2)) (k := k.map AI.conc) (cs := cs0) ho2 hw2 hr2 (.inl rfl)
      refine Lands.head hst1 (Lands.head hst2 ?_)
      have hs1 : c.n ≤ (a.put o.dst v).tmps.size := by rw [put_size]; exact hF.size
      have := run_sound hE hm hfin hK fuel true _ [] h r hr hcf g w2 ((a.put o.dst v).put o2.dst v) [] cs0 hH2
        ⟨putA_rep hdd.2 hs1 (putA_rep hdd.1 hF.size (fun j => AV.rep_ext hX2 _ _ (hF.tm j)) trivial) hv, by rw [put_size]; exact hs1, by rw [put_defers, put_defers]; exact hF.defers,
          (hF.todo (hpath is fun j hj => List.mem_cons_of_mem _ (List.mem_cons_of_mem _ hj))).fn⟩ rfl
      exact this
    · obtain ⟨hdd, hr⟩ := cond_some hr
      simp only [Bool.and_eq_true, Option.isNone_iff_eq_none] at hdd
      obtain ⟨hdst, hg⟩ := hdd
      have hw : Region.wanted o (yielded ops a.tmps) = true := by unfold Region.wanted; rw [hg]
      obtain ⟨v, h', g', w', nx, u, hk, hrun, hnx, hH', eH', hv⟩ := aOp_sound (P := P) hE hH (eval_rep hF.tm) o hr
      have hst := step_value (P := P) (b := bF c.f) (a := a) (rest := i2 :: is.map (·.2)) (k := k.map AI.conc) (cs := cs0) ho hw hrun hnx
      refine Lands.head hst ?_
      exact litGo_sound hE hm hfin hK hcf ((o2, i2) :: is) _ h' r hk g' w' (a.put o.dst u) cs0 hH'
        ⟨putA_rep hdst hF.size (fun j => AV.rep_ext eH' _ _ (hF.tm j)) hv, by rw [put_size]; exact hF.size, by rw [put_defers]; exact hF.defers,
          (hF.todo (hpath _ fun j hj => List.mem_cons_of_mem _ hj)).fn⟩

theorem litK_ok (hE : EOk P E) (hm : P.follows .mixedOrders = true) (hfin : FinOk base F0 W0 fin Q) (fuel : Nat) : ∀ n, CutOk P base F0 W0 f0 (litK E fin fuel n) Q
  | 0 => fun c h r hr => by cases hr
  | n + 1 => fun c h r hr g w a cs0 hcf hH hF => by
    have ih := litK_ok hE hm hfin fuel n
    simp only [litK] at hr
    split at hr
    · rename_i p rid ops k htodo
      have hfr : frameOf c a = (bF c.f).at a (.code (.region rid ops false) :: k.map AI.conc) := by unfold frameOf; rw [htodo]; rfl
      have hwf0 : ∀ (o : Oper) (i : Nat), (o, i) ∈ ops.toList.zipIdx → ops[i]? = some o := fun o i hm => by
        have := List.mem_zipIdx_iff_getElem?.1 hm
        simpa using this
      have hl : (ops.toList.zipIdx).map (·.2) = List.range ops.size := by
        rw [show (fun x : Oper × Nat => x.2) = Prod.snd from rfl, List.zipIdx_map_snd]
        simp [List.range_eq_range']
      have hst : step P (lone (frameOf c a) cs0 w) = .next (lone ((bF c.f).at a ((AI.inReg ops ops.toList.zipIdx p rid :: k).map AI.conc)) cs0 w) := by
        rw [hfr]
        simp only [List.map_cons, AI.conc]
        rw [hl]
        exact step_region
      refine Lands.head hst ?_
      have hF' : FR P w (Fr base F0 g h) g h { c with todo := .inReg ops ops.toList.zipIdx p rid :: k } a := hF.todo fun body hb ai hai => by
        rcases List.mem_cons.1 hai with e | hai
        · subst e; exact hwf0
        · exact hb ai (by rw [htodo]; exact List.mem_cons_of_mem _ hai)
      exact litGo_sound hE hm hfin ih hcf _ c.tm h r hr g w a cs0 hH hF'
    · cases hr
end

section
variable {P : Program} {E : Env} {f : FuncId} {b : Body}

theorem contract_lit (hE : EOk P E) (hm : P.follows .mixedOrders = true) (hb : BodyOk P f b) (s : Summ) (hmk : s.out = resList s.rs) (fuel m : Nat)
    (hrun : ∀ x r, s.F x = some r → ∃ N, run E (fin0 s.rs) (litK E (fin0 s.rs) fuel m) N true { f := f, n := b.ntmps, path := [], res := b.results, tm := argTm (resList s.ps x), todo := [.code [] b.code] } [] H.empty = some r) :
    Contract P f s := by
  refine ⟨hb.1, fun x r hF w F0 vs hvs cs0 => ?_⟩
  obtain ⟨N, hr⟩ := hrun x r hF
  let Q : Den s.rs → Value → World → Prop := fun r v w' => ∃ us, v = retVal us ∧ (∀ g' h', AVs.rep w' (fun B o => B < w.heap.size → F0 B o) g' h' (s.out r) us) ∧ Below w.heap.size w w'
  have hfin : FinOk w.heap.size F0 w (fin0 s.rs) Q := by
    intro as h r' ha g w' us hH hu
    refine ⟨us, rfl, fun g' h' => ?_, hH.below⟩
    rw [hmk]
    exact resList_rep s.rs r' us (DenRep.keeps (fun B o v hf hc => ⟨hc, hf.1⟩) _ _ _ (argsTo_rep s.rs as us r' ha hu))
  have hK := litK_ok (f0 := f) hE hm hfin fuel m
  obtain ⟨_, fn, hfn, hbody, hnt, hres⟩ := hb
  let g : Gh := ⟨fun _ => 0, fun _ => (0, 0, 0)⟩
  have hH : HRel w.heap.size F0 w g H.empty w := ⟨Below.refl _ _, Nat.le_refl _, fun k b hb => (by cases hb), fun k k' hk => (by cases hk), fun t ht => (by cases ht), fun t t' ht => (by cases ht), fun t ht => (by cases ht)⟩
  have hargs : AVs.rep w (Fr w.heap.size F0 g H.empty) g H.empty (resList s.ps x) vs := by
    refine resList_rep s.ps x vs (DenRep.keeps (fun B o v hf hc => ⟨hc, fun _ => hf, fun k hk => (by cases hk), fun t ht => (by cases ht)⟩) _ _ _ hvs)
  have hF' : FR P w (Fr w.heap.size F0 g H.empty) g H.empty { f := f, n := b.ntmps, path := [], res := b.results, tm := argTm (resList s.ps x), todo := [.code [] b.code] }
      { tmps := vs.toArray ++ Array.replicate (fn.ntmps - vs.length) undef, defers := [] } :=
    ⟨argTm_rep _ vs hargs, by simp; omega, rfl, fn, b.code, hfn, hres, hbody, fun ai hai => by
      rcases List.mem_cons.1 hai with e | hai
      · subst e; rfl
      · cases hai⟩
  have hl := run_sound hE hm hfin hK N true _ [] _ r hr rfl g w _ [] cs0 hH hF' rfl
  have henter : Frame.enter P f vs.toArray .normal = (bF f).at { tmps := vs.toArray ++ Array.replicate (fn.ntmps - vs.length) undef, defers := [] } [.code b.code] := by
    simp [Frame.enter, Frame.at, hfn, hbody, bF]
  obtain ⟨v, w', fr, ⟨us, hv, hd, hbel⟩, hst, hfr, hlv⟩ := hl
  exact ⟨.returned v, w', fr, ⟨us, by rw [hv], hd, hbel⟩, by rw [henter]; exact hst, hfr, hlv⟩
end
end Go.Proofs.Ythdjomfkechfoaa.Vx
