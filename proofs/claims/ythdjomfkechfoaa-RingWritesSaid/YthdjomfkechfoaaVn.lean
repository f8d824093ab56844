/-
  Vx, part n: a run of the executor is a run of the machine.
-/
import Derived.Test.YthdjomfkechfoaaVm
namespace Go.Proofs.Ythdjomfkechfoaa.Vx
open Go Go.RowKit
set_option linter.unusedSimpArgs false
set_option linter.unusedVariables false

def AI.conc : AI → Item
  | .code _ c => .code c
  | .inLoop _ c => .inLoop c
  | .inBlock _ id => .inBlock id
  | .inReg ops rest _ _ => .inRegion ops (rest.map (·.2))

def child : Nat → Code → Option Code
  | 0, .seq a _ => some a
  | 0, .cond _ a _ => some a
  | 0, .block _ b => some b
  | 0, .loop b => some b
  | 1, .seq _ b => some b
  | 1, .cond _ _ b => some b
  | _, _ => none

def codeAt (body : Code) : List Nat → Option Code
  | [] => some body
  | i :: p => (codeAt body p).bind (child i)

def PathOk (body : Code) : AI → Prop
  | .code p c => codeAt body p = some c
  | .inLoop p c => codeAt body p = some (.loop c)
  | .inBlock p id => ∃ b, codeAt body p = some (.block id b)
  | .inReg ops rest _ _ => ∀ (o : Oper) (i : Nat), (o, i) ∈ rest → ops[i]? = some o

def bF (f : FuncId) : Frame := { (default : Frame) with fn := f, kind := .normal }

/-- A frame of the executor's, and the machine's. -/
structure FR (P : Program) (w : World) (F : Nat → Nat → Prop) (g : Gh) (h : H) (c : AF) (a : Act) : Prop where
  tm : ∀ i, (c.tm i).rep w F g h (a.tmps.getD i undef)
  size : c.n ≤ a.tmps.size
  defers : a.defers = []
  fn : ∃ fn body, P.funcs[c.f]? = some fn ∧ fn.results = c.res.toArray ∧ fn.body = some body ∧ ∀ ai ∈ c.todo, PathOk body ai

def FRs (P : Program) (w : World) (F : Nat → Nat → Prop) (g : Gh) (h : H) : List AF → List Act → Prop
  | [], as => as = []
  | c :: cs, as => ∃ a as', as = a :: as' ∧ FR P w F g h c a ∧ FRs P w F g h cs as'

def frameOf (c : AF) (a : Act) : Frame := (bF c.f).at a (c.todo.map AI.conc)

def framesOf : List AF → List Act → List Frame
  | c :: cs, a :: as => frameOf c a :: framesOf cs as
  | _, _ => []

def bot : AF → List AF → Nat
  | c, [] => c.f
  | _, c :: cs => bot c cs

/-- From here the bottom function comes back, and what it hands back is as wanted. -/
def Lands (P : Program) (f : FuncId) (Q : Value → World → Prop) (cs0 : List Frame) (m : Machine) : Prop :=
  ∃ v w' fr, Q v w' ∧ Steps P m (lone fr cs0 w') ∧ fr.fn = f ∧ fr.leaving P w' (.returned v)

theorem Lands.head {P : Program} {f : FuncId} {Q : Value → World → Prop} {cs0 : List Frame} {m m' : Machine} (hs : step P m = .next m') (h : Lands P f Q cs0 m') : Lands P f Q cs0 m :=
  let ⟨v, w', fr, q, s, r⟩ := h; ⟨v, w', fr, q, .head hs s, r⟩

theorem Lands.steps {P : Program} {f : FuncId} {Q : Value → World → Prop} {cs0 : List Frame} {m m' : Machine} (hs : Steps P m m') (h : Lands P f Q cs0 m') : Lands P f Q cs0 m :=
  let ⟨v, w', fr, q, s, r⟩ := h; ⟨v, w', fr, q, hs.trans s, r⟩

section
variable {R : Type} {P : Program} {E : Env} {base : Nat} {F0 : Nat → Nat → Prop} {W0 : World} {g g' : Gh} {h h' : H} {w w' : World}

theorem FR.ext (e : Ext base F0 g h w g' h' w') {c : AF} {a : Act} (hf : FR P w (Fr base F0 g h) g h c a) : FR P w' (Fr base F0 g' h') g' h' c a :=
  ⟨fun i => AV.rep_ext e _ _ (hf.tm i), hf.size, hf.defers, hf.fn⟩

theorem FRs.ext (e : Ext base F0 g h w g' h' w') : ∀ {cs : List AF} {as : List Act}, FRs P w (Fr base F0 g h) g h cs as → FRs P w' (Fr base F0 g' h') g' h' cs as
  | [], _, hf => hf
  | c :: cs, _, hf => by
    obtain ⟨a, as', he, h1, h2⟩ := hf
    exact ⟨a, as', he, h1.ext e, FRs.ext e h2⟩

/-- An operation that yields a value. -/
theorem step_value {b : Frame} {a : Act} {ops : Array Oper} {i : Nat} {rest : List Nat} {k : List Item} {cs : List Frame} {o : Oper} {nx : Next} {u : Value} (ho : ops[i]? = some o)
    (hw : Region.wanted o (yielded ops a.tmps) = true) (hr : (execOp a.eval o).run P w = .ok nx w') (hn : nx = .value u ∨ (nx = .skip ∧ u = undef)) :
    step P (lone (b.at a (.inRegion ops (i :: rest) :: k)) cs w) = .next (lone (b.at (a.put o.dst u) (.inRegion ops rest :: k)) cs w') := by
  have hg := stepG_op (P := P) (b := b) (k := k) (cs := cs) (w := w) (rest := rest) ho hw
  have hfin : ∀ v, (b.at a (.inRegion ops (i :: rest) :: k)).finish v = b.at (a.put o.dst v) (.inRegion ops rest :: k) := by
    intro v; rw [Frame.finish_at, ho]; rfl
  rcases hn with rfl | ⟨rfl, rfl⟩
  · refine step_lone_go ?_
    rw [hg, ← hfin]; simp [stepG.apply, hr]
  · refine step_lone_go ?_
    rw [hg, ← hfin]; simp [stepG.apply, hr]

theorem step_enter {b : Frame} {a : Act} {ops : Array Oper} {i : Nat} {rest : List Nat} {k : List Item} {cs : List Frame} {o : Oper} {f : FuncId} {args : Array Value} (ho : ops[i]? = some o)
    (hw : Region.wanted o (yielded ops a.tmps) = true) (hr : (execOp a.eval o).run P w = .ok (.enter f args) w') :
    step P (lone (b.at a (.inRegion ops (i :: rest) :: k)) cs w) = .next (lone (Frame.enter P f args .normal) (b.at a (.inRegion ops (i :: rest) :: k) :: cs) w') := by
  have hg := stepG_op (P := P) (b := b) (k := k) (cs := cs) (w := w) (rest := rest) ho hw
  exact step_lone_go (by rw [hg]; simp [stepG.apply, hr, Frame.at])

theorem putA_rep {w : World} {F : Nat → Nat → Prop} {tm : Nat → AV} {a : Act} {n : Nat} {dst : Option Nat} {v : AV} {u : Value} (hd : dstOk dst n = true) (hn : n ≤ a.tmps.size)
    (htm : ∀ i, (tm i).rep w F g h (a.tmps.getD i undef)) (hv : v.rep w F g h u) : ∀ i, (putA tm dst v i).rep w F g h ((a.put dst u).tmps.getD i undef) := by
  intro i
  cases dst with
  | none => exact htm i
  | some d =>
    have hd' : d < n := by simpa [dstOk, Nat.blt_eq] using hd
    have hlt : d < a.tmps.size := by omega
    by_cases e : i = d
    · subst e
      simp [putA, Nat.beq_refl, Act.put, Array.getD_eq_getD_getElem?, hlt, hv]
    · have hb : Nat.beq i d = false := by
        cases hx : Nat.beq i d
        · rfl
        · exact absurd (Nat.eq_of_beq_eq_true hx) e
      simp only [putA, hb, cond_false, Act.put, Array.getD_eq_getD_getElem?, Array.getElem?_setIfInBounds_ne (Ne.symm e)]
      have := htm i
      rwa [Array.getD_eq_getD_getElem?] at this

theorem put_size {a : Act} {dst : Option Nat} {u : Value} : (a.put dst u).tmps.size = a.tmps.size := by cases dst <;> simp [Act.put]
theorem put_defers {a : Act} {dst : Option Nat} {u : Value} : (a.put dst u).defers = a.defers := by cases dst <;> rfl

theorem eval_rep {w : World} {F : Nat → Nat → Prop} {tm : Nat → AV} {a : Act} (htm : ∀ i, (tm i).rep w F g h (a.tmps.getD i undef)) : ∀ x, (evalA tm x).rep w F g h (a.eval x)
  | .tmp t => htm t
  | .const v => by
    cases v <;> rfl
  | .func f => ⟨[], rfl, rfl⟩
  | .global _ => trivial

theorem callFunc_run {f : FuncId} {args : Array Value} (h : CallOk P f) (w : World) : (callFunc f args).run P w = .ok (.enter f args) w := by
  obtain ⟨fn, hf, hn, hb⟩ := h
  obtain ⟨c, hc⟩ := Option.isSome_iff_exists.1 hb
  have hn' : ¬ fn.name = "runtime.NumGoroutine" := by simpa using hn
  simp [callFunc, hf, hn', hc]

theorem call_run {w : World} {F : Nat → Nat → Prop} {ev : Operand → AV} {ρ : Operand → Value} (hev : ∀ x, (ev x).rep w F g h (ρ x)) {o : Oper} {f : Operand} {args : Array Operand} {ats : Array TypeId} {fid : Nat} {caps : List AV}
    (ho : o.op = .call ⟨.value f, args, ats⟩) (hf : ev f = .fn fid caps) (hc : CallOk P fid) :
    ∃ us : List Value, (execOp ρ o).run P w = .ok (.enter fid us.toArray) w ∧ AVs.rep w F g h (args.toList.map ev ++ caps) us := by
  have hfr := hev f
  rw [hf] at hfr
  obtain ⟨cs, hv, hcs⟩ := hfr
  refine ⟨args.toList.map ρ ++ cs, ?_, AVs.rep_append _ _ (AVs.rep_map ev ρ hev args.toList) _ _ hcs⟩
  unfold execOp
  rw [ho]
  show (do let d ← resolve ρ ⟨.value f, args, ats⟩ o.type; invoke d.target d.args : Sem Next).run P w = _
  have hr : (resolve ρ ⟨.value f, args, ats⟩ o.type).run P w = .ok { target := .fn (.func fid) cs.toArray, args := #[] ++ args.map ρ } w := by
    show (Deferred.ofValue (ρ f) (args.map ρ)).run P w = _
    rw [hv]
    rfl
  rw [Sem.run_bind, hr, Result.andThen_ok]
  show (callFunc fid ((#[] ++ args.map ρ) ++ cs.toArray)).run P w = _
  rw [callFunc_run hc]
  congr 2
  apply Array.ext'
  simp

theorem argsTo_rep {w : World} {F : Nat → Nat → Prop} : (ts : List TY) → (as : List AV) → (us : List Value) → (x : Den ts) → argsTo ts as = some x → AVs.rep w F g h as us → DenRep w F ts x us
  | [], [], us, x, _, hr => hr
  | [], _ :: _, us, x, hx, hr => by simp [argsTo] at hx
  | _ :: _, [], us, x, hx, hr => by simp [argsTo] at hx
  | t :: ts, a :: as, us, x, hx, hr => by
    obtain ⟨u, us', rfl, h1, h2⟩ := hr
    simp only [argsTo] at hx
    obtain ⟨y, hy, hx⟩ := Option.bind_eq_some_iff.1 hx
    obtain ⟨ys, hys, hx⟩ := Option.map_eq_some_iff.1 hx
    subst hx
    exact ⟨u, us', rfl, AV.to_rep hy h1, argsTo_rep ts as us' ys hys h2⟩

theorem DenRep.keeps {w w' : World} {F F' : Nat → Nat → Prop} (hk : Keeps w F w' F') : (ts : List TY) → (x : Den ts) → (us : List Value) → DenRep w F ts x us → DenRep w' F' ts x us
  | [], _, _, hr => hr
  | t :: ts, x, _, hr => by
    obtain ⟨u, us', rfl, h1, h2⟩ := hr
    exact ⟨u, us', rfl, TY.rep_keeps hk t _ _ h1, DenRep.keeps hk ts _ _ h2⟩

theorem resList_rep {w : World} {F : Nat → Nat → Prop} : (ts : List TY) → (x : Den ts) → (us : List Value) → DenRep w F ts x us → AVs.rep w F g h (resList ts x) us
  | [], _, _, hr => hr
  | t :: ts, x, _, hr => by
    obtain ⟨u, us', rfl, h1, h2⟩ := hr
    exact ⟨u, us', rfl, h1, resList_rep ts x.2 us' h2⟩

theorem one_rep {w : World} {F : Nat → Nat → Prop} {vs : List AV} {us : List Value} (hr : AVs.rep w F g h vs us) : (one vs).rep w F g h (retVal us) := by
  match vs, us, hr with
  | [], us, hr =>
    have : us = [] := hr
    subst this
    exact ⟨[], rfl, rfl⟩
  | [v], us, hr =>
    obtain ⟨u, us', rfl, h1, h2⟩ := hr
    have : us' = [] := h2
    subst this
    exact h1
  | v :: v' :: vs, us, hr =>
    obtain ⟨u, us', rfl, h1, h2⟩ := hr
    obtain ⟨u', us'', rfl, h3, h4⟩ := h2
    exact ⟨u :: u' :: us'', rfl, u, u' :: us'', rfl, h1, u', us'', rfl, h3, h4⟩

theorem run_mapM {α β : Type} {f : α → Sem β} {w : World} : ∀ {l : List α} {r : List β}, l.length = r.length → (∀ (i : Nat) (a : α) (b : β), l[i]? = some a → r[i]? = some b → (f a).run P w = .ok b w) → (l.mapM f).run P w = .ok r w
  | [], [], _, _ => rfl
  | [], _ :: _, h, _ => by simp at h
  | _ :: _, [], h, _ => by simp at h
  | a :: l, b :: r, h, hp => by
    have h1 := hp 0 a b rfl rfl
    have ih := run_mapM (f := f) (l := l) (r := r) (w := w) (by simpa using h) (fun i a b ha hb => hp (i + 1) a b (by simpa using ha) (by simpa using hb))
    simp [List.mapM_cons, h1, ih]

def resSem (tmps : Array Value) : ResultVar → Sem Value
  | .tmp t => pure (tmps.getD t undef)
  | .cell a t => do loadVar t (← asAddr (tmps.getD a undef))

theorem results_eq (fn : Func) (tmps : Array Value) : results fn tmps = (do let vs ← fn.results.mapM (resSem tmps); pure (if h : vs.size = 1 then vs[0] else .tuple vs)) := by
  unfold results
  congr 1

theorem resVals_sound (hE : EOk P E) (hH : HRel base F0 W0 g h w) {tm : Nat → AV} {a : Act} (htm : ∀ i, (tm i).rep w (Fr base F0 g h) g h (a.tmps.getD i undef)) :
    ∀ (rs : List ResultVar) (vs : List AV), resVals E tm h rs = some vs →
    ∃ us : List Value, us.length = rs.length ∧ AVs.rep w (Fr base F0 g h) g h vs us ∧
      ∀ (i : Nat) (x : ResultVar) (u : Value), rs[i]? = some x → us[i]? = some u → (resSem a.tmps x).run P w = .ok u w
  | [], vs, hs => by
    simp only [resVals, Option.some.injEq] at hs
    subst hs
    exact ⟨[], rfl, rfl, fun i x u hx => by simp at hx⟩
  | .tmp t :: rs, vs, hs => by
    simp only [resVals] at hs
    obtain ⟨vs', hv, hs⟩ := Option.map_eq_some_iff.1 hs
    subst hs
    obtain ⟨us, hl, hr, hp⟩ := resVals_sound hE hH htm rs vs' hv
    refine ⟨a.tmps.getD t undef :: us, by simp [hl], ⟨_, us, rfl, htm t, hr⟩, fun i x u hx hu => ?_⟩
    cases i with
    | zero => cases hx; cases hu; rfl
    | succ i => exact hp i x u (by simpa using hx) (by simpa using hu)
  | .cell b t :: rs, vs, hs => by
    simp only [resVals] at hs
    split at hs
    · rename_i ty q off hty hb
      split at hs
      · rename_i blk hblk
        split at hs
        · rename_i y hy
          obtain ⟨vs', hv, hs⟩ := Option.map_eq_some_iff.1 hs
          subst hs
          obtain ⟨us, hl, hr, hp⟩ := resVals_sound hE hH htm rs vs' hv
          have hbr := htm b
          rw [hb] at hbr
          obtain ⟨hptr, _⟩ := hbr
          obtain ⟨_, cs, tt, hheap, hvals⟩ := hH.blk q blk hblk
          obtain ⟨hle, hsub⟩ := Lay.get_vals blk.lay blk.x off ty.lay y hy cs hvals
          obtain ⟨u, hu, hur⟩ := loadVar_run (P := P) (hE.ty t ty hty) (B := g.ρ q) (o := off) hsub (fun j v hj => by
            have := drop_take_get hj
            rw [cell_row hheap]; simpa using this)
          refine ⟨u :: us, by simp [hl], ⟨u, us, rfl, hur, hr⟩, fun i x u' hx hu' => ?_⟩
          cases i with
          | zero =>
            cases hx
            cases hu'
            simp only [resSem, Sem.run_bind]
            rw [hptr]
            simp [asAddr, hu]
          | succ i => exact hp i x u' (by simpa using hx) (by simpa using hu')
        · cases hs
      · cases hs
    · cases hs

theorem results_run {fn : Func} {a : Act} {rs : List ResultVar} {us : List Value} (hfn : fn.results = rs.toArray) (hl : us.length = rs.length)
    (hp : ∀ (i : Nat) (x : ResultVar) (u : Value), rs[i]? = some x → us[i]? = some u → (resSem a.tmps x).run P w = .ok u w) :
    (results fn a.tmps).run P w = .ok (retVal us) w := by
  rw [results_eq, hfn, Sem.run_bind, List.mapM_toArray, Sem.run_map, run_mapM hl.symm hp]
  simp only [Result.andThen_ok, Sem.run_pure]
  congr 1
  match us with
  | [] => rfl
  | [u] => rfl
  | u :: u' :: us => simp [retVal]

end
end Go.Proofs.Ythdjomfkechfoaa.Vx
