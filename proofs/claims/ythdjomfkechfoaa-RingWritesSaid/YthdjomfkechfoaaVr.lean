/-
  Vx, part r: a run of the executor is a run of the machine.
-/
import Derived.Test.YthdjomfkechfoaaVq
namespace Go.Proofs.Ythdjomfkechfoaa.Vx
open Go Go.RowKit
set_option linter.unusedSimpArgs false
set_option linter.unusedVariables false

section
variable {R : Type} {P : Program} {E : Env} {base : Nat} {F0 : Nat → Nat → Prop} {W0 : World} {fin : List AV → H → Option R} {K : AF → H → Option R} {Q : R → Value → World → Prop} {f0 : FuncId}

/-- What the end asks. -/
def FinOk (base : Nat) (F0 : Nat → Nat → Prop) (W0 : World) (fin : List AV → H → Option R) (Q : R → Value → World → Prop) : Prop :=
  ∀ vs h r, fin vs h = some r → ∀ g w us, HRel base F0 W0 g h w → AVs.rep w (Fr base F0 g h) g h vs us → Q r (retVal us) w

/-- What a cut asks. -/
def CutOk (P : Program) (base : Nat) (F0 : Nat → Nat → Prop) (W0 : World) (f0 : FuncId) (K : AF → H → Option R) (Q : R → Value → World → Prop) : Prop :=
  ∀ c h r, K c h = some r → ∀ g w a cs0, c.f = f0 → HRel base F0 W0 g h w → FR P w (Fr base F0 g h) g h c a → Lands P f0 (Q r) cs0 (lone (frameOf c a) cs0 w)

theorem aExit_conc {id : Nat} : ∀ {k k' : List AI}, aExit id k = some k' → exitTo id (k.map AI.conc) = some (k'.map AI.conc) ∧ ∀ x ∈ k', x ∈ k
  | [], k', h => by simp [aExit] at h
  | .inBlock p j :: k, k', h => by
    simp only [aExit] at h
    cases hj : Nat.beq j id
    · simp only [hj, cond_false] at h
      obtain ⟨h1, h2⟩ := aExit_conc h
      have hne : (j == id) = false := by
        cases hx : (j == id)
        · rfl
        · have : j = id := by simpa using hx
          subst this; simp [Nat.beq_refl] at hj
      exact ⟨by simp [AI.conc, exitTo, hne, h1], fun x hx => List.mem_cons_of_mem _ (h2 x hx)⟩
    · simp only [hj, cond_true, Option.some.injEq] at h
      subst h
      have : j = id := Nat.eq_of_beq_eq_true hj
      subst this
      exact ⟨by simp [AI.conc, exitTo], fun x hx => List.mem_cons_of_mem _ hx⟩
  | .code p c :: k, k', h => by
    obtain ⟨h1, h2⟩ := aExit_conc (k := k) h
    exact ⟨by simp [AI.conc, exitTo, h1], fun x hx => List.mem_cons_of_mem _ (h2 x hx)⟩
  | .inLoop p c :: k, k', h => by
    obtain ⟨h1, h2⟩ := aExit_conc (k := k) h
    exact ⟨by simp [AI.conc, exitTo, h1], fun x hx => List.mem_cons_of_mem _ (h2 x hx)⟩
  | .inReg ops l p rid :: k, k', h => by
    obtain ⟨h1, h2⟩ := aExit_conc (k := k) h
    exact ⟨by simp [AI.conc, exitTo, h1], fun x hx => List.mem_cons_of_mem _ (h2 x hx)⟩

/-- The frame goes on with other work. -/
theorem FR.todo {w : World} {F : Nat → Nat → Prop} {g : Gh} {h : H} {c : AF} {a : Act} (hf : FR P w F g h c a) {l : List AI} (hl : ∀ body, (∀ ai ∈ c.todo, PathOk body ai) → ∀ ai ∈ l, PathOk body ai) :
    FR P w F g h { c with todo := l } a :=
  let ⟨fn, body, h1, h2, h3, h4⟩ := hf.fn
  ⟨hf.tm, hf.size, hf.defers, fn, body, h1, h2, h3, hl body h4⟩

theorem argTm_rep {w : World} {F : Nat → Nat → Prop} {g : Gh} {h : H} {m : Nat} : ∀ (as : List AV) (us : List Value), AVs.rep w F g h as us → ∀ i, (argTm as i).rep w F g h ((us.toArray ++ Array.replicate m undef).getD i undef)
  | [], us, hr, i => by
    have : us = [] := hr
    subst this
    show _ = undef
    rw [Array.getD_eq_getD_getElem?, Array.getElem?_append_right (by simp), Array.getElem?_replicate]
    split <;> rfl
  | a :: as, us, hr, 0 => by
    obtain ⟨u, us', rfl, h1, h2⟩ := hr
    have e : ((u :: us').toArray ++ Array.replicate m undef).getD 0 undef = u := by
      rw [Array.getD_eq_getD_getElem?, Array.getElem?_append_left (by simp)]
      simp
    rw [e]; exact h1
  | a :: as, us, hr, i + 1 => by
    obtain ⟨u, us', rfl, h1, h2⟩ := hr
    have := argTm_rep (m := m) as us' h2 i
    simp only [argTm]
    have e : ((u :: us').toArray ++ Array.replicate m undef).getD (i + 1) undef = (us'.toArray ++ Array.replicate m undef).getD i undef := by
      simp only [Array.getD_eq_getD_getElem?, Array.getElem?_append, List.size_toArray, List.length_cons, List.getElem?_toArray, List.getElem?_cons_succ]
      by_cases hi : i < us'.length
      · rw [if_pos (by omega), if_pos hi]
      · rw [if_neg (by omega), if_neg hi]
        congr 2
        omega
    rw [e]; exact this

theorem litTm {w : World} {F : Nat → Nat → Prop} {g : Gh} {h : H} {tm : Nat → AV} {a : Act} {d : Nat} {b : Bool} (hd : tm d = .dat (.sc .bool) b) (htm : ∀ i, (tm i).rep w F g h (a.tmps.getD i undef)) :
    ∀ i, (putA tm (some d) (.bool b) i).rep w F g h (a.tmps.getD i undef) := by
  intro i
  simp only [putA]
  cases hx : Nat.beq i d
  · exact htm i
  · have : i = d := Nat.eq_of_beq_eq_true hx
    subst this
    have := htm i
    rw [hd] at this
    exact this

theorem getD_bool {xs : Array Value} {d : Nat} {b : Bool} (h : xs.getD d undef = .bool b) : xs[d]? = some (.bool b) := by
  rw [Array.getD_eq_getD_getElem?] at h
  cases hx : xs[d]? with
  | none => rw [hx] at h; simp [undef] at h
  | some v => rw [hx] at h; simp at h; rw [h]

theorem run_sound (hE : EOk P E) (hm : P.follows .mixedOrders = true) (hfin : FinOk base F0 W0 fin Q) (hK : CutOk P base F0 W0 f0 K Q) :
    ∀ (n : Nat) (chk : Bool) (c : AF) (cs : List AF) (h : H) (r : R), run E fin K n chk c cs h = some r → bot c cs = f0 →
    ∀ (g : Gh) (w : World) (a : Act) (as : List Act) (cs0 : List Frame), HRel base F0 W0 g h w → FR P w (Fr base F0 g h) g h c a → FRs P w (Fr base F0 g h) g h cs as →
      Lands P f0 (Q r) cs0 (lone (frameOf c a) (framesOf cs as ++ cs0) w) := by
  intro n
  induction n with
  | zero => intro chk c cs h r hr; simp [run] at hr
  | succ n ih =>
    intro chk c cs h r hr hbot g w a as cs0 hH hF hFs
    -- the end of a frame
    have hleave : ∀ (todo : List Item), Steps P (lone (frameOf c a) (framesOf cs as ++ cs0) w) (lone { (bF c.f).at a todo with mode := .returning } (framesOf cs as ++ cs0) w) →
        leave E fin c cs h (fun c' cs' => run E fin K n true c' cs' h) = some r → Lands P f0 (Q r) cs0 (lone (frameOf c a) (framesOf cs as ++ cs0) w) := by
      intro todo hst hl
      unfold leave at hl
      split at hl
      · cases hl
      rename_i vs hvs
      obtain ⟨us, hul, hur, hup⟩ := resVals_sound hE hH hF.tm c.res vs hvs
      obtain ⟨fn, body, hfn, hres, _⟩ := hF.fn
      have hrun := results_run (P := P) (w := w) (a := a) hres hul hup
      have hlv : ({ (bF c.f).at a todo with mode := .returning } : Frame).leaving P w (.returned (retVal us)) := ⟨rfl, hF.defers, rfl, fn, hfn, hrun⟩
      split at hl
      · -- the bottom
        have : as = [] := hFs
        subst this
        exact ⟨retVal us, w, _, hfin vs h r hl g w us hH hur, hst, hbot, hlv⟩
      · rename_i c' cs'
        obtain ⟨a', as', rfl, hF', hFs'⟩ := hFs
        split at hl
        · rename_i ops o i is p rid k htodo
          have hwf : ops[i]? = some o := by
            obtain ⟨_, body', _, _, _, hp⟩ := hF'.fn
            have := hp (.inReg ops ((o, i) :: is) p rid) (by rw [htodo]; exact List.mem_cons_self ..)
            exact this o i (List.mem_cons_self ..)
          have hstep := step_leave_returned (P := P) (c := frameOf c' a') (cs := framesOf cs' as' ++ cs0) hlv
          have hfinish : (frameOf c' a').finish (retVal us) = frameOf { c' with tm := putA c'.tm o.dst (one vs), todo := .inReg ops is p rid :: k } (a'.put o.dst (retVal us)) := by
            unfold frameOf
            rw [htodo]
            simp only [List.map_cons, AI.conc]
            rw [Frame.finish_at, hwf]
            rfl
          rw [hfinish] at hstep
          obtain ⟨hdst, hl⟩ := cond_some hl
          refine Lands.steps hst (Lands.head hstep ?_)
          refine ih true _ cs' h r hl ?_ g w _ as' cs0 hH ⟨putA_rep hdst hF'.size hF'.tm (one_rep hur), by rw [put_size]; exact hF'.size, by rw [put_defers]; exact hF'.defers, ?_⟩ hFs'
          · cases cs' <;> exact hbot
          · obtain ⟨fn', body', h1, h2, h3, h4⟩ := hF'.fn
            refine ⟨fn', body', h1, h2, h3, fun ai hai => ?_⟩
            rcases List.mem_cons.1 hai with e | hai
            · subst e
              have := h4 (.inReg ops ((o, i) :: is) p rid) (by rw [htodo]; exact List.mem_cons_self ..)
              exact fun o' i' hm => this o' i' (List.mem_cons_of_mem _ hm)
            · exact h4 ai (by rw [htodo]; exact List.mem_cons_of_mem _ hai)
        · cases hl
    -- going on in the same frame, one step
    have hgo : ∀ (l : List AI) (m : Machine), run E fin K n true { c with todo := l } cs h = some r → (∀ body, (∀ ai ∈ c.todo, PathOk body ai) → ∀ ai ∈ l, PathOk body ai) →
        step P (lone (frameOf c a) (framesOf cs as ++ cs0) w) = .next (lone ((bF c.f).at a (l.map AI.conc)) (framesOf cs as ++ cs0) w) →
        Lands P f0 (Q r) cs0 (lone (frameOf c a) (framesOf cs as ++ cs0) w) := by
      intro l _ hl hp hs
      refine Lands.head hs ?_
      have := ih true { c with todo := l } cs h r hl (by cases cs <;> exact hbot) g w a as cs0 hH (hF.todo hp) hFs
      exact this
    simp only [run] at hr
    split at hr
    · -- nothing more to do
      rename_i htodo
      refine hleave [] ?_ hr
      have : frameOf c a = (bF c.f).at a [] := by unfold frameOf; rw [htodo]; rfl
      rw [this]
      exact Steps.one step_end
    · rename_i p code k htodo
      have hfr : frameOf c a = (bF c.f).at a (.code code :: k.map AI.conc) := by unfold frameOf; rw [htodo]; rfl
      have hmem : ∀ ai ∈ k, ai ∈ c.todo := fun ai hai => by rw [htodo]; exact List.mem_cons_of_mem _ hai
      have hhead : ∀ body, (∀ ai ∈ c.todo, PathOk body ai) → codeAt body p = some code := fun body hb => hb (.code p code) (by rw [htodo]; exact List.mem_cons_self ..)
      cases hcut : (chk && (cs.isEmpty && E.cut p))
      · rw [hcut] at hr
        simp only [cond_false] at hr
        cases code <;> dsimp only at hr <;> try (cases hr; done)
        case skip =>
          exact hgo k (lone (frameOf c a) [] w) hr (fun body hb ai hai => hb ai (hmem ai hai)) (by rw [hfr]; exact step_skip)
        case label =>
          exact hgo k (lone (frameOf c a) [] w) hr (fun body hb ai hai => hb ai (hmem ai hai)) (by rw [hfr]; exact step_label)
        case seq x y =>
          refine hgo _ (lone (frameOf c a) [] w) hr (fun body hb ai hai => ?_) (by rw [hfr]; exact step_seq)
          rcases List.mem_cons.1 hai with e | hai
          · subst e; simp [PathOk, codeAt, hhead body hb, child]
          · rcases List.mem_cons.1 hai with e | hai
            · subst e; simp [PathOk, codeAt, hhead body hb, child]
            · exact hb ai (hmem ai hai)
        case cond x y z =>
          split at hr
          · rename_i t ht
            have hev := AV.bool?_rep ht (eval_rep hF.tm x)
            cases t
            · refine hgo (.code (1 :: p) z :: k) (lone (frameOf c a) [] w) (by simpa using hr) (fun body hb ai hai => ?_) (by rw [hfr]; exact step_cond hev)
              rcases List.mem_cons.1 hai with e | hai
              · subst e; simp [PathOk, codeAt, hhead body hb, child]
              · exact hb ai (hmem ai hai)
            · refine hgo (.code (0 :: p) y :: k) (lone (frameOf c a) [] w) (by simpa using hr) (fun body hb ai hai => ?_) (by rw [hfr]; exact step_cond hev)
              rcases List.mem_cons.1 hai with e | hai
              · subst e; simp [PathOk, codeAt, hhead body hb, child]
              · exact hb ai (hmem ai hai)
          · cases hr
        case block id b =>
          refine hgo _ (lone (frameOf c a) [] w) hr (fun body hb ai hai => ?_) (by rw [hfr]; exact step_block)
          rcases List.mem_cons.1 hai with e | hai
          · subst e; simp [PathOk, codeAt, hhead body hb, child]
          · rcases List.mem_cons.1 hai with e | hai
            · subst e; exact ⟨b, hhead body hb⟩
            · exact hb ai (hmem ai hai)
        case loop b =>
          refine hgo _ (lone (frameOf c a) [] w) hr (fun body hb ai hai => ?_) (by rw [hfr]; exact step_loop)
          rcases List.mem_cons.1 hai with e | hai
          · subst e; simp [PathOk, codeAt, hhead body hb, child]
          · rcases List.mem_cons.1 hai with e | hai
            · subst e; exact hhead body hb
            · exact hb ai (hmem ai hai)
        case exit id =>
          split at hr
          · rename_i k' hk'
            obtain ⟨h1, h2⟩ := aExit_conc hk'
            exact hgo k' (lone (frameOf c a) [] w) hr (fun body hb ai hai => hb ai (hmem ai (h2 ai hai))) (by rw [hfr]; exact step_exit h1)
          · cases hr
        case ret =>
          refine hleave (.code .ret :: k.map AI.conc) ?_ hr
          rw [hfr]
          exact Steps.one step_ret
        case region rid ops draw =>
          obtain ⟨hd, hr1⟩ := cond_none hr
          clear hr
          have hr := hr1
          clear hr1
          have hwf0 : ∀ (o : Oper) (i : Nat), (o, i) ∈ ops.toList.zipIdx → ops[i]? = some o := fun o i hm => by
            have := List.mem_zipIdx_iff_getElem?.1 hm
            simpa using this
          cases draw
          · refine hgo _ (lone (frameOf c a) [] w) hr (fun body hb ai hai => ?_) ?_
            · rcases List.mem_cons.1 hai with e | hai
              · subst e; exact hwf0
              · exact hb ai (hmem ai hai)
            · rw [hfr]
              have hl : (ops.toList.zipIdx).map (·.2) = List.range ops.size := by
                rw [show (fun x : Oper × Nat => x.2) = Prod.snd from rfl, List.zipIdx_map_snd]
                simp [List.range_eq_range']
              simp only [List.map_cons, AI.conc]
              rw [hl]
              exact step_region
          · have hok : okDraw E ops = true := by
              cases hx : okDraw E ops
              · rw [hx] at hd; simp at hd
              · rfl
            have hs := step_region_draw (P := P) (b := bF c.f) (a := a) (k := k.map AI.conc) (cs := framesOf cs as ++ cs0) (w := w) (ops := ops) (id := rid)
            rw [show Region.schedule (P.follows .mixedOrders) ops (w.tape w.drawn (.order (bF c.f).fn rid)) = Region.linearise .any ops (w.tape w.drawn (.order (bF c.f).fn rid)) by
              unfold Region.schedule; rw [hm]; rfl] at hs
            obtain ⟨l, hl, hwf, hr'⟩ := perm_run hok (w.tape w.drawn (.order (bF c.f).fn rid)) hr
            rw [← hl] at hs
            rw [hfr]
            refine Lands.head hs ?_
            have hb' : Below w.heap.size w ({ w with drawn := w.drawn + 1 } : World) := ⟨rfl, rfl, rfl, Nat.le_refl _, fun _ _ => rfl⟩
            obtain ⟨hH', eH'⟩ := hH.grow hb'
            have := ih true { c with todo := .inReg ops l p rid :: k } cs h r hr' (by cases cs <;> exact hbot) g _ a as cs0 hH' ((hF.ext eH').todo (fun body hb ai hai => by
              rcases List.mem_cons.1 hai with e | hai
              · subst e; exact hwf
              · exact hb ai (hmem ai hai))) (hFs.ext eH')
            exact this
      · rw [hcut] at hr
        simp only [cond_true] at hr
        have hcs : cs = [] := by
          cases cs with
          | nil => rfl
          | cons _ _ => simp at hcut
        subst hcs
        have : as = [] := hFs
        subst this
        exact hK c h r hr g w a cs0 hbot hH hF
    · rename_i p b k htodo
      have hfr : frameOf c a = (bF c.f).at a (.inLoop b :: k.map AI.conc) := by unfold frameOf; rw [htodo]; rfl
      refine hgo _ (lone (frameOf c a) [] w) hr (fun body hb ai hai => ?_) (by rw [hfr]; exact step_inLoop)
      have hhead : codeAt body p = some (.loop b) := hb (.inLoop p b) (by rw [htodo]; exact List.mem_cons_self ..)
      rcases List.mem_cons.1 hai with e | hai
      · subst e; simp [PathOk, codeAt, hhead, child]
      · rcases List.mem_cons.1 hai with e | hai
        · subst e; exact hhead
        · exact hb ai (by rw [htodo]; exact List.mem_cons_of_mem _ hai)
    · rename_i p id k htodo
      have hfr : frameOf c a = (bF c.f).at a (.inBlock id :: k.map AI.conc) := by unfold frameOf; rw [htodo]; rfl
      exact hgo k (lone (frameOf c a) [] w) hr (fun body hb ai hai => hb ai (by rw [htodo]; exact List.mem_cons_of_mem _ hai)) (by rw [hfr]; exact step_inBlock)
    · rename_i ops p rid k htodo
      have hfr : frameOf c a = (bF c.f).at a (.inRegion ops [] :: k.map AI.conc) := by unfold frameOf; rw [htodo]; rfl
      exact hgo k (lone (frameOf c a) [] w) hr (fun body hb ai hai => hb ai (by rw [htodo]; exact List.mem_cons_of_mem _ hai)) (by rw [hfr]; exact step_region_end)
    · rename_i ops o i is p rid k htodo
      have hfr : frameOf c a = (bF c.f).at a (.inRegion ops (i :: is.map (·.2)) :: k.map AI.conc) := by unfold frameOf; rw [htodo]; rfl
      have hwf : ops[i]? = some o ∧ ∀ body, (∀ ai ∈ c.todo, PathOk body ai) → ∀ ai ∈ AI.inReg ops is p rid :: k, PathOk body ai := by
        constructor
        · obtain ⟨_, body', _, _, _, hp⟩ := hF.fn
          exact hp (.inReg ops ((o, i) :: is) p rid) (by rw [htodo]; exact List.mem_cons_self ..) o i (List.mem_cons_self ..)
        · intro body hb ai hai
          rcases List.mem_cons.1 hai with e | hai
          · subst e
            exact fun o' i' hm => hb (.inReg ops ((o, i) :: is) p rid) (by rw [htodo]; exact List.mem_cons_self ..) o' i' (List.mem_cons_of_mem _ hm)
          · exact hb ai (by rw [htodo]; exact List.mem_cons_of_mem _ hai)
      obtain ⟨ho, hpath⟩ := hwf
      obtain ⟨hdst, hr⟩ := cond_none hr
      have hdst : dstOk o.dst c.n = true := by simpa using hdst
      have hdo : ∀ (tm : Nat → AV), (∀ j, (tm j).rep w (Fr base F0 g h) g h (a.tmps.getD j undef)) → Region.wanted o (yielded ops a.tmps) = true →
          oneOp E { c with tm := tm } o rid i h
            (fun v h' => run E fin K n true { c with tm := putA tm o.dst v, todo := .inReg ops is p rid :: k } cs h')
            (fun fid b as => run E fin K n true { f := fid, n := b.ntmps, path := site rid i :: c.path, res := b.results, tm := argTm as, todo := [.code [] b.code] } ({ c with tm := tm } :: cs) h) = some r →
          Lands P f0 (Q r) cs0 (lone (frameOf c a) (framesOf cs as ++ cs0) w) := by
        intro tm htm hw hone
        have hev := eval_rep htm
        unfold oneOp at hone
        split at hone
        · rename_i f args ats hop
          split at hone
          · rename_i fid caps hfn
            split at hone
            · -- a contract
              rename_i s hs
              have hcon := hE.sum fid s hs
              obtain ⟨us, hrun, hargs⟩ := call_run (P := P) hev hop hfn hcon.1
              split at hone
              · rename_i x hx
                obtain ⟨y, hy, hone⟩ := Option.bind_eq_some_iff.1 hone
                have hden := argsTo_rep s.ps _ us x hx hargs
                have hcall := hcon.2 x y hy w (Fr base F0 g h) us hden (frameOf c a :: (framesOf cs as ++ cs0))
                obtain ⟨e, w1, fr, ⟨vs, he, hres, hbelow⟩, hcomes, _, hlv⟩ := hcall
                subst he
                have hst := step_enter (P := P) (b := bF c.f) (a := a) (rest := is.map (·.2)) (k := k.map AI.conc) (cs := framesOf cs as ++ cs0) ho hw hrun
                rw [← hfr] at hst
                have hback := step_leave_returned (P := P) (c := frameOf c a) (cs := framesOf cs as ++ cs0) hlv
                have hfinish : (frameOf c a).finish (retVal vs) = frameOf { c with tm := putA tm o.dst (one (resList s.rs y)), todo := .inReg ops is p rid :: k } (a.put o.dst (retVal vs)) := by
                  rw [hfr, Frame.finish_at, ho]
                  rfl
                rw [hfinish] at hback
                obtain ⟨hH', eH'⟩ := hH.grow hbelow
                have hkeep : ∀ B o, (B < w.heap.size → Fr base F0 g h B o) → Fr base F0 g h B o := fun B o hf => by
                  by_cases hlt : B < w.heap.size
                  · exact hf hlt
                  · exact hH.fresh_free (by omega) o
                refine Lands.head hst (Lands.steps hcomes (Lands.head hback ?_))
                exact ih true _ cs h r hone (by cases cs <;> exact hbot) g w1 _ as cs0 hH'
                  ⟨putA_rep hdst hF.size (fun j => AV.rep_ext eH' _ _ (htm j)) (one_rep (AVs.rep_weak hkeep _ _ (hres g h))), by rw [put_size]; exact hF.size, by rw [put_defers]; exact hF.defers,
                    (hF.todo hpath).fn⟩ (hFs.ext eH')
              · cases hone
            · -- its own body
              split at hone
              · rename_i b hb
                obtain ⟨hcall, fn, hfn', hbody, hnt, hrs⟩ := hE.body fid b hb
                obtain ⟨us, hrun, hargs⟩ := call_run (P := P) hev hop hfn hcall
                have hst := step_enter (P := P) (b := bF c.f) (a := a) (rest := is.map (·.2)) (k := k.map AI.conc) (cs := framesOf cs as ++ cs0) ho hw hrun
                rw [← hfr] at hst
                have henter : Frame.enter P fid us.toArray .normal = (bF fid).at { tmps := us.toArray ++ Array.replicate (fn.ntmps - us.length) undef, defers := [] } [.code b.code] := by
                  simp [Frame.enter, Frame.at, hfn', hbody, bF]
                refine Lands.head hst ?_
                have := ih true { f := fid, n := b.ntmps, path := site rid i :: c.path, res := b.results, tm := argTm _, todo := [.code [] b.code] } ({ c with tm := tm } :: cs) h r hone (by cases cs <;> exact hbot) g w
                  { tmps := us.toArray ++ Array.replicate (fn.ntmps - us.length) undef, defers := [] } (a :: as) cs0 hH
                  ⟨argTm_rep _ us hargs, by simp; omega, rfl, fn, b.code, hfn', hrs, hbody, fun ai hai => by
                    rcases List.mem_cons.1 hai with e | hai
                    · subst e; rfl
                    · cases hai⟩
                  ⟨a, as, rfl, ⟨htm, hF.size, hF.defers, hF.fn⟩, hFs⟩
                rw [henter]
                exact this
              · cases hone
          · cases hone
        · obtain ⟨v, h', g', w', nx, u, hk, hrun, hnx, hH', eH', hv⟩ := aOp_sound (P := P) hE hH hev o hone
          have hst := step_value (P := P) (b := bF c.f) (a := a) (rest := is.map (·.2)) (k := k.map AI.conc) (cs := framesOf cs as ++ cs0) ho hw hrun hnx
          rw [← hfr] at hst
          refine Lands.head hst ?_
          exact ih true { c with tm := putA tm o.dst v, todo := .inReg ops is p rid :: k } cs h' r hk (by cases cs <;> exact hbot) g' w' _ as cs0 hH'
            ⟨putA_rep hdst hF.size (fun j => AV.rep_ext eH' _ _ (htm j)) hv, by rw [put_size]; exact hF.size, by rw [put_defers]; exact hF.defers, (hF.todo hpath).fn⟩ (hFs.ext eH')
      have hskip : ∀ (tm : Nat → AV), (∀ j, (tm j).rep w (Fr base F0 g h) g h (a.tmps.getD j undef)) → Region.wanted o (yielded ops a.tmps) = false →
          run E fin K n true { c with tm := putA tm o.dst (.con undef), todo := .inReg ops is p rid :: k } cs h = some r →
          Lands P f0 (Q r) cs0 (lone (frameOf c a) (framesOf cs as ++ cs0) w) := by
        intro tm htm hw hone
        have hst := step_op_skip (P := P) (b := bF c.f) (a := a) (k := k.map AI.conc) (cs := framesOf cs as ++ cs0) (w := w) (ops := ops) (i := i) (rest := is.map (·.2)) (by simp [ho, hw])
        rw [← hfr, ho] at hst
        refine Lands.head hst ?_
        exact ih true { c with tm := putA tm o.dst (.con undef), todo := .inReg ops is p rid :: k } cs h r hone (by cases cs <;> exact hbot) g w _ as cs0 hH
          ⟨putA_rep hdst hF.size htm rfl, by rw [put_size]; exact hF.size, by rw [put_defers]; exact hF.defers, (hF.todo hpath).fn⟩ hFs
      split at hr
      · rename_i hg
        exact hdo c.tm hF.tm (by unfold Region.wanted; rw [hg]) hr
      · rename_i j want hg
        split at hr
        · cases hr
        · rename_i d hd
          have hyield : yielded ops a.tmps j = match a.tmps[d]? with | some (.bool b) => some b | _ => none := by
            unfold yielded; rw [hd]; rfl
          have hwant : Region.wanted o (yielded ops a.tmps) = (yielded ops a.tmps j == some want) := by unfold Region.wanted; rw [hg]
          split at hr
          · rename_i b hb
            have hdr := hF.tm d
            rw [hb] at hdr
            have hbv := getD_bool hdr
            rw [hbv] at hyield
            simp only at hyield
            rw [hyield] at hwant
            cases b <;> cases want <;> simp only [cond_true, cond_false] at hr
            · exact hdo _ (litTm hb hF.tm) (by rw [hwant]; rfl) hr
            · exact hskip _ (litTm hb hF.tm) (by rw [hwant]; rfl) hr
            · exact hskip _ (litTm hb hF.tm) (by rw [hwant]; rfl) hr
            · exact hdo _ (litTm hb hF.tm) (by rw [hwant]; rfl) hr
          · rename_i vs hb
            have hdr := hF.tm d
            rw [hb] at hdr
            have hdr' : a.tmps.getD d undef = .tuple vs := hdr
            have hno : yielded ops a.tmps j = none := by
              rw [hyield]
              rw [Array.getD_eq_getD_getElem?] at hdr'
              cases hx : a.tmps[d]? with
              | none => rfl
              | some v => rw [hx] at hdr'; simp at hdr'; rw [hdr']
            exact hskip c.tm hF.tm (by rw [hwant, hno]; rfl) hr
          · cases hr
end
end Go.Proofs.Ythdjomfkechfoaa.Vx
