/-
  Vx, part p: a region whose order is open.
-/
import Derived.Test.YthdjomfkechfoaaVo
import Derived.Orders
namespace Go.Proofs.Ythdjomfkechfoaa.Vx
open Go Go.RowKit
set_option linter.unusedSimpArgs false
set_option linter.unusedVariables false

section
variable {R : Type} {E : Env}

/-- One operation, in one step. -/
def one1 (E : Env) (path : Key) (tm : Nat → AV) (o : Oper) (rid i : Nat) (h : H) : Option (AV × H) :=
  oneOp E { f := 0, n := 0, path := path, res := [], tm := tm, todo := [] } o rid i h (fun v h' => some (v, h')) (fun _ _ _ => none)

theorem one_nat {c : AF} {o : Oper} {rid i : Nat} {h : H} {next : AV → H → Option R} {enter : Nat → Body → List AV → Option R} (hk : kindOf E o ≠ 5) :
    oneOp E c o rid i h next enter = (one1 E c.path c.tm o rid i h).bind fun p => next p.1 p.2 := by
  obtain ⟨dst, op, ty, pos, after, guard⟩ := o
  unfold one1
  cases op
  case call cl =>
    obtain ⟨callee, args, ats⟩ := cl
    cases callee
    case value f =>
      cases f
      case func g =>
        simp only [oneOp, evalA]
        cases hs : E.sum g with
        | none => simp [kindOf, hs] at hk
        | some s =>
          simp only []
          split
          · rw [Option.bind_assoc]; rfl
          · rfl
      all_goals (exact absurd rfl hk)
    all_goals (simp only [oneOp]; exact aOp_nat _)
  all_goals (simp only [oneOp]; exact aOp_nat _)

theorem oneOp_mono {c c' : AF} {o : Oper} {rid i : Nat} {h : H} {next next' : AV → H → Option R} {enter enter' : Nat → Body → List AV → Option R} {r : R} (ht : c'.tm = c.tm) (hp : c'.path = c.path)
    (h1 : ∀ v h', next v h' = some r → next' v h' = some r) (h2 : ∀ f b as, enter f b as = some r → enter' f b as = some r)
    (hr : oneOp E c o rid i h next enter = some r) : oneOp E c' o rid i h next' enter' = some r := by
  unfold oneOp at hr ⊢
  rw [ht, hp]
  split at hr
  · split at hr
    · split at hr
      · split at hr
        · rename_i x hx
          obtain ⟨y, hy, hr⟩ := Option.bind_eq_some_iff.1 hr
          simp only [hx, hy, Option.bind_some]
          exact h1 _ _ hr
        · cases hr
      · split at hr
        · exact h2 _ _ _ hr
        · cases hr
    · cases hr
  · rw [aOp_nat] at hr ⊢
    obtain ⟨y, hy, hr⟩ := Option.bind_eq_some_iff.1 hr
    rw [hy]
    exact h1 _ _ hr

def wantOf (ops : Array Oper) (tm : Nat → AV) (o : Oper) : Option Bool :=
  match o.guard with
  | none => some true
  | some (j, want) =>
    match (ops[j]?).bind (·.dst) with
    | none => none
    | some d =>
      match tm d with
      | .dat (.sc .bool) b => some ((show Bool from b) == want)
      | .con (.tuple _) => some false
      | _ => none

theorem putA_lit {tm : Nat → AV} {d : Nat} {b : Bool} (hd : tm d = .dat (.sc .bool) b) : putA tm (some d) (.bool b) = tm := by
  funext i
  simp only [putA]
  cases hx : Nat.beq i d
  · rfl
  · have : i = d := Nat.eq_of_beq_eq_true hx
    subst this
    exact hd.symm

theorem run_reg {fin : List AV → H → Option R} {K : AF → H → Option R} {n : Nat} {chk : Bool} {c : AF} {ops : Array Oper} {o : Oper} {i : Nat} {is : List (Oper × Nat)} {p : List Nat} {rid : Nat} {k : List AI} {cs : List AF} {h : H}
    (htodo : c.todo = .inReg ops ((o, i) :: is) p rid :: k) :
    run E fin K (n + 1) chk c cs h = bif !(dstOk o.dst c.n) then none else
      match wantOf ops c.tm o with
      | none => none
      | some true => oneOp E c o rid i h
          (fun v h' => run E fin K n true { c with tm := putA c.tm o.dst v, todo := .inReg ops is p rid :: k } cs h')
          (fun fid b as => run E fin K n true { f := fid, n := b.ntmps, path := site rid i :: c.path, res := b.results, tm := argTm as, todo := [.code [] b.code] } (c :: cs) h)
      | some false => run E fin K n true { c with tm := putA c.tm o.dst (.con undef), todo := .inReg ops is p rid :: k } cs h := by
  obtain ⟨f0, n0, path0, res0, tm0, todo0⟩ := c
  simp only at htodo
  subst htodo
  simp only [run]
  cases hd : !(dstOk o.dst n0)
  · simp only [cond_false, wantOf]
    cases hg : o.guard with
    | none => rfl
    | some jw =>
      obtain ⟨j, want⟩ := jw
      simp only []
      cases hj : (ops[j]?).bind (·.dst) with
      | none => rfl
      | some d =>
        simp only []
        split
        · rename_i b hb
          simp only [hb]
          cases b <;> cases want <;> simp only [cond_true, cond_false, putA_lit hb] <;> rfl
        · rename_i vs hb
          simp only [hb]
        · rename_i h1 h2
          split
          · rename_i hx
            split at hx
            · rename_i b hb; exact absurd hb (h1 b)
            · rename_i vs hb; exact absurd hb (h2 vs)
            · rfl
          · rename_i hx
            split at hx
            · rename_i b hb; exact absurd hb (h1 b)
            · cases hx
            · cases hx
          · rename_i hx
            split at hx
            · rename_i b hb; exact absurd hb (h1 b)
            · rename_i vs hb; exact absurd hb (h2 vs)
            · cases hx
  · rfl

def opStep (E : Env) (ops : Array Oper) (path : Key) (n rid : Nat) (p : Oper × Nat) (s : (Nat → AV) × H) : Option ((Nat → AV) × H) :=
  bif !(dstOk p.1.dst n) then none else
  match wantOf ops s.1 p.1 with
  | none => none
  | some true => (one1 E path s.1 p.1 rid p.2 s.2).bind fun q => some (putA s.1 p.1.dst q.1, q.2)
  | some false => some (putA s.1 p.1.dst (.con undef), s.2)

theorem run_cons {fin : List AV → H → Option R} {K : AF → H → Option R} {n : Nat} {chk : Bool} {c : AF} {ops : Array Oper} {o : Oper} {i : Nat} {is : List (Oper × Nat)} {p : List Nat} {rid : Nat} {k : List AI} {cs : List AF} {h : H}
    (htodo : c.todo = .inReg ops ((o, i) :: is) p rid :: k) (hk : kindOf E o ≠ 5) :
    run E fin K (n + 1) chk c cs h = (opStep E ops c.path c.n rid (o, i) (c.tm, h)).bind fun s => run E fin K n true { c with tm := s.1, todo := .inReg ops is p rid :: k } cs s.2 := by
  rw [run_reg htodo]
  unfold opStep
  simp only []
  cases hd : !(dstOk o.dst c.n)
  · simp only [cond_false]
    cases hw : wantOf ops c.tm o with
    | none => rfl
    | some b =>
      cases b
      · rfl
      · simp only []
        rw [one_nat hk, Option.bind_assoc]
        rfl
  · rfl

/-! ### what it hangs on -/
theorem hasTmp_iff : ∀ (l : List Nat) (b : Nat), hasTmp l b = true ↔ b ∈ l
  | [], b => by simp [hasTmp]
  | a :: l, b => by
    have ih := hasTmp_iff l b
    simp only [hasTmp, List.mem_cons]
    cases hx : Nat.beq a b
    · have : a ≠ b := by intro e; subst e; simp [Nat.beq_refl] at hx
      simp only [cond_false, ih]
      constructor
      · exact .inr
      · rintro (e | h)
        · exact absurd e.symm this
        · exact h
    · have : a = b := Nat.eq_of_beq_eq_true hx
      simp [this]

theorem putA_other {tm : Nat → AV} {d : Option Nat} {v : AV} {t : Nat} (hd : d ≠ some t) : putA tm d v t = tm t := by
  cases d with
  | none => rfl
  | some e =>
    have : Nat.beq t e = false := by
      cases hx : Nat.beq t e
      · rfl
      · exact absurd (by rw [Nat.eq_of_beq_eq_true hx]) hd
    simp [putA, this]

theorem wantOf_put {ops : Array Oper} {tm : Nat → AV} {o : Oper} {d : Option Nat} {v : AV} (hd : ∀ t, d = some t → hasTmp (tmpsOf ops o) t = false) : wantOf ops (putA tm d v) o = wantOf ops tm o := by
  unfold wantOf
  cases hg : o.guard with
  | none => rfl
  | some jw =>
    obtain ⟨j, want⟩ := jw
    simp only []
    cases hj : (ops[j]?).bind (·.dst) with
    | none => rfl
    | some e =>
      simp only []
      rw [putA_other]
      intro he
      have := hd e he
      have hm : hasTmp (tmpsOf ops o) e = true := (hasTmp_iff _ _).2 (by simp [tmpsOf, hg, hj])
      rw [hm] at this
      cases this

theorem one1_put {ops : Array Oper} {path : Key} {tm : Nat → AV} {o : Oper} {rid i : Nat} {h : H} {d : Option Nat} {v : AV} (hd : ∀ t, d = some t → hasTmp (tmpsOf ops o) t = false) :
    one1 E path (putA tm d v) o rid i h = one1 E path tm o rid i h := by
  have hev : ∀ x ∈ o.op.operands.toList, evalA (putA tm d v) x = evalA tm x := by
    intro x hx
    cases x with
    | tmp t =>
      simp only [evalA]
      apply putA_other
      intro he
      have := hd t he
      have hm : hasTmp (tmpsOf ops o) t = true := (hasTmp_iff _ _).2 (by
        simp only [tmpsOf, List.mem_append, List.mem_filterMap]
        exact .inl ⟨.tmp t, hx, rfl⟩)
      rw [hm] at this
      cases this
    | const v => rfl
    | func f => rfl
    | global g => rfl
  unfold one1 oneOp
  simp only []
  split
  · rename_i f args ats hop
    rw [hop] at hev
    have hf : evalA (putA tm d v) f = evalA tm f := hev f (by simp [Op.operands, Call.operands])
    have ha : args.toList.map (evalA (putA tm d v)) = args.toList.map (evalA tm) := List.map_congr_left fun x hx => hev x (by simp only [Op.operands, Call.operands, Array.toList_append, List.mem_append]; exact .inr hx)
    rw [hf, ha]
  · exact aOp_ev o hev

theorem one1_shift {path : Key} {tm : Nat → AV} {o : Oper} {rid i : Nat} (hk : kindOf E o = 0) (h h2 : H) :
    one1 E path tm o rid i h = (one1 E path tm o rid i h2).bind fun q => some (q.1, h) := by
  have hne : kindOf E o ≠ 5 := by rw [hk]; decide
  obtain ⟨dst, op, ty, pos, after, guard⟩ := o
  unfold one1
  cases op
  case call cl =>
    obtain ⟨callee, args, ats⟩ := cl
    cases callee
    case value f =>
      cases f
      case func g =>
        simp only [oneOp, evalA]
        cases hs : E.sum g with
        | none => simp [kindOf, hs] at hne
        | some s =>
          simp only []
          split
          · rw [Option.bind_assoc]; rfl
          · rfl
      all_goals (exact absurd rfl hne)
    all_goals
      simp only [oneOp]
      rw [aOp_k0 (h2 := h2) _ hk, aOp_nat]
  all_goals
    simp only [oneOp]
    rw [aOp_k0 (h2 := h2) _ hk, aOp_nat]

theorem one1_k0 {path : Key} {tm : Nat → AV} {o : Oper} {rid i : Nat} {h : H} {v : AV} {h' : H} (hk : kindOf E o = 0) (hr : one1 E path tm o rid i h = some (v, h')) :
    h' = h ∧ ∀ h2, one1 E path tm o rid i h2 = some (v, h2) := by
  have h1 := one1_shift (path := path) (tm := tm) (rid := rid) (i := i) hk h h
  rw [hr] at h1
  have e : h' = h := by
    have := congrArg (Option.map Prod.snd) h1
    simpa using this
  subst e
  refine ⟨rfl, fun h2 => ?_⟩
  rw [one1_shift hk h2 h', hr]
  rfl

theorem bif_05 {n : Nat} (b : Bool) (h0 : n ≠ 0 := by decide) (h5 : n ≠ 5 := by decide) : ¬ (bif b then 0 else 5) = n := by
  cases b
  · exact fun e => h5 e.symm
  · exact fun e => h0 e.symm

theorem one1_k1 {path : Key} {tm : Nat → AV} {o : Oper} {rid i : Nat} {h : H} {v : AV} {h' : H} (hk : kindOf E o = 1) (hr : one1 E path tm o rid i h = some (v, h')) :
    h' = h ∧ ∀ h2, (∀ q b, h.blk q = some b → h2.blk q = some b) → one1 E path tm o rid i h2 = some (v, h2) := by
  obtain ⟨dst, op, ty, pos, after, guard⟩ := o
  unfold kindOf at hk
  cases op <;> dsimp only at hk <;> try (cases hk; done)
  case load t a =>
    simp only [one1, oneOp, aOp] at hr ⊢
    split at hr
    · rename_i ty' hty
      split at hr
      · rename_i q off he
        split at hr
        · rename_i b hb
          split at hr
          · rename_i y hy
            cases hr
            exact ⟨rfl, fun h2 hh => by simp only [hty, he, hh q b hb, hy]⟩
          · cases hr
        · cases hr
      · rename_i l x off he
        split at hr
        · rename_i y hy
          cases hr
          exact ⟨rfl, fun h2 hh => by simp only [hty, he, hy]⟩
        · cases hr
      · cases hr
    · cases hr
  case call c =>
    obtain ⟨callee, args, ats⟩ := c
    cases callee with
    | value f => cases f <;> first | (cases hk; done) | exact absurd hk (bif_05 _)
    | invoke r m => simp at hk
    | builtin b => cases b <;> simp at hk

theorem one1_k2 {path : Key} {tm : Nat → AV} {o : Oper} {rid i : Nat} {h : H} {v : AV} {h' : H} (hk : kindOf E o = 2) (hr : one1 E path tm o rid i h = some (v, h')) :
    h.blk (site rid i :: path) = none ∧ ∃ b, h' = h.setBlk (site rid i :: path) b ∧ ∀ h2, h2.blk (site rid i :: path) = none → one1 E path tm o rid i h2 = some (v, h2.setBlk (site rid i :: path) b) := by
  obtain ⟨dst, op, ty, pos, after, guard⟩ := o
  unfold kindOf at hk
  cases op <;> dsimp only at hk <;> try (cases hk; done)
  case alloc t =>
    simp only [one1, oneOp, aOp] at hr ⊢
    split at hr
    · rename_i ty' hty hb
      cases hr
      exact ⟨hb, _, rfl, fun h2 hh => by simp only [hty, hh]⟩
    · cases hr
  case box t x =>
    simp only [one1, oneOp, aOp] at hr ⊢
    split at hr
    · rename_i ty' hty hb
      split at hr
      · rename_i y hy
        cases hr
        exact ⟨hb, _, rfl, fun h2 hh => by simp only [hty, hh, hy]⟩
      · cases hr
    · cases hr
  case call c =>
    obtain ⟨callee, args, ats⟩ := c
    cases callee with
    | value f => cases f <;> first | (cases hk; done) | exact absurd hk (bif_05 _)
    | invoke r m => simp at hk
    | builtin b => cases b <;> simp at hk

theorem one1_k3 {path : Key} {tm : Nat → AV} {o : Oper} {rid i : Nat} {h : H} {v : AV} {h' : H} (hk : kindOf E o = 3) (hr : one1 E path tm o rid i h = some (v, h')) :
    ∃ q b b', h.blk q = some b ∧ h' = h.setBlk q b' ∧ ∀ h2, h2.blk q = some b → one1 E path tm o rid i h2 = some (v, h2.setBlk q b') := by
  obtain ⟨dst, op, ty, pos, after, guard⟩ := o
  unfold kindOf at hk
  cases op <;> dsimp only at hk <;> try (cases hk; done)
  case store t a x =>
    simp only [one1, oneOp, aOp] at hr ⊢
    split at hr
    · rename_i ty' q off hty he
      split at hr
      · rename_i b y hb hy
        split at hr
        · rename_i z hz
          cases hr
          exact ⟨q, b, _, hb, rfl, fun h2 hh => by simp only [hty, he, hh, hy, hz]⟩
        · cases hr
      · cases hr
    · cases hr
  case call c =>
    obtain ⟨callee, args, ats⟩ := c
    cases callee with
    | value f => cases f <;> first | (cases hk; done) | exact absurd hk (bif_05 _)
    | invoke r m => simp at hk
    | builtin b => cases b <;> simp at hk

theorem one1_k4 {path : Key} {tm : Nat → AV} {o : Oper} {rid i : Nat} {h : H} {v : AV} {h' : H} (hk : kindOf E o = 4) (hr : one1 E path tm o rid i h = some (v, h')) :
    h'.blk = h.blk ∧ ∀ h2 : H, h2.tok = h.tok → h2.nt = h.nt → one1 E path tm o rid i h2 = some (v, { h2 with tok := h'.tok, nt := h'.nt }) := by
  obtain ⟨dst, op, ty, pos, after, guard⟩ := o
  unfold kindOf at hk
  cases op <;> dsimp only at hk <;> try (cases hk; done)
  case makeSlice t lo ca =>
    simp only [one1, oneOp, aOp] at hr ⊢
    split at hr
    · rename_i te bytes kl l kc c h1 h2 h3
      obtain ⟨hq, hr⟩ := cond_some hr
      cases hr
      exact ⟨rfl, fun h2' e1 e2 => by simp only [h1, h2, h3, hq, cond_true, e1, e2, H.fresh]⟩
    · cases hr
  case call c =>
    obtain ⟨callee, args, ats⟩ := c
    cases callee with
    | value f => cases f <;> first | (cases hk; done) | exact absurd hk (bif_05 _)
    | invoke r m => simp at hk
    | builtin b =>
      cases b <;> simp at hk
      simp only [one1, oneOp, aOp, aCallB] at hr ⊢
      split at hr
      · contradiction
      · contradiction
      · contradiction
      · rename_i s x hb has
        split at hr
        · rename_i ts tx hts
          split at hr
          · rename_i te bytes v2 he1 he2
            split at hr
            · rename_i xs ys hxs hys
              obtain ⟨hfit, hr⟩ := cond_some hr
              split at hr
              · rename_i l' xs' t' 
                obtain ⟨htok, hr⟩ := cond_some hr
                cases hr
                exact ⟨rfl, fun h2 e1 e2 => by simp only [has, hts, he1, he2, hxs, hys, hfit, cond_true, e1, e2, htok, H.spend, H.fresh]⟩
              · cases hr
                exact ⟨rfl, fun h2 e1 e2 => by simp only [has, hts, he1, he2, hxs, hys, hfit, cond_true, e1, e2, H.spend, H.fresh]⟩
              · cases hr
                exact ⟨rfl, fun h2 e1 e2 => by simp only [has, hts, he1, he2, hxs, hys, hfit, cond_true, e1, e2, H.spend, H.fresh]⟩
              · cases hr
            · cases hr
          · cases hr
        · cases hr
      · cases hr

/-! ### two operations that hang on nothing of each other -/
theorem kindsOk_cases {a b : Nat} (h : kindsOk a b = true) : (a = 0 ∧ b ≠ 5) ∨ (b = 0 ∧ a ≠ 5) ∨ (a = 1 ∧ b = 1) ∨ (a = 1 ∧ b = 2) ∨ (a = 2 ∧ b = 2) ∨ (a = 4 ∧ b = 1) ∨ (a = 4 ∧ b = 2) ∨ (a = 4 ∧ b = 3) ∨
    (a = 1 ∧ b = 4) ∨ (a = 2 ∧ b = 4) ∨ (a = 3 ∧ b = 4) := by
  unfold kindsOk at h
  split at h
  · rename_i b'
    refine .inl ⟨rfl, fun e => ?_⟩
    subst e
    exact absurd h (by decide)
  · rename_i a' _
    refine .inr (.inl ⟨rfl, fun e => ?_⟩)
    subst e
    exact absurd h (by decide)
  all_goals first | (cases h; done) | simp

theorem setBlk_comm {h : H} {p q : Key} {a b : Blk} (hn : p ≠ q) : (h.setBlk p a).setBlk q b = (h.setBlk q b).setBlk p a := by
  simp only [H.setBlk]
  congr 1
  funext r
  cases hp : Key.eq r p
  · rfl
  · cases hq : Key.eq r q
    · rfl
    · exact absurd (((Key.eq_iff r p).1 hp).symm.trans ((Key.eq_iff r q).1 hq)) hn

theorem one1_swap {path : Key} {tm : Nat → AV} {x y : Oper} {rid i j : Nat} {h h1 h2 : H} {vx vy : AV} (hij : i ≠ j) (hk : kindsOk (kindOf E x) (kindOf E y) = true)
    (hx : one1 E path tm x rid i h = some (vx, h1)) (hy : one1 E path tm y rid j h1 = some (vy, h2)) :
    ∃ h1', one1 E path tm y rid j h = some (vy, h1') ∧ one1 E path tm x rid i h1' = some (vx, h2) := by
  have hkey : site rid i :: path ≠ site rid j :: path := by
    intro e
    have := (List.cons.inj e).1
    simp only [site] at this
    omega
  rcases kindsOk_cases hk with ⟨a, b⟩ | ⟨b, a⟩ | ⟨a, b⟩ | ⟨a, b⟩ | ⟨a, b⟩ | ⟨a, b⟩ | ⟨a, b⟩ | ⟨a, b⟩ | ⟨a, b⟩ | ⟨a, b⟩ | ⟨a, b⟩
  · obtain ⟨rfl, q⟩ := one1_k0 a hx
    exact ⟨h2, hy, q h2⟩
  · obtain ⟨rfl, q⟩ := one1_k0 b hy
    exact ⟨h, q h, hx⟩
  · obtain ⟨rfl, q⟩ := one1_k1 a hx
    obtain ⟨rfl, q'⟩ := one1_k1 b hy
    exact ⟨_, hy, hx⟩
  · obtain ⟨rfl, q⟩ := one1_k1 a hx
    obtain ⟨q0, b', rfl, q'⟩ := one1_k2 b hy
    refine ⟨_, hy, q _ (fun p c hp => ?_)⟩
    rw [H.setBlk_other]
    · exact hp
    · intro e; subst e; rw [q0] at hp; cases hp
  · obtain ⟨q0, b1, rfl, q⟩ := one1_k2 a hx
    obtain ⟨q0', b2, rfl, q'⟩ := one1_k2 b hy
    rw [H.setBlk_other _ _ (Ne.symm hkey)] at q0'
    refine ⟨_, q' h q0', ?_⟩
    rw [setBlk_comm hkey]
    exact q _ (by rw [H.setBlk_other _ _ hkey]; exact q0)
  · obtain ⟨q0, q⟩ := one1_k4 a hx
    obtain ⟨rfl, q'⟩ := one1_k1 b hy
    exact ⟨h, q' h (fun p c hp => by rw [← q0]; exact hp), hx⟩
  · obtain ⟨q0, q⟩ := one1_k4 a hx
    obtain ⟨q1, b', rfl, q'⟩ := one1_k2 b hy
    rw [q0] at q1
    refine ⟨_, q' h q1, ?_⟩
    rw [q (h.setBlk _ b') rfl rfl]
    simp only [H.setBlk, q0]
  · obtain ⟨q0, q⟩ := one1_k4 a hx
    obtain ⟨p, c, b', q1, rfl, q'⟩ := one1_k3 b hy
    rw [q0] at q1
    refine ⟨_, q' h q1, ?_⟩
    rw [q (h.setBlk _ b') rfl rfl]
    simp only [H.setBlk, q0]
  · obtain ⟨rfl, q⟩ := one1_k1 a hx
    obtain ⟨q0, q'⟩ := one1_k4 b hy
    exact ⟨_, hy, q _ (fun p c hp => by rw [q0]; exact hp)⟩
  · obtain ⟨q1, b', rfl, q⟩ := one1_k2 a hx
    obtain ⟨q0, q'⟩ := one1_k4 b hy
    refine ⟨_, q' h rfl rfl, (q { h with tok := h2.tok, nt := h2.nt } q1).trans ?_⟩
    obtain ⟨b2, t2, n2⟩ := h2
    simp only [H.setBlk] at q0 ⊢
    rw [← q0]
  · obtain ⟨p, c, b', q1, rfl, q⟩ := one1_k3 a hx
    obtain ⟨q0, q'⟩ := one1_k4 b hy
    refine ⟨_, q' h rfl rfl, (q { h with tok := h2.tok, nt := h2.nt } q1).trans ?_⟩
    obtain ⟨b2, t2, n2⟩ := h2
    simp only [H.setBlk] at q0 ⊢
    rw [← q0]

theorem putA_comm {tm : Nat → AV} {d e : Option Nat} {u v : AV} (hn : ∀ t, d = some t → e ≠ some t) : putA (putA tm d u) e v = putA (putA tm e v) d u := by
  funext i
  cases d with
  | none => rfl
  | some a =>
    cases e with
    | none => rfl
    | some b =>
      simp only [putA]
      cases ha : Nat.beq i a
      · rfl
      · cases hb : Nat.beq i b
        · rfl
        · have e1 := Nat.eq_of_beq_eq_true ha
          have e2 := Nat.eq_of_beq_eq_true hb
          exact absurd (by rw [← e1, ← e2]) (hn a rfl)

theorem opStep_swap {ops : Array Oper} {path : Key} {n rid : Nat} {x y : Oper × Nat} {s s' : (Nat → AV) × H} (hij : x.2 ≠ y.2) (hd : indep E ops x.1 y.1 = true)
    (h : (opStep E ops path n rid x s).bind (opStep E ops path n rid y) = some s') : (opStep E ops path n rid y s).bind (opStep E ops path n rid x) = some s' := by
  obtain ⟨x, i⟩ := x
  obtain ⟨y, j⟩ := y
  obtain ⟨tm, h0⟩ := s
  simp only [] at hij hd
  unfold indep at hd
  simp only [Bool.and_eq_true] at hd
  obtain ⟨⟨hk, hxy⟩, hyx⟩ := hd
  have dx : ∀ t, x.dst = some t → hasTmp (tmpsOf ops y) t = false := fun t ht => by
    rw [ht] at hxy
    simp only [Bool.and_eq_true, Bool.not_eq_true'] at hxy
    exact hxy.1
  have dxy : ∀ t, x.dst = some t → y.dst ≠ some t := fun t ht he => by
    rw [ht, he] at hxy
    simp [Nat.beq_refl] at hxy
  have dy : ∀ t, y.dst = some t → hasTmp (tmpsOf ops x) t = false := fun t ht => by
    rw [ht] at hyx
    simpa using hyx
  unfold opStep at h ⊢
  simp only [] at h ⊢
  obtain ⟨s1, hs1, h⟩ := Option.bind_eq_some_iff.1 h
  obtain ⟨e1, hs1⟩ := cond_none hs1
  obtain ⟨e2, h⟩ := cond_none h
  rw [e1, e2]
  simp only [cond_false]
  cases hwx : wantOf ops tm x with
  | none => rw [hwx] at hs1; cases hs1
  | some bx =>
    rw [hwx] at hs1
    cases bx
    · simp only [Option.some.injEq] at hs1
      subst hs1
      simp only [] at h
      rw [wantOf_put dx] at h
      cases hwy : wantOf ops tm y with
      | none => rw [hwy] at h; cases h
      | some b =>
        rw [hwy] at h
        cases b
        · simp only [Option.some.injEq] at h
          subst h
          simp only [Option.bind_some]
          rw [wantOf_put dy, hwx]
          simp only [putA_comm dxy]
        · simp only [] at h ⊢
          rw [one1_put dx] at h
          obtain ⟨q, hq, h⟩ := Option.bind_eq_some_iff.1 h
          rw [hq]
          simp only [Option.bind_some, Option.some.injEq] at h ⊢
          subst h
          rw [wantOf_put dy, hwx]
          simp only [putA_comm dxy]
    · simp only [] at hs1
      obtain ⟨qx, hqx, hs1⟩ := Option.bind_eq_some_iff.1 hs1
      simp only [Option.some.injEq] at hs1
      subst hs1
      simp only [] at h
      rw [wantOf_put dx] at h
      cases hwy : wantOf ops tm y with
      | none => rw [hwy] at h; cases h
      | some b =>
        rw [hwy] at h
        cases b
        · simp only [Option.some.injEq] at h
          subst h
          simp only [Option.bind_some]
          rw [wantOf_put dy, hwx]
          simp only []
          rw [one1_put dy, hqx]
          simp only [Option.bind_some, putA_comm dxy]
        · simp only [] at h ⊢
          rw [one1_put dx] at h
          obtain ⟨qy, hqy, h⟩ := Option.bind_eq_some_iff.1 h
          obtain ⟨h1', p1, p2⟩ := one1_swap hij hk (vx := qx.1) (h1 := qx.2) hqx (vy := qy.1) (h2 := qy.2) hqy
          rw [p1]
          simp only [Option.bind_some, Option.some.injEq] at h ⊢
          subst h
          rw [wantOf_put dy, hwx]
          simp only []
          rw [one1_put dy, p2]
          simp only [Option.bind_some, putA_comm dxy]
end
end Go.Proofs.Ythdjomfkechfoaa.Vx
