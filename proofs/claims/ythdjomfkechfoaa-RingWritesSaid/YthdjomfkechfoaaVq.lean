/-
  Vx, part q: a region whose order is open: every order comes to the same.
-/
import Derived.Test.YthdjomfkechfoaaVp
namespace Go.Proofs.Ythdjomfkechfoaa.Vx
open Go Go.RowKit
set_option linter.unusedSimpArgs false
set_option linter.unusedVariables false

section
variable {R : Type} {E : Env}

/-- Side by side, by side. -/
inductive Swaps (E : Env) (ops : Array Oper) : List (Oper × Nat) → List (Oper × Nat) → Prop
  | refl (l : List (Oper × Nat)) : Swaps E ops l l
  | step (pre : List (Oper × Nat)) (x y : Oper × Nat) (post l : List (Oper × Nat)) (hij : x.2 ≠ y.2) (hd : indep E ops x.1 y.1 = true)
      (h : Swaps E ops (pre ++ y :: x :: post) l) : Swaps E ops (pre ++ x :: y :: post) l

/-- Stacks whose frames wait with the same work in another order. -/
inductive Susp (E : Env) : List AF → List AF → Prop
  | nil : Susp E [] []
  | same (c : AF) (cs cs' : List AF) (h : Susp E cs cs') : Susp E (c :: cs) (c :: cs')
  | diff (c : AF) (cs cs' : List AF) (ops : Array Oper) (x : Oper × Nat) (l l' : List (Oper × Nat)) (p : List Nat) (rid : Nat) (k : List AI)
      (ht : c.todo = .inReg ops (x :: l) p rid :: k) (hs : Swaps E ops l l') (h : Susp E cs cs') :
      Susp E (c :: cs) ({ c with todo := .inReg ops (x :: l') p rid :: k } :: cs')

theorem Susp.refl : ∀ (cs : List AF), Susp E cs cs
  | [] => .nil
  | c :: cs => .same c cs cs (Susp.refl cs)

theorem Susp.isEmpty {cs cs' : List AF} (h : Susp E cs cs') : cs'.isEmpty = cs.isEmpty := by cases h <;> rfl

theorem kind_of_indep {ops : Array Oper} {x y : Oper} (hd : indep E ops x y = true) : kindOf E x ≠ 5 ∧ kindOf E y ≠ 5 := by
  unfold indep at hd
  simp only [Bool.and_eq_true] at hd
  rcases kindsOk_cases hd.1.1 with ⟨a, b⟩ | ⟨b, a⟩ | ⟨a, b⟩ | ⟨a, b⟩ | ⟨a, b⟩ | ⟨a, b⟩ | ⟨a, b⟩ | ⟨a, b⟩ | ⟨a, b⟩ | ⟨a, b⟩ | ⟨a, b⟩ <;> constructor <;> first | assumption | (rw [a]; decide) | (rw [b]; decide)

theorem exch {fin : List AV → H → Option R} {K : AF → H → Option R} : ∀ n : Nat,
    (∀ chk c cs cs' h r, run E fin K n chk c cs h = some r → Susp E cs cs' → run E fin K n chk c cs' h = some r) ∧
    (∀ (pre : List (Oper × Nat)) (x y : Oper × Nat) (post : List (Oper × Nat)) (c : AF) (ops : Array Oper) (p : List Nat) (rid : Nat) (k : List AI) (cs : List AF) (h : H) (r : R), x.2 ≠ y.2 → indep E ops x.1 y.1 = true →
      c.todo = .inReg ops (pre ++ x :: y :: post) p rid :: k → run E fin K n true c cs h = some r → run E fin K n true { c with todo := .inReg ops (pre ++ y :: x :: post) p rid :: k } cs h = some r) := by
  intro n
  induction n with
  | zero => exact ⟨fun chk c cs cs' h r hr => by simp [run] at hr, fun pre x y post c ops p rid k cs h r _ _ _ hr => by simp [run] at hr⟩
  | succ n ih =>
    obtain ⟨ihA, ihB⟩ := ih
    have ihS : ∀ (ops : Array Oper) (l l' : List (Oper × Nat)), Swaps E ops l l' → ∀ (c : AF) (p : List Nat) (rid : Nat) (k : List AI) (cs : List AF) (h : H) (r : R),
        run E fin K n true { c with todo := .inReg ops l p rid :: k } cs h = some r → run E fin K n true { c with todo := .inReg ops l' p rid :: k } cs h = some r := by
      intro ops l l' hs
      induction hs with
      | refl => exact fun c p rid k cs h r hr => hr
      | step pre x y post l hij hd hs ih' => exact fun c p rid k cs h r hr => ih' c p rid k cs h r (ihB pre x y post { c with todo := .inReg ops (pre ++ x :: y :: post) p rid :: k } ops p rid k cs h r hij hd rfl hr)
    have hleave : ∀ c cs cs' h r, leave E fin c cs h (fun c' cs' => run E fin K n true c' cs' h) = some r → Susp E cs cs' → leave E fin c cs' h (fun c' cs' => run E fin K n true c' cs' h) = some r := by
      intro c cs cs' h r hr hs
      unfold leave at hr ⊢
      cases hv : resVals E c.tm h c.res with
      | none => rw [hv] at hr; cases hr
      | some vs =>
        rw [hv] at hr
        simp only [] at hr ⊢
        cases hs with
        | nil => exact hr
        | same c1 cs1 cs1' hs1 =>
          simp only [] at hr ⊢
          split at hr
          · rename_i ops o i is p rid k htodo
            obtain ⟨hd, hr⟩ := cond_some hr
            simp only [htodo, hd, cond_true]
            exact ihA _ _ _ _ _ _ hr hs1
          · cases hr
        | diff c1 cs1 cs1' ops x l l' p rid k ht hsw hs1 =>
          obtain ⟨o, i⟩ := x
          simp only [ht] at hr ⊢
          obtain ⟨hd, hr⟩ := cond_some hr
          simp only [hd, cond_true]
          exact ihS ops l l' hsw { c1 with tm := putA c1.tm o.dst (one vs) } p rid k _ _ _ (ihA _ _ _ _ _ _ hr hs1)
    refine ⟨?_, ?_⟩
    · intro chk c cs cs' h r hr hs
      have hemp := hs.isEmpty
      cases hct : c.todo with
      | nil =>
        simp only [run, hct] at hr ⊢
        exact hleave _ _ _ _ _ hr hs
      | cons ai k =>
        cases ai with
        | code p code =>
          simp only [run, hct] at hr ⊢
          rw [hemp]
          cases hc : (chk && (cs.isEmpty && E.cut p))
          · rw [hc] at hr
            simp only [cond_false] at hr ⊢
            cases code <;> dsimp only at hr ⊢ <;> try (cases hr; done)
            case skip => exact ihA _ _ _ _ _ _ hr hs
            case label => exact ihA _ _ _ _ _ _ hr hs
            case seq => exact ihA _ _ _ _ _ _ hr hs
            case block => exact ihA _ _ _ _ _ _ hr hs
            case loop => exact ihA _ _ _ _ _ _ hr hs
            case cond x a b =>
              split at hr
              · rename_i t ht
                cases t
                · exact ihA _ _ _ _ _ _ hr hs
                · exact ihA _ _ _ _ _ _ hr hs
              · cases hr
            case exit id =>
              split at hr
              · exact ihA _ _ _ _ _ _ hr hs
              · cases hr
            case ret => exact hleave _ _ _ _ _ hr hs
            case region rid ops draw =>
              obtain ⟨hd, hr⟩ := cond_none hr
              rw [hd]
              exact ihA _ _ _ _ _ _ hr hs
          · rw [hc] at hr
            exact hr
        | inLoop p b =>
          simp only [run, hct] at hr ⊢
          exact ihA _ _ _ _ _ _ hr hs
        | inBlock p id =>
          simp only [run, hct] at hr ⊢
          exact ihA _ _ _ _ _ _ hr hs
        | inReg ops l p rid =>
          cases l with
          | nil =>
            simp only [run, hct] at hr ⊢
            exact ihA _ _ _ _ _ _ hr hs
          | cons oi is =>
            obtain ⟨o, i⟩ := oi
            rw [run_reg hct] at hr ⊢
            obtain ⟨hd, hr⟩ := cond_none hr
            rw [hd]
            simp only [cond_false]
            cases hw : wantOf ops c.tm o with
            | none => rw [hw] at hr; cases hr
            | some b =>
              rw [hw] at hr
              cases b
              · exact ihA _ _ _ _ _ _ hr hs
              · exact oneOp_mono rfl rfl (fun v h' hr => ihA _ _ _ _ _ _ hr hs) (fun f b as hr => ihA _ _ _ _ _ _ hr (.same c cs cs' hs)) hr
    · intro pre x y post c ops p rid k cs h r hij hd htodo hr
      cases pre with
      | nil =>
        obtain ⟨x, i⟩ := x
        obtain ⟨y, j⟩ := y
        obtain ⟨kx, ky⟩ := kind_of_indep hd
        simp only [List.nil_append] at htodo ⊢
        rw [run_cons htodo kx] at hr
        obtain ⟨s1, hs1, hr⟩ := Option.bind_eq_some_iff.1 hr
        cases n with
        | zero => simp [run] at hr
        | succ m =>
          rw [run_cons rfl ky] at hr
          obtain ⟨s2, hs2, hr⟩ := Option.bind_eq_some_iff.1 hr
          have hsw := opStep_swap (E := E) (ops := ops) (path := c.path) (n := c.n) (rid := rid) (x := (x, i)) (y := (y, j)) (s := (c.tm, h)) (s' := s2) hij hd (by rw [hs1]; exact hs2)
          obtain ⟨s1', p1, p2⟩ := Option.bind_eq_some_iff.1 hsw
          rw [run_cons rfl ky]
          simp only [p1, Option.bind_some]
          rw [run_cons rfl kx]
          simp only []
          rw [show ((s1'.1, s1'.2) : (Nat → AV) × H) = s1' from rfl, p2]
          exact hr
      | cons z pre =>
        obtain ⟨o, i⟩ := z
        simp only [List.cons_append] at htodo ⊢
        rw [run_reg htodo] at hr
        rw [run_reg rfl]
        obtain ⟨hdst, hr⟩ := cond_none hr
        simp only [hdst, cond_false]
        cases hw : wantOf ops c.tm o with
        | none => rw [hw] at hr; cases hr
        | some b =>
          rw [hw] at hr
          cases b
          · exact ihB pre x y post _ ops p rid k cs h r hij hd rfl hr
          · simp only [] at hr ⊢
            refine oneOp_mono (c := c) rfl rfl (fun v h' hr => ihB pre x y post _ ops p rid k cs h' r hij hd rfl hr) (fun f b as hr => ?_) hr
            exact ihA _ _ _ _ _ _ hr (.diff c cs cs ops (o, i) (pre ++ x :: y :: post) (pre ++ y :: x :: post) p rid k htodo (.step pre x y post _ hij hd (.refl _)) (Susp.refl cs))

/-! ### the orders -/
theorem Swaps.cons {ops : Array Oper} {l l' : List (Oper × Nat)} (z : Oper × Nat) (h : Swaps E ops l l') : Swaps E ops (z :: l) (z :: l') := by
  induction h with
  | refl => exact .refl _
  | step pre x y post l hij hd _ ih => exact .step (z :: pre) x y post _ hij hd ih

theorem Swaps.trans {ops : Array Oper} {l l' l'' : List (Oper × Nat)} (h : Swaps E ops l l') (h' : Swaps E ops l' l'') : Swaps E ops l l'' := by
  induction h with
  | refl => exact h'
  | step pre x y post l hij hd _ ih => exact .step pre x y post _ hij hd (ih h')

theorem Swaps.front {ops : Array Oper} {y : Oper × Nat} {post : List (Oper × Nat)} : ∀ (pre : List (Oper × Nat)), (∀ x ∈ pre, x.2 ≠ y.2 ∧ indep E ops x.1 y.1 = true) → Swaps E ops (pre ++ y :: post) (y :: (pre ++ post))
  | [], _ => .refl _
  | x :: pre, h => by
    have h1 := Swaps.front (post := post) pre (fun z hz => h z (List.mem_cons_of_mem _ hz))
    have h2 := h x (List.mem_cons_self ..)
    exact (Swaps.cons x h1).trans (.step [] x y (pre ++ post) _ h2.1 h2.2 (.refl _))

def unl (listed : Array Bool) (p : Oper × Nat) : Bool := !(listed.getD p.2 true)

theorem testBit_maskOf (acc : List Nat) (i : Nat) : ∀ (es : List Edge) (s : Nat),
    (es.foldl (fun s e => bif Region.binds .any e then s ||| 2 ^ e.on ||| (acc[e.on]?).getD 0 else s) s).testBit i = true →
    s.testBit i = true ∨ ∃ e ∈ es, Region.binds .any e = true ∧ (i = e.on ∨ ((acc[e.on]?).getD 0).testBit i = true)
  | [], s, h => .inl h
  | e :: es, s, h => by
    simp only [List.foldl_cons] at h
    rcases testBit_maskOf acc i es _ h with h | ⟨e', he', hb, hor⟩
    · cases hb : Region.binds .any e
      · rw [hb] at h; exact .inl h
      · rw [hb] at h
        simp only [cond_true, Nat.testBit_or, Bool.or_eq_true] at h
        rcases h with (h | h) | h
        · exact .inl h
        · rw [Nat.testBit_two_pow] at h
          exact .inr ⟨e, List.mem_cons_self .., hb, .inl (of_decide_eq_true h).symm⟩
        · exact .inr ⟨e, List.mem_cons_self .., hb, .inr h⟩
    · exact .inr ⟨e', List.mem_cons_of_mem _ he', hb, hor⟩

theorem masks_get : ∀ (os : List Oper) (acc : List Nat) (j : Nat), j < acc.length → (masks os acc)[j]? = acc[j]?
  | [], acc, j, _ => rfl
  | o :: os, acc, j, h => by
    simp only [masks]
    rw [masks_get os _ j (by simp; omega), List.getElem?_append_left h]

theorem masks_spec : ∀ (os : List Oper) (acc : List Nat) (j : Nat) (o : Oper) (i : Nat), os[j]? = some o → (((masks os acc)[acc.length + j]?).getD 0).testBit i = true →
    ∃ e ∈ o.after.toList, Region.binds .any e = true ∧ (i = e.on ∨ (((masks os acc)[e.on]?).getD 0).testBit i = true)
  | [], acc, j, o, i, h, _ => by simp at h
  | o' :: os, acc, 0, o, i, h, ht => by
    simp only [List.getElem?_cons_zero, Option.some.injEq] at h
    subst h
    simp only [masks, Nat.add_zero] at ht ⊢
    rw [masks_get os _ acc.length (by simp)] at ht
    simp only [List.getElem?_append_right (Nat.le_refl _), Nat.sub_self, List.getElem?_cons_zero, Option.getD_some] at ht
    unfold maskOf at ht
    rcases testBit_maskOf acc i _ _ ht with h0 | ⟨e, he, hb, hor⟩
    · simp at h0
    · refine ⟨e, he, hb, hor.imp id (fun h1 => ?_)⟩
      by_cases hlt : e.on < acc.length
      · rw [masks_get os _ e.on (by simp; omega), List.getElem?_append_left hlt]; exact h1
      · rw [List.getElem?_eq_none (by omega)] at h1; simp at h1
  | o' :: os, acc, j + 1, o, i, h, ht => by
    simp only [masks] at ht ⊢
    have := masks_spec os (acc ++ [maskOf acc o']) j o i (by simpa using h) (by
      rw [show (acc ++ [maskOf acc o']).length + j = acc.length + (j + 1) by simp; omega]; exact ht)
    exact this

theorem okAgainst_spec {ops : Array Oper} {m : Nat} {y : Oper} : ∀ (l : List (Oper × Nat)), okAgainst E ops m y l = true → ∀ x ∈ l, m.testBit x.2 = true ∨ indep E ops x.1 y = true
  | [], _, x, hx => by cases hx
  | (z, i) :: l, h, x, hx => by
    simp only [okAgainst, Bool.and_eq_true, Bool.or_eq_true] at h
    rcases List.mem_cons.1 hx with e | hx
    · subst e; exact h.1
    · exact okAgainst_spec l h.2 x hx

theorem okFrom_spec {ops : Array Oper} : ∀ (l pre : List (Oper × Nat)) (ms : List Nat), okFrom E ops pre ms l = true → ∀ (A B : List (Oper × Nat)) (y : Oper) (j : Nat), l = A ++ (y, j) :: B →
    ∀ x ∈ pre ++ A, ((ms[A.length]?).getD 0).testBit x.2 = true ∨ indep E ops x.1 y = true
  | [], pre, ms, h, A, B, y, j, hl, x, hx => by cases A <;> simp at hl
  | (z, i) :: l, pre, [], h, A, B, y, j, hl, x, hx => by simp [okFrom] at h
  | (z, i) :: l, pre, m :: ms, h, A, B, y, j, hl, x, hx => by
    simp only [okFrom, Bool.and_eq_true] at h
    cases A with
    | nil =>
      simp only [List.nil_append, List.cons.injEq, Prod.mk.injEq] at hl
      obtain ⟨⟨rfl, rfl⟩, rfl⟩ := hl
      exact okAgainst_spec _ h.1 x (by simpa using hx)
    | cons a A =>
      simp only [List.cons_append, List.cons.injEq] at hl
      obtain ⟨rfl, rfl⟩ := hl
      have := okFrom_spec _ (pre ++ [(z, i)]) ms h.2 A B y j rfl x (by simpa using hx)
      simpa using this

theorem go_swaps {ops : Array Oper} (hok : okDraw E ops = true) : ∀ (fuel t : Nat) (listed : Array Bool), listed.size = ops.size → (ops.toList.zipIdx.filter (unl listed)).length = fuel →
    (∀ j i, listed.getD j true = true → (((masks ops.toList [])[j]?).getD 0).testBit i = true → listed.getD i false = true) →
    ∃ l : List (Oper × Nat), l.map (·.2) = Region.linearise.go .any ops fuel t listed [] ∧ (∀ (o : Oper) (i : Nat), (o, i) ∈ l → ops[i]? = some o) ∧ Swaps E ops (ops.toList.zipIdx.filter (unl listed)) l := by
  unfold okDraw at hok
  simp only [Bool.and_eq_true] at hok
  obtain ⟨hback, hfrom⟩ := hok
  have hmem : ∀ (o : Oper) (i : Nat), (o, i) ∈ ops.toList.zipIdx ↔ ops[i]? = some o := fun o i => by
    rw [List.mem_zipIdx_iff_getElem?]; simp
  intro fuel
  induction fuel with
  | zero =>
    intro t listed hsz hlen hdown
    refine ⟨[], rfl, fun o i h => (by cases h), ?_⟩
    rw [List.eq_nil_of_length_eq_zero hlen]
    exact .refl _
  | succ fuel ih =>
    intro t listed hsz hlen hdown
    -- the first that is not listed is ready
    have hready : ∀ i, i ∈ Region.ready .any ops listed ↔ ∃ o, ops[i]? = some o ∧ listed.getD i true = false ∧ ∀ e ∈ o.after.toList, Region.binds .any e = true → listed.getD e.on false = true := by
      intro i
      unfold Region.ready
      simp only [List.mem_filter, List.mem_range, Bool.and_eq_true, Bool.not_eq_true']
      constructor
      · rintro ⟨hi, h1, h2⟩
        have ho : ops[i]? = some ops[i] := by simp [hi]
        rw [ho] at h2
        simp only [Option.map_some, Option.getD_some, Array.all_eq_true'] at h2
        refine ⟨_, ho, h1, fun e he hb => ?_⟩
        have := h2 e (by simpa using he)
        simpa [hb] using this
      · rintro ⟨o, ho, h1, h2⟩
        refine ⟨(Array.getElem?_eq_some_iff.1 ho).1, h1, ?_⟩
        rw [ho]
        simp only [Option.map_some, Option.getD_some, Array.all_eq_true']
        intro e he
        cases hb : Region.binds .any e
        · rfl
        · have := h2 e (by simpa using he) hb
          simpa using this
    have hne : Region.ready .any ops listed ≠ [] := by
      cases hrem : ops.toList.zipIdx.filter (unl listed) with
      | nil => rw [hrem] at hlen; simp at hlen
      | cons x rem =>
        obtain ⟨o, i⟩ := x
        have hx : (o, i) ∈ ops.toList.zipIdx.filter (unl listed) := by rw [hrem]; exact List.mem_cons_self ..
        obtain ⟨hx1, hx2⟩ := List.mem_filter.1 hx
        have ho := (hmem o i).1 hx1
        have hlow : ∀ j, j < i → listed.getD j false = true := by
          intro j hj
          have hjs : j < ops.size := by have := (Array.getElem?_eq_some_iff.1 ho).1; omega
          cases hlj : listed.getD j true
          · -- it would stand first
            exfalso
            have hm : (ops[j], j) ∈ ops.toList.zipIdx.filter (unl listed) := List.mem_filter.2 ⟨(hmem _ _).2 (by simp [hjs]), by simp [unl, hlj]⟩
            have hpw : (ops.toList.zipIdx.filter (unl listed)).Pairwise (fun a b => a.2 < b.2) := by
              apply List.Pairwise.filter
              rw [← List.pairwise_map (f := Prod.snd) (R := (· < ·)), List.zipIdx_map_snd]
              exact List.pairwise_lt_range'
            rw [hrem] at hm hpw
            rcases List.mem_cons.1 hm with e | hm
            · have := congrArg Prod.snd e
              simp at this
              omega
            · have := (List.pairwise_cons.1 hpw).1 _ hm
              simp at this
              omega
          · rw [Array.getD_eq_getD_getElem?] at hlj ⊢
            rw [Array.getElem?_eq_getElem (by omega)] at hlj ⊢
            simpa using hlj
        have : i ∈ Region.ready .any ops listed := (hready i).2 ⟨o, ho, by simpa [unl] using hx2, fun e he hb => hlow _ (by
          have h1 := List.all_eq_true.1 hback _ hx1
          have h2 := List.all_eq_true.1 h1 e he
          rw [hb] at h2
          simpa [Nat.blt_eq] using h2)⟩
        intro e
        rw [e] at this
        cases this
    simp only [Region.linearise.go]
    change ∃ l : List (Oper × Nat), l.map (·.2) = (match (Region.ready .any ops listed)[t % (Region.ready .any ops listed).length]? with
      | some i => Region.linearise.go .any ops fuel (t / (Region.ready .any ops listed).length) (listed.setIfInBounds i true) [i]
      | none => [].reverse) ∧ _
    have hlt : t % (Region.ready .any ops listed).length < (Region.ready .any ops listed).length := Nat.mod_lt _ (List.length_pos_iff.2 hne)
    rw [List.getElem?_eq_getElem hlt]
    simp only []
    generalize hi : (Region.ready .any ops listed)[t % (Region.ready .any ops listed).length] = i
    have him : i ∈ Region.ready .any ops listed := by rw [← hi]; exact List.getElem_mem hlt
    obtain ⟨o, ho, hli, hpred⟩ := (hready i).1 him
    have his : i < ops.size := (Array.getElem?_eq_some_iff.1 ho).1
    obtain ⟨A, B, hAB⟩ := List.append_of_mem ((hmem o i).2 ho)
    have hAl : A.length = i := by
      have h1 : ops.toList.zipIdx[A.length]? = some (o, i) := by rw [hAB]; simp
      rw [List.getElem?_zipIdx] at h1
      obtain ⟨a, _, h2⟩ := Option.map_eq_some_iff.1 h1
      have := (Prod.mk.inj h2).2
      omega
    have hnd : ∀ x ∈ A ++ B, x.2 ≠ i := by
      have hpw : (ops.toList.zipIdx).Pairwise (fun a b => a.2 < b.2) := by
        rw [← List.pairwise_map (f := Prod.snd) (R := (· < ·)), List.zipIdx_map_snd]
        exact List.pairwise_lt_range'
      rw [hAB] at hpw
      obtain ⟨_, h2, h3⟩ := List.pairwise_append.1 hpw
      intro x hx
      rcases List.mem_append.1 hx with hx | hx
      · have := h3 x hx _ (List.mem_cons_self ..); simp at this; omega
      · have := (List.pairwise_cons.1 h2).1 x hx; simp at this; omega
    have hmask : ∀ a, (((masks ops.toList [])[i]?).getD 0).testBit a = true → listed.getD a false = true := by
      intro a ha
      obtain ⟨e, he, hb, hor⟩ := masks_spec ops.toList [] i o a (by simpa using ho) (by simpa using ha)
      rcases hor with rfl | hor
      · exact hpred e he hb
      · have h1 := hpred e he hb
        refine hdown e.on a ?_ hor
        rw [Array.getD_eq_getD_getElem?] at h1 ⊢
        cases hx : listed[e.on]? with
        | none => rfl
        | some v => rw [hx] at h1; simpa using h1
    have hunl : unl listed (o, i) = true := by simp [unl, hli]
    have hrem : ops.toList.zipIdx.filter (unl listed) = A.filter (unl listed) ++ (o, i) :: B.filter (unl listed) := by
      rw [hAB, List.filter_append, List.filter_cons_of_pos hunl]
    have hsame : ∀ x : Oper × Nat, x.2 ≠ i → unl (listed.setIfInBounds i true) x = unl listed x := by
      intro x hx
      simp only [unl, Array.getD_eq_getD_getElem?, Array.getElem?_setIfInBounds_ne (Ne.symm hx)]
    have hrem' : ops.toList.zipIdx.filter (unl (listed.setIfInBounds i true)) = A.filter (unl listed) ++ B.filter (unl listed) := by
      rw [hAB, List.filter_append, List.filter_cons_of_neg (by simp [unl, Array.getD_eq_getD_getElem?, hsz, his])]
      rw [List.filter_congr (fun x hx => hsame x (hnd x (List.mem_append_left _ hx))), List.filter_congr (fun x hx => hsame x (hnd x (List.mem_append_right _ hx)))]
    obtain ⟨l, hl1, hl2, hl3⟩ := ih (t / (Region.ready .any ops listed).length) (listed.setIfInBounds i true) (by simp [hsz]) (by
        rw [hrem'] ; rw [hrem] at hlen; simp at hlen ⊢; omega) (by
      intro j a hj ha
      have key : listed.getD a false = true := by
        by_cases e : j = i
        · subst e; exact hmask a ha
        · refine hdown j a ?_ ha
          rw [Array.getD_eq_getD_getElem?] at hj ⊢
          rwa [Array.getElem?_setIfInBounds_ne (Ne.symm e)] at hj
      by_cases e : a = i
      · subst e
        simp [Array.getD_eq_getD_getElem?, hsz, his]
      · rw [Array.getD_eq_getD_getElem?] at key ⊢
        rwa [Array.getElem?_setIfInBounds_ne (Ne.symm e)])
    refine ⟨(o, i) :: l, ?_, fun o' i' hm => ?_, ?_⟩
    · rw [linearise_go_acc]
      simp [hl1]
    · rcases List.mem_cons.1 hm with e | hm
      · cases e; exact ho
      · exact hl2 o' i' hm
    · rw [hrem]
      refine (Swaps.front _ (fun x hx => ?_)).trans (Swaps.cons _ (hrem' ▸ hl3))
      obtain ⟨hx1, hx2⟩ := List.mem_filter.1 hx
      refine ⟨hnd x (List.mem_append_left _ hx1), ?_⟩
      rcases okFrom_spec _ [] _ hfrom A B o i hAB x (by simpa using hx1) with h1 | h1
      · rw [hAl] at h1
        have := hmask _ h1
        simp only [unl] at hx2
        rw [Array.getD_eq_getD_getElem?] at this hx2
        cases hx : listed[x.2]? with
        | none => rw [hx] at this; simp at this
        | some v => rw [hx] at this hx2; simp at this hx2; rw [this] at hx2; cases hx2
      · exact h1

theorem perm_run {fin : List AV → H → Option R} {K : AF → H → Option R} {ops : Array Oper} (hok : okDraw E ops = true) (t : Nat) {n : Nat} {c : AF} {p : List Nat} {rid : Nat} {k : List AI} {cs : List AF} {h : H} {r : R}
    (hr : run E fin K n true { c with todo := .inReg ops ops.toList.zipIdx p rid :: k } cs h = some r) :
    ∃ l : List (Oper × Nat), l.map (·.2) = Region.linearise .any ops t ∧ (∀ (o : Oper) (i : Nat), (o, i) ∈ l → ops[i]? = some o) ∧
      run E fin K n true { c with todo := .inReg ops l p rid :: k } cs h = some r := by
  have hall : ops.toList.zipIdx.filter (unl (Array.replicate ops.size false)) = ops.toList.zipIdx := by
    rw [List.filter_eq_self]
    rintro ⟨o, i⟩ hm
    rw [List.mem_zipIdx_iff_getElem?] at hm
    have := (List.getElem?_eq_some_iff.1 hm).1
    simp at this
    simp [unl, Array.getD_eq_getD_getElem?, Array.getElem?_replicate, this]
  obtain ⟨l, h1, h2, h3⟩ := go_swaps hok ops.size t (Array.replicate ops.size false) (by simp) (by rw [hall]; simp) (by
    intro j i hj hm
    exfalso
    by_cases hlt : j < ops.size
    · rw [Array.getD_eq_getD_getElem?, Array.getElem?_replicate, if_pos hlt] at hj
      simp at hj
    · have : ((masks ops.toList [])[j]?) = none := by
        have hml : ∀ (os : List Oper) (acc : List Nat), (masks os acc).length = acc.length + os.length := by
          intro os
          induction os with
          | nil => intro acc; rfl
          | cons o os ih => intro acc; simp only [masks]; rw [ih]; simp; omega
        exact List.getElem?_eq_none (by rw [hml]; simp; omega)
      rw [this] at hm
      simp at hm)
  rw [hall] at h3
  refine ⟨l, h1, h2, ?_⟩
  clear h1 h2 hall
  generalize ops.toList.zipIdx = L at h3 hr
  induction h3 generalizing c with
  | refl => exact hr
  | step pre x y post l hij hd _ ih => exact ih ((exch n).2 pre x y post { c with todo := .inReg ops (pre ++ x :: y :: post) p rid :: k } ops p rid k cs h r hij hd rfl hr)
end
end Go.Proofs.Ythdjomfkechfoaa.Vx
