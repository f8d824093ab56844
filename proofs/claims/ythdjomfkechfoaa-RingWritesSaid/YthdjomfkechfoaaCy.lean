import Derived.Test.YthdjomfkechfoaaCx
import Derived.Deep.RegionLaw
namespace Go.Proofs.Ythdjomfkechfoaa.Cy
open Go Go.RowKit Go.Proofs.Ythdjomfkechfoaa.Vx Go.Proofs.Ythdjomfkechfoaa.Cw Go.Proofs.Ythdjomfkechfoaa.Cx
set_option linter.unusedVariables false
set_option linter.unusedSimpArgs false

/-- What stands of the function's own two variables. -/
structure S (w : World) (u0 u1 u2 u3 : Value) (W : World) : Prop where
  A0 : W.heap[w.heap.size]? = some (.cells #[u0, u1, u2, u3] 24 (0, 0))
  A1 : W.heap[w.heap.size + 1]? = some (.cells #[.int .i64 0, .slice none 0 0, .int .i64 0, .bool false] 24 (0, 0))
  below : Below w.heap.size w W

section
variable {w W W' : World} {u0 u1 u2 u3 : Value}

theorem S.lt (h : S w u0 u1 u2 u3 W) : w.heap.size + 1 < W.heap.size := (Array.getElem?_eq_some_iff.1 h.A1).1

theorem S.next (h : S w u0 u1 u2 u3 W) (k : Below W.heap.size W W') : S w u0 u1 u2 u3 W' := by
  have := h.lt
  exact ⟨by rw [k.block _ (by omega)]; exact h.A0, by rw [k.block _ (by omega)]; exact h.A1, h.below.trans ⟨k.os, k.tape, k.output, k.size, fun j hj => k.block j (by omega)⟩⟩

theorem S.start : S w u0 u1 u2 u3 ((w.alloc (.cells #[u0, u1, u2, u3] 24)).alloc (.cells #[.int .i64 0, .slice none 0 0, .int .i64 0, .bool false] 24)) := by
  have hsz0 : ∀ (w : World) (o : Obj), (w.alloc o).heap.size = w.heap.size + 1 := fun w o => by show (w.heap.push o).size = _; simp
  have hsz1 := hsz0 w (.cells #[u0, u1, u2, u3] 24)
  refine ⟨?_, ?_, ((Below.refl _ w).alloc (Nat.le_refl _) _).alloc (by omega) _⟩
  · rw [heap_alloc_old _ _ (by omega)]; exact heap_alloc_new w _
  · rw [← hsz1]; exact heap_alloc_new _ _

theorem S.cells (h : S w u0 u1 u2 u3 W) : W.cell? ⟨w.heap.size, 0, none⟩ = some u0 ∧ W.cell? ⟨w.heap.size, 1, none⟩ = some u1 ∧ W.cell? ⟨w.heap.size, 2, none⟩ = some u2 ∧ W.cell? ⟨w.heap.size, 3, none⟩ = some u3 ∧
    W.cell? ⟨w.heap.size + 1, 0, none⟩ = some (.int .i64 0) ∧ W.cell? ⟨w.heap.size + 1, 1, none⟩ = some (.slice none 0 0) ∧ W.cell? ⟨w.heap.size + 1, 2, none⟩ = some (.int .i64 0) ∧ W.cell? ⟨w.heap.size + 1, 3, none⟩ = some (.bool false) ∧
    W.frozen? ⟨w.heap.size + 1, 0, none⟩ = false ∧ W.frozen? ⟨w.heap.size + 1, 1, none⟩ = false ∧ W.frozen? ⟨w.heap.size + 1, 2, none⟩ = false ∧ W.frozen? ⟨w.heap.size + 1, 3, none⟩ = false := by
  have h0 := h.A0
  have h1 := h.A1
  refine ⟨?_, ?_, ?_, ?_, ?_, ?_, ?_, ?_, ?_, ?_, ?_, ?_⟩ <;> simp [World.cell?, World.frozen?, h0, h1]
end

theorem own_base {w : World} {base base' : Nat} {v : Value} {n : Nat} {xs : List Value} (h : w.ownsRow base 5 1 v n xs) (hb : base' ≤ base) : w.ownsRow base' 5 1 v n xs := by
  refine ⟨h.1, ?_⟩
  rcases h.2 with hn | ⟨g, cap, cur, hv, hb', rest⟩
  · exact .inl hn
  · exact .inr ⟨g, cap, cur, hv, by omega, rest⟩

theorem below4 {w W : World} (h : Below w.heap.size w W) {A : Nat} (hA : w.heap.size ≤ A) (v0 v1 v2 v3 : Value) :
    Below w.heap.size w ((((W.setCell ⟨A, 0, none⟩ v0).setCell ⟨A, 1, none⟩ v1).setCell ⟨A, 2, none⟩ v2).setCell ⟨A, 3, none⟩ v3) :=
  (((h.setCell (p := ⟨A, 0, none⟩) hA _).setCell (p := ⟨A, 1, none⟩) hA _).setCell (p := ⟨A, 2, none⟩) hA _).setCell (p := ⟨A, 3, none⟩) hA _

theorem own_set' {w : World} {base : Nat} {v : Value} {n : Nat} {xs : List Value} (h : w.ownsRow base 5 1 v n xs) (a : Addr) {cs : Array Value} (ha : w.heap[a.block]? = some (.cells cs 24 (0, 0))) (u : Value) : (w.setCell a u).ownsRow base 5 1 v n xs := by
  refine ⟨h.1, ?_⟩
  rcases h.2 with hn | ⟨g, cap, cur, hv, hb, hg, rest⟩
  · exact .inl hn
  · have hne : g ≠ a.block := by
      intro e
      rw [e, ha] at hg
      simp at hg
    exact .inr ⟨g, cap, cur, hv, hb, by rw [heap_setCell_other _ _ _ _ hne]; exact hg, rest⟩

theorem add_zero (a : Addr) : a.add 0 = a := by
  obtain ⟨b, o, s⟩ := a
  unfold Addr.add
  split <;> simp_all

theorem step_append_run {P : Program} {ops : Array Oper} {o : Oper} {a : Act} {w : World} {K : Act → World → Prop} {Q : Exit → Act → World → Prop} {E : Prop} (hgd : o.guard = none) (d s : Operand) (t t' : TypeId)
    (ho : o.op = .call { callee := .builtin .append, args := #[d, s], argTypes := #[t, t'] }) (v u : Value) (hd : a.eval d = v) (hs : a.eval s = u) {v' : Value} {w' : World}
    (hr : (Builtin.append_ #[t, t'] o.type #[v, u]).run P w = .ok v' w') (hK : K (a.put o.dst v') w') :
    if Region.wanted o (yielded ops a.tmps) = true then Oper.wp P o a w K Q else E := by
  have hw : Region.wanted o (yielded ops a.tmps) = true := by simp [Region.wanted, hgd]
  rw [if_pos hw]
  unfold Oper.wp execOp
  simp only [ho, resolve, invoke, builtin, Sem.run_bind, Sem.run_pure, Result.andThen_ok, List.map_toArray, List.map_cons, List.map_nil, hd, hs, hr]
  exact hK

/-- What the bytes leave. -/
theorem good_app {w w4 : World} {u0 u1 u2 u3 v0 v2 v3 : Value} {p : Option Addr} {n1 cap m c2 : Nat} {xs news : List Value} {a2 : Option Addr} (HO : w4.ownsRow (w.heap.size + 1 + 1) 5 1 (.slice p n1 cap) n1 xs) (HS : S w u0 u1 u2 u3 w4)
    (hl : news.length = m) (hnews : 0 < m → ∃ ad, a2 = some ad ∧ ∀ j u, news[j]? = some u → w.cell? (ad.add j) = some u) (h1 : ∀ u ∈ news, u.oneCell' = true) (hb : n1 + m ≤ 140737488355328) :
    ∃ p2 cap2 w6, (Builtin.append_ #[22, 22] 22 #[.slice p n1 cap, .slice a2 m c2]).run Try.prog (w4.alloc (.cells #[v0, .slice p n1 cap, v2, v3] 24)).drew = .ok (.slice p2 (n1 + m) cap2) w6 ∧
      w6.ownsRow (w.heap.size + 1 + 1) 5 1 (.slice p2 (n1 + m) cap2) (n1 + m) (xs ++ news) ∧ S w u0 u1 u2 u3 w6 ∧ w6.heap[w4.heap.size]? = some (.cells #[v0, .slice p n1 cap, v2, v3] 24 (0, 0)) := by
  obtain ⟨V, hV⟩ : ∃ V, V = (w4.alloc (.cells #[v0, .slice p n1 cap, v2, v3] 24)).drew := ⟨_, rfl⟩
  have hB : Below w4.heap.size w4 V := by rw [hV]; exact ((Below.refl _ w4).alloc (Nat.le_refl _) _).drew
  have hnew : V.heap[w4.heap.size]? = some (.cells #[v0, .slice p n1 cap, v2, v3] 24 (0, 0)) := by rw [hV]; exact heap_alloc_new w4 _
  have hSV := HS.next hB
  have hown : V.ownsRow (w.heap.size + 1 + 1) 5 1 (.slice p n1 cap) n1 xs := by
    refine ⟨HO.1, ?_⟩
    rcases HO.2 with hn | ⟨g, cap', cur, hv, hb', hg, rest⟩
    · exact .inl hn
    · exact .inr ⟨g, cap', cur, hv, hb', by rw [hB.block _ (Array.getElem?_eq_some_iff.1 hg).1]; exact hg, rest⟩
  have hrow := World.ownsRow.lt HO
  have hltV := hSV.lt
  obtain ⟨p2, cap2, w6, hr, ho, hg⟩ := app V (w.heap.size + 1 + 1) _ n1 xs hown a2 m c2 news hl
    (fun h => (hnews h).imp fun ad q => ⟨q.1, fun j u hj => Lib.Below.cellOf hSV.below (q.2 j u hj) (Nat.le_refl _)⟩) h1 hb (by omega) 22
  have hnV : w4.heap.size < V.heap.size := (Array.getElem?_eq_some_iff.1 hnew).1
  refine ⟨p2, cap2, w6, by rw [← hV]; exact hr, ho, ⟨?_, ?_, ?_⟩, ?_⟩
  · rw [hg.block _ (by omega) (fun e => by have := hrow _ e.symm; omega)]; exact hSV.A0
  · rw [hg.block _ (by omega) (fun e => by have := hrow _ e.symm; omega)]; exact hSV.A1
  · exact hSV.below.trans ⟨hg.os, hg.tape, hg.output, hg.size, fun k hk => hg.block k (by omega) (fun e => by have := hrow _ e.symm; omega)⟩
  · rw [hg.block _ hnV (fun e => by have := hrow _ e.symm; omega)]; exact hnew

theorem ret9 (R : Ending → World → Prop) (a : Act) (W : World) (A : Nat) (hd : a.defers = []) (h4 : a.tmps[4]? = some (.pointer (some ⟨A, 0, none⟩))) (v0 v1 v2 v3 x y : Value) (h5 : a.tmps[5]? = some x) (h6 : a.tmps[6]? = some y)
    (hA : W.heap[A]? = some (.cells #[v0, v1, v2, v3] 24 (0, 0)))
    (h : R (.returned (.tuple #[.agg #[v0, v1, v2, v3], x, y])) W) : bodyPost Try.prog Try.f9 R .ret a W := by
  have hc : ∀ i, W.cell? ⟨A, i, none⟩ = #[v0, v1, v2, v3][i]? := fun i => by simp [World.cell?, hA]
  have hc0 := hc 0; have hc1 := hc 1; have hc2 := hc 2; have hc3 := hc 3
  simp at hc0 hc1 hc2 hc3
  simp [bodyPost, results, Try.results9, go_sem, hd, h4, h5, h6, hc0, hc1, hc2, hc3]
  exact h

section
variable (b c : Int) (cl : Bool) (a1 a2 : Option Addr) (c1 c2 n1 n2 : Nat) (w : World)

/-- The ring may not be. -/
theorem bad_any (e : Int) (he : e ≠ 0) (c14 : ∀ W, S w (.int .i64 b) (.slice a1 n1 c1) (.int .i64 c) (.bool cl) W → Calls Try.prog 14 #[.agg #[.int .i64 b, .slice a1 n1 c1, .int .i64 c, .bool cl]] W fun o w' => o = .returned (.int .i64 e) ∧ S w (.int .i64 b) (.slice a1 n1 c1) (.int .i64 c) (.bool cl) w') :
    Calls Try.prog 9 #[.agg #[.int .i64 b, .slice a1 n1 c1, .int .i64 c, .bool cl], .slice a2 n2 c2] w fun o w' =>
      o = .returned (.tuple #[.agg #[.int .i64 0, .slice none 0 0, .int .i64 0, .bool false], .int .i64 0, .int .i64 2]) ∧ Below w.heap.size w w' := by
  have hb : (e != 0) = true := by simpa using he
  go_enter Try.func9, Try.ntmps9
  go_wp2_with (go_at_call 14; refine (c14 _ S.start).mono ?_; rintro _ w2 ⟨rfl, hS⟩; obtain ⟨x0, x1, x2, x3, y0, y1, y2, y3, z0, z1, z2, z3⟩ := hS.cells; have HS : Hid (S w (.int .i64 b) (.slice a1 n1 c1) (.int .i64 c) (.bool cl) w2) := hS; clear hS)
  have HT := HS.out
  exact ret9 _ _ _ (w.heap.size + 1) rfl rfl (.int .i64 0) (.slice none 0 0) (.int .i64 0) (.bool false) _ _ rfl rfl (set4 HT.A1 _ _ _ _) ⟨rfl, below4 HT.below (by omega) _ _ _ _⟩

/-- The end is told. -/
theorem end_any (c14 : ∀ W, S w (.int .i64 b) (.slice a1 n1 c1) (.int .i64 c) (.bool true) W → Calls Try.prog 14 #[.agg #[.int .i64 b, .slice a1 n1 c1, .int .i64 c, .bool true]] W fun o w' => o = .returned (.int .i64 0) ∧ S w (.int .i64 b) (.slice a1 n1 c1) (.int .i64 c) (.bool true) w') :
    Calls Try.prog 9 #[.agg #[.int .i64 b, .slice a1 n1 c1, .int .i64 c, .bool true], .slice a2 n2 c2] w fun o w' =>
      o = .returned (.tuple #[.agg #[.int .i64 0, .slice none 0 0, .int .i64 0, .bool false], .int .i64 0, .int .i64 71]) ∧ Below w.heap.size w w' := by
  go_enter Try.func9, Try.ntmps9
  go_wp2_with (go_at_call 14; refine (c14 _ S.start).mono ?_; rintro _ w2 ⟨rfl, hS⟩; obtain ⟨x0, x1, x2, x3, y0, y1, y2, y3, z0, z1, z2, z3⟩ := hS.cells; have HS : Hid (S w (.int .i64 b) (.slice a1 n1 c1) (.int .i64 c) (.bool true) w2) := hS; clear hS)
  have HT := HS.out
  exact ret9 _ _ _ (w.heap.size + 1) rfl rfl (.int .i64 0) (.slice none 0 0) (.int .i64 0) (.bool false) _ _ rfl rfl (set4 HT.A1 _ _ _ _) ⟨rfl, below4 HT.below (by omega) _ _ _ _⟩

set_option maxHeartbeats 1000000 in
/-- The bytes go in. -/
theorem good_any (xs ys : List Value) (m : Nat) (room : Int)
    (hx1 : ∀ v ∈ xs, v.oneCell' = true) (hy1 : ∀ v ∈ ys, v.oneCell' = true) (hl1 : xs.length = n1) (hl2 : ys.length = n2)
    (hxc : 0 < n1 → ∃ ad, a1 = some ad ∧ ∀ j v, xs[j]? = some v → w.cell? (ad.add j) = some v)
    (hyc : 0 < n2 → ∃ ad, a2 = some ad ∧ ∀ j v, ys[j]? = some v → w.cell? (ad.add j) = some v)
    (hn1 : n1 ≤ 1073741824) (hr0 : 0 ≤ room) (hr1 : room ≤ 1073741824) (hm : (m : Int) = min (n2 : Int) room) (hcap : n2 ≤ c2)
    (c14 : ∀ W, S w (.int .i64 b) (.slice a1 n1 c1) (.int .i64 c) (.bool false) W → Calls Try.prog 14 #[.agg #[.int .i64 b, .slice a1 n1 c1, .int .i64 c, .bool false]] W fun o w' => o = .returned (.int .i64 0) ∧ S w (.int .i64 b) (.slice a1 n1 c1) (.int .i64 c) (.bool false) w')
    (c18 : ∀ W, S w (.int .i64 b) (.slice a1 n1 c1) (.int .i64 c) (.bool false) W → Calls Try.prog 18 #[.agg #[.int .i64 b, .slice a1 n1 c1, .int .i64 c, .bool false]] W fun o w' => o = .returned (.int .i64 room) ∧ S w (.int .i64 b) (.slice a1 n1 c1) (.int .i64 c) (.bool false) w') :
    Calls Try.prog 9 #[.agg #[.int .i64 b, .slice a1 n1 c1, .int .i64 c, .bool false], .slice a2 n2 c2] w fun o w' =>
      ∃ p cap, o = .returned (.tuple #[.agg #[.int .i64 b, .slice p (n1 + m) cap, .int .i64 c, .bool false], .int .i64 m, .int .i64 0]) ∧ w'.ownsRow (w.heap.size + 1 + 1) 5 1 (.slice p (n1 + m) cap) (n1 + m) (xs ++ ys.take m) ∧ Below w.heap.size w w' := by
  have hm' : min (n2 : Int) room = (m : Int) := hm.symm
  have hmn : m ≤ n2 := by omega
  have hm1 : m ≤ 1073741824 := by omega
  clear hm
  have hsl : ∀ W, (Instr.slice 22 (.slice a2 n2 c2) none (some (.int .i64 (m : Int))) none).run Try.prog W = .ok (.slice a2 m c2) W := fun W => by
    obtain ⟨i, hi, hz, hs, hb⟩ := i5
    have ht : Try.prog.underlying 22 = some (.slice (Try.prog.elem 22)) := by simp [Program.elem, u22]
    have h := run_slice_h (P := Try.prog) W 22 a2 n2 c2 ht .i64 (m : Int) (by omega) (by omega)
    rw [h]
    have he : Try.prog.elem 22 = 5 := by simp [Program.elem, u22]
    rw [he, sz5]
    have e0 : a2.map (fun x => x.add 0) = a2 := by
      cases a2 with
      | none => rfl
      | some ad => rw [Option.map_some, add_zero]
    simp [Result.andThen, sliced, e0]
  go_enter Try.func9, Try.ntmps9
  go_wp2_with (first
    | (go_at_call 14; refine (c14 _ S.start).mono ?_; rintro _ w2 ⟨rfl, hS⟩; obtain ⟨x0, x1, x2, x3, y0, y1, y2, y3, z0, z1, z2, z3⟩ := hS.cells; have HS : Hid (S w (.int .i64 b) (.slice a1 n1 c1) (.int .i64 c) (.bool false) w2) := hS; clear hS)
    | (go_at_call 18; refine (c18 _ HS.out).mono ?_; rintro _ w3 ⟨rfl, hS⟩; clear x0 x1 x2 x3 y0 y1 y2 y3 z0 z1 z2 z3 HS; obtain ⟨x0, x1, x2, x3, y0, y1, y2, y3, z0, z1, z2, z3⟩ := hS.cells; have HS : Hid (S w (.int .i64 b) (.slice a1 n1 c1) (.int .i64 c) (.bool false) w3) := hS; clear hS)
    | (go_at_call 26; refine (own_any b c false xs a1 a1 c1 c1 n1 n1 _ hx1 hl1 (fun h => (hxc h).imp fun ad q => ⟨q.1, fun j v hj => Lib.Below.cellOf HS.out.below (q.2 j v hj) (Nat.le_refl _)⟩) (by omega)).mono ?_; rintro _ w4 ⟨p, cap, rfl, ho, hB⟩; have hS := HS.out.next hB; have hlt := HS.out.lt; clear x0 x1 x2 x3 y0 y1 y2 y3 z0 z1 z2 z3 HS hB; obtain ⟨x0, x1, x2, x3, y0, y1, y2, y3, z0, z1, z2, z3⟩ := hS.cells; have HS : Hid (S w (.int .i64 b) (.slice a1 n1 c1) (.int .i64 c) (.bool false) w4) := hS; clear hS; have HO : Hid (w4.ownsRow (w.heap.size + 1 + 1) 5 1 (.slice p n1 cap) n1 xs) := own_base ho (by omega); clear ho hlt))
  have HT := HS.out
  have HP := HO.out
  obtain ⟨p2, cap2, w6, hr, ho6, hS6, hA8⟩ := good_app (v0 := .int .i64 b) (v2 := .int .i64 c) (v3 := .bool false) (a2 := a2) (m := m) (c2 := c2) (news := ys.take m) HP HT (by rw [List.length_take]; omega)
    (fun h => (hyc (by omega)).imp fun ad q => ⟨q.1, fun j u hj => q.2 j u (by rw [List.getElem?_take] at hj; split at hj; exact hj; cases hj)⟩) (fun u hu => hy1 u (List.mem_of_mem_take hu)) (by omega)
  have hc : ∀ i, w6.cell? ⟨w4.heap.size, i, none⟩ = #[Value.int .i64 b, .slice p n1 cap, .int .i64 c, .bool false][i]? := fun i => by simp [World.cell?, hA8]
  have k0 := hc 0; have k1 := hc 1; have k2 := hc 2; have k3 := hc 3
  simp at k0 k1 k2 k3
  have kf : w6.frozen? ⟨w4.heap.size, 1, none⟩ = false := by simp [World.frozen?, hA8]
  clear x0 x1 x2 x3 y0 y1 y2 y3 z0 z1 z2 z3
  obtain ⟨x0, x1, x2, x3, y0, y1, y2, y3, z0, z1, z2, z3⟩ := hS6.cells
  have hlt4 := HT.lt
  have n81 : ¬ w.heap.size = w4.heap.size := by omega
  have n82 : ¬ w.heap.size + 1 = w4.heap.size := by omega
  have n83 : ¬ w4.heap.size = w.heap.size := by omega
  have n84 : ¬ w4.heap.size = w.heap.size + 1 := by omega
  have H6 : Hid (S w (.int .i64 b) (.slice a1 n1 c1) (.int .i64 c) (.bool false) w6) := hS6
  have O6 : Hid (w6.ownsRow (w.heap.size + 1 + 1) 5 1 (.slice p2 (n1 + m) cap2) (n1 + m) (xs ++ ys.take m)) := ho6
  have H8 : Hid (w6.heap[w4.heap.size]? = some (.cells #[.int .i64 b, .slice p n1 cap, .int .i64 c, .bool false] 24 (0, 0))) := hA8
  clear hS6 ho6 HT HP HS HO hA8 hc
  go_region_law (refine step_append_run rfl (.tmp 26) (.tmp 29) 22 22 rfl (.slice p n1 cap) (.slice a2 m c2) (by simp [Act.eval, Act.put]) (by simp [Act.eval, Act.put]) hr ?_)
  go_wp2
  have HT := H6.out
  have HP := O6.out
  refine ret9 _ _ _ (w.heap.size + 1) rfl rfl (.int .i64 b) (.slice p2 (n1 + m) cap2) (.int .i64 c) (.bool false) _ _ rfl rfl (set4 (by rw [heap_setCell_other _ _ _ _ (by simp; omega)]; exact HT.A1) _ _ _ _) ⟨p2, cap2, rfl, ?_, ?_⟩
  · exact own_set (own_set (own_set (own_set (own_set' HP ⟨w4.heap.size, 1, none⟩ H8.out _) _ (by simp) _) _ (by simp) _) _ (by simp) _) _ (by simp) _
  · exact below4 (HT.below.setCell (p := ⟨w4.heap.size, 1, none⟩) (by simp; omega) _) (by omega) _ _ _ _
end

/-! ### the contract -/
abbrev rl : Lay := .cons (.int .i64) (.cons (.sl (.one (.int .u8))) (.cons (.int .i64) (.one .bool)))
abbrev rt : TY := .st rl
abbrev it : TY := .sc (.int .i64)
abbrev Rg := Int × List Int × Int × Bool

/-- A ring's value. -/
theorem ring_in {w : World} {F : Nat → Nat → Prop} {b : Int} {d : List Int} {c : Int} {cl : Bool} {v : Value} (h : rt.rep w F (b, d, c, cl) v) :
    ∃ a n cap, v = .agg #[.int .i64 b, .slice a n cap, .int .i64 c, .bool cl] ∧ n = d.length ∧ bt.rep w F d (.slice a n cap) := by
  obtain ⟨vs, rfl, v0, us0, rfl, h0, v1, us1, rfl, h1, v2, us2, rfl, h2, v3, rfl, h3⟩ := h
  have h0 : v0 = .int .i64 b := h0
  have h2 : v2 = .int .i64 c := h2
  have h3 : v3 = .bool cl := h3
  subst h0 h2 h3
  obtain ⟨a, cap, rfl, hle, h1⟩ := h1
  exact ⟨a, d.length, cap, rfl, rfl, a, cap, rfl, hle, h1⟩

theorem ring_out {w : World} {F : Nat → Nat → Prop} {b : Int} {d : List Int} {c : Int} {cl : Bool} {v : Value} (h : bt.rep w F d v) : rt.rep w F (b, d, c, cl) (.agg #[.int .i64 b, v, .int .i64 c, .bool cl]) :=
  ⟨[.int .i64 b, v, .int .i64 c, .bool cl], rfl, _, _, rfl, rfl, _, _, rfl, h, _, _, rfl, rfl, _, rfl, rfl⟩

theorem row_out {w w' : World} {F0 : Nat → Nat → Prop} {xs : List Int} {n cap base : Nat} {p : Option Addr} (hb : w.heap.size ≤ base) (hn : n = xs.length) (h : w'.ownsRow base 5 1 (.slice p n cap) n (xs.map (Value.int .u8))) :
    bt.rep w' (fun B o => B < w.heap.size → F0 B o) xs (.slice p n cap) := by
  subst hn
  rcases h.2 with ⟨e1, e2⟩ | ⟨g, cap', cur, e1, hbg, hg, hle, _, _, htake⟩
  · simp only [Value.slice.injEq] at e1
    obtain ⟨rfl, _, rfl⟩ := e1
    exact ⟨none, 0, by rw [e2], by omega, fun hp => by omega⟩
  · simp only [Value.slice.injEq] at e1
    obtain ⟨rfl, _, rfl⟩ := e1
    refine ⟨_, cap, rfl, hle, fun hp => ⟨g, 0, rfl, fun i x hx => ⟨.int .u8 x, ?_, fun hlt => by omega, rfl⟩⟩⟩
    have hi := (List.getElem?_eq_some_iff.1 hx).1
    have : (cur.toList.take (xs.length * 1))[i]? = some (.int .u8 x) := by rw [htake, List.getElem?_map, hx]; rfl
    rw [List.getElem?_take_of_lt (by omega)] at this
    simp only [World.cell?, hg, Lay.size, Nat.mul_one, Nat.zero_add]
    simpa using this

theorem nil_out {w : World} {F : Nat → Nat → Prop} : bt.rep w F ([] : List Int) (.slice none 0 0) := ⟨none, 0, rfl, Nat.le_refl _, fun h => absurd h (Nat.lt_irrefl _)⟩

theorem call_ring {f : FuncId} {F : Rg → Option (Int × Unit)} {s : Summ} (hs : s = { ps := [rt], rs := [it], F := fun x => F x.1 }) (h : Contract Try.prog f s) {b : Int} {d : List Int} {c : Int} {cl : Bool} {e : Int} (hF : F (b, d, c, cl) = some (e, ()))
    {w : World} {F0 : Nat → Nat → Prop} {v : Value} (hv : rt.rep w F0 (b, d, c, cl) v) {u0 u1 u2 u3 : Value} :
    ∀ W, S w u0 u1 u2 u3 W → Calls Try.prog f #[v] W fun o w' => o = .returned (.int .i64 e) ∧ S w u0 u1 u2 u3 w' := by
  subst hs
  intro W hS
  have hk : Keeps w F0 W (fun _ _ => True) := fun B o u _ hc => ⟨Lib.Below.cellOf hS.below hc (Nat.le_refl _), trivial⟩
  have hW := TY.rep_keeps hk rt (b, d, c, cl) v hv
  refine (h.2 ((b, d, c, cl), ()) (e, ()) hF W (fun _ _ => True) [v] ⟨v, [], rfl, hW, rfl⟩).mono ?_
  rintro o w' ⟨us, rfl, hr, hB⟩
  obtain ⟨u, us', rfl, hu, hus⟩ := hr ⟨fun _ => 0, fun _ => (0, 0, 0)⟩ H.empty
  have hus : us' = [] := hus
  subst hus
  have hu : u = .int .i64 e := hu
  subst hu
  exact ⟨rfl, hS.next hB⟩

/-- What tidewayref07.Write comes to. -/
def wr (F14 F18 : Rg → Option (Int × Unit)) (r : Rg) (x : List Int) : Option (Rg × Int × Int × Unit) :=
  (F14 r).bind fun r1 =>
  bif r1.1 != 0 then some ((0, [], 0, false), 0, 2, ()) else
  bif r.2.2.2 then some ((0, [], 0, false), 0, 71, ()) else
  (F18 r).bind fun r2 =>
  bif decide (0 ≤ r2.1) && (decide (r2.1 ≤ 1073741824) && decide (r.2.1.length ≤ 1073741824)) then
    some ((r.1, r.2.1 ++ x.take (min (x.length : Int) r2.1).toNat, r.2.2.1, r.2.2.2), min (x.length : Int) r2.1, 0, ()) else none

theorem write_calls {F14 F18 : Rg → Option (Int × Unit)} {s14 s18 : Summ} (e14 : s14 = { ps := [rt], rs := [it], F := fun x => F14 x.1 }) (h14 : Contract Try.prog 14 s14) (e18 : s18 = { ps := [rt], rs := [it], F := fun x => F18 x.1 }) (h18 : Contract Try.prog 18 s18)
    {b : Int} {d : List Int} {c : Int} {cl : Bool} {x : List Int} {r : Rg} {n e : Int} (hr : wr F14 F18 (b, d, c, cl) x = some (r, n, e, ())) {w : World} {F0 : Nat → Nat → Prop} {v1 v2 : Value} (h1 : rt.rep w F0 (b, d, c, cl) v1) (h2 : bt.rep w F0 x v2) :
    Calls Try.prog 9 #[v1, v2] w fun o w' => ∃ v, o = .returned (.tuple #[v, .int .i64 n, .int .i64 e]) ∧ rt.rep w' (fun B o => B < w.heap.size → F0 B o) r v ∧ Below w.heap.size w w' := by
  have h1' := h1
  obtain ⟨a1, n1, c1, rfl, hn1, hs1⟩ := ring_in h1'
  obtain ⟨a1', c1', q1, k1⟩ := bytes_in hs1
  simp only [Value.slice.injEq] at q1
  obtain ⟨rfl, _, rfl⟩ := q1
  obtain ⟨a2, c2, rfl, k2⟩ := bytes_in h2
  have hle2 : x.length ≤ c2 := by
    obtain ⟨a, cap, q, hle, _⟩ := h2
    simp only [Value.slice.injEq] at q
    omega
  unfold wr at hr
  obtain ⟨r1, hr1, hr⟩ := Option.bind_eq_some_iff.1 hr
  obtain ⟨e1, ⟨⟩⟩ := r1
  have c14 := call_ring (u0 := .int .i64 b) (u1 := .slice a1 n1 c1) (u2 := .int .i64 c) (u3 := .bool cl) e14 h14 hr1 h1
  by_cases hz : e1 = 0
  · subst hz
    cases cl
    · have hr' : ((F18 (b, d, c, false)).bind fun r2 =>
        bif decide (0 ≤ r2.1) && (decide (r2.1 ≤ 1073741824) && decide (d.length ≤ 1073741824)) then
          some ((b, d ++ x.take (min (x.length : Int) r2.1).toNat, c, false), min (x.length : Int) r2.1, (0 : Int), ()) else none) = some (r, n, e, ()) := hr
      obtain ⟨r2, hr2, hr3⟩ := Option.bind_eq_some_iff.1 hr'
      obtain ⟨room, ⟨⟩⟩ := r2
      have c18 := call_ring (u0 := .int .i64 b) (u1 := .slice a1 n1 c1) (u2 := .int .i64 c) (u3 := .bool false) e18 h18 hr2 h1
      obtain ⟨hq, hr4⟩ := cond_some hr3
      simp only [Bool.and_eq_true, decide_eq_true_eq] at hq
      obtain ⟨q1, q2, q3⟩ := hq
      simp only [Option.some.injEq, Prod.mk.injEq] at hr4
      obtain ⟨rfl, rfl, rfl, _⟩ := hr4
      have hm : (((min (x.length : Int) room).toNat : Nat) : Int) = min (x.length : Int) room := by omega
      refine (good_any b c a1 a2 c1 c2 n1 x.length w (d.map (Value.int .u8)) (x.map (Value.int .u8)) (min (x.length : Int) room).toNat room (one8 d) (one8 x) (by rw [List.length_map]; omega) (by simp)
        (fun h => k1 (by omega)) k2 (by omega) q1 q2 hm hle2 c14 c18).mono ?_
      rintro o w' ⟨p, cap, rfl, hrow, hB⟩
      refine ⟨_, by rw [hm], ring_out ?_, hB⟩
      refine row_out (base := w.heap.size + 1 + 1) (by omega) ?_ ?_
      · rw [List.length_append, List.length_take]; omega
      · rw [List.map_append, List.map_take]; exact hrow
    · have hr' : (some (((0, [], 0, false) : Rg), (0 : Int), (71 : Int), ()) : Option (Rg × Int × Int × Unit)) = some (r, n, e, ()) := hr
      simp only [Option.some.injEq, Prod.mk.injEq] at hr'
      obtain ⟨rfl, rfl, rfl, _⟩ := hr'
      refine (end_any b c a1 a2 c1 c2 n1 x.length w c14).mono ?_
      rintro o w' ⟨rfl, hB⟩
      exact ⟨_, rfl, ring_out nil_out, hB⟩
  · have hr' : (some (((0, [], 0, false) : Rg), (0 : Int), (2 : Int), ()) : Option (Rg × Int × Int × Unit)) = some (r, n, e, ()) := by
      rw [← hr]
      have : (e1 != 0) = true := by simpa using hz
      show _ = cond (e1 != 0) _ _
      rw [this]; rfl
    simp only [Option.some.injEq, Prod.mk.injEq] at hr'
    obtain ⟨rfl, rfl, rfl, _⟩ := hr'
    refine (bad_any b c cl a1 a2 c1 c2 n1 x.length w e1 hz c14).mono ?_
    rintro o w' ⟨rfl, hB⟩
    exact ⟨_, rfl, ring_out nil_out, hB⟩

theorem write_contract {F14 F18 : Rg → Option (Int × Unit)} {s14 s18 : Summ} (e14 : s14 = { ps := [rt], rs := [it], F := fun x => F14 x.1 }) (h14 : Contract Try.prog 14 s14) (e18 : s18 = { ps := [rt], rs := [it], F := fun x => F18 x.1 }) (h18 : Contract Try.prog 18 s18)
    (s : Summ) (hs : s = { ps := [rt, bt], rs := [rt, it, it], F := fun x => wr F14 F18 x.1 x.2.1 }) : Contract Try.prog 9 s := by
  subst hs
  refine ⟨⟨Try.f9, by kernel_rfl, by kernel_rfl, by kernel_rfl⟩, ?_⟩
  intro x r hr w F0 vs hvs
  obtain ⟨v1, us1, rfl, h1, v2, us2, rfl, h2, h3⟩ := hvs
  have h3 : us2 = [] := h3
  subst h3
  obtain ⟨⟨b, d, c, cl⟩, y, ⟨⟩⟩ := x
  obtain ⟨r1, n, e, ⟨⟩⟩ := r
  refine (write_calls e14 h14 e18 h18 hr h1 h2).mono ?_
  rintro o w' ⟨v, rfl, hv, hB⟩
  refine ⟨[v, .int .i64 n, .int .i64 e], rfl, fun g h => ?_, hB⟩
  exact resList_rep [rt, it, it] (r1, n, e, ()) _ ⟨_, _, rfl, hv, _, _, rfl, rfl, _, _, rfl, rfl, rfl⟩
end Go.Proofs.Ythdjomfkechfoaa.Cy
