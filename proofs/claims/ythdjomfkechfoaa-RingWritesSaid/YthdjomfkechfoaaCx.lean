import Derived.Test.YthdjomfkechfoaaCw
import Derived.Deep.Upon
import Derived.Deep.AppendSrc
import Derived.OwnWalk
namespace Go.Proofs.Ythdjomfkechfoaa.Cx
open Go Go.RowKit Go.Proofs.Ythdjomfkechfoaa.Vx Go.Proofs.Ythdjomfkechfoaa.Cw
set_option linter.unusedVariables false

theorem wpList_append_run (w : World) {P : Program} {ops : Array Oper} {rest : List Oper} {o : Oper} {a : Act} {Q : Exit → Act → World → Prop} (hgd : o.guard = none) (d s : Operand) (t t' : TypeId)
    (ho : o.op = .call { callee := .builtin .append, args := #[d, s], argTypes := #[t, t'] }) (v u : Value) (hd : a.eval d = v) (hs : a.eval s = u) {v' : Value} {w' : World}
    (hr : (Builtin.append_ #[t, t'] o.type #[v, u]).run P w = .ok v' w') (h : wpList P ops Q rest (a.put o.dst v') w') : wpList P ops Q (o :: rest) a w :=
  wpList_plain hgd fun _ hK => by
    unfold Oper.wp execOp
    simp only [ho, resolve, invoke, builtin, Sem.run_bind, Sem.run_pure, Result.andThen_ok, List.map_toArray, List.map_cons, List.map_nil, hd, hs, hr]
    exact hK _ _ h

theorem app (w : World) (base : Nat) (v : Value) (n : Nat) (xs : List Value) (hown : w.ownsRow base 5 1 v n xs) (a : Option Addr) (m c : Nat) (news : List Value) (hl : news.length = m)
    (hnews : 0 < m → ∃ ad, a = some ad ∧ ∀ j u, news[j]? = some u → w.cell? (ad.add j) = some u) (h1 : ∀ u ∈ news, u.oneCell' = true) (hb : n + m ≤ 140737488355328) (hbase : base ≤ w.heap.size) (ty : TypeId) :
    ∃ p cap w', (Builtin.append_ #[22, 22] ty #[v, .slice a m c]).run Try.prog w = .ok (.slice p (n + m) cap) w' ∧ w'.ownsRow base 5 1 (.slice p (n + m) cap) (n + m) (xs ++ news) ∧ w.grownBy w' v.ownBlock := by
  obtain ⟨i, hi, hz, hs, hby⟩ := i5
  have shape : ∀ {w : World} {v : Value} {n : Nat} {xs : List Value}, w.ownsRow base 5 1 v n xs → ∃ p cap, v = .slice p n cap ∧ n ≤ cap := by
    intro w v n xs h
    rcases h.2 with ⟨e1, e2⟩ | ⟨g, cap, cur, e1, _, _, e2, _⟩
    · exact ⟨none, 0, by rw [e1, e2], by omega⟩
    · exact ⟨_, cap, e1, e2⟩
  by_cases hm : 0 < m
  · obtain ⟨ad, rfl, hc⟩ := hnews hm
    obtain ⟨v', w', hr, h2, h3, _⟩ := run_append_own (P := Try.prog) w base 22 ty 5 i (.int .u8 0) 1 1 u22 hi hz hs hby rfl (by decide) v n xs hown ad m c news (by omega) hc h1 (by unfold maxLen; omega) (by omega) hbase
    obtain ⟨p, cap, rfl, _⟩ := shape h2
    exact ⟨p, cap, w', hr, h2, h3⟩
  · obtain rfl : m = 0 := by omega
    obtain rfl : news = [] := List.eq_nil_of_length_eq_zero hl
    obtain ⟨p, cap, rfl, hle⟩ := shape hown
    have hsrc : Src Try.prog i.size 22 (.slice a 0 c) 0 [] w := by
      cases a with
      | none => exact Src.ofNil w u22 c
      | some ad => exact Src.ofSlice w u22 ad 0 c [] (by simp) (fun j u hj => by simp at hj) (fun u hu => by cases hu)
    refine ⟨p, cap, w, run_append_nothing (P := Try.prog) w 22 22 ty 5 i u22 hi p n cap hle _ hsrc, by simpa using hown, World.grownBy.refl w _⟩

/-- What the new row that takes the bytes leaves. -/
theorem own_app (o0 o1 : Obj) (ys : List Value) (a2 : Option Addr) (c2 n2 : Nat) (w : World)
    (hy1 : ∀ v ∈ ys, v.oneCell' = true) (hl2 : ys.length = n2)
    (hyc : 0 < n2 → ∃ ad, a2 = some ad ∧ ∀ j v, ys[j]? = some v → w.cell? (ad.add j) = some v)
    (hsz : n2 ≤ 140737488355328) :
    ∃ p cap w2, (Builtin.append_ #[22, 22] 22 #[.slice (some ⟨w.heap.size + 1 + 1, 0, none⟩) 0 0, .slice a2 n2 c2]).run Try.prog (((w.alloc o0).alloc o1).alloc (.cells #[] 5)) = .ok (.slice p n2 cap) w2 ∧
      w2.ownsRow (w.heap.size + 1 + 1) 5 1 (.slice p n2 cap) n2 ys ∧ w2.heap[w.heap.size]? = some o0 ∧ w2.heap[w.heap.size + 1]? = some o1 ∧ Below w.heap.size w w2 ∧ w.heap.size + 1 + 1 < w2.heap.size := by
  have hsz0 : ∀ (w : World) (o : Obj), (w.alloc o).heap.size = w.heap.size + 1 := fun w o => by show (w.heap.push o).size = _; simp
  have hsz1 := hsz0 w o0
  have hsz2 : ((w.alloc o0).alloc o1).heap.size = w.heap.size + 1 + 1 := by rw [hsz0, hsz0]
  have hsz3 : (((w.alloc o0).alloc o1).alloc (.cells #[] 5)).heap.size = w.heap.size + 1 + 1 + 1 := by rw [hsz0, hsz0, hsz0]
  have hB : Below w.heap.size w (((w.alloc o0).alloc o1).alloc (.cells #[] 5)) := (((Below.refl _ w).alloc (Nat.le_refl _) _).alloc (by omega) _).alloc (by omega) _
  have hown : (((w.alloc o0).alloc o1).alloc (.cells #[] 5)).ownsRow (w.heap.size + 1 + 1) 5 1 (.slice (some ⟨w.heap.size + 1 + 1, 0, none⟩) 0 0) 0 [] := by
    have := World.ownsRow_made (base := w.heap.size + 1 + 1) (e := 5) (size := 1) ((w.alloc o0).alloc o1) #[] 0 (by omega) (by decide) rfl
    rwa [hsz2] at this
  obtain ⟨p, cap, w2, hr, ho, hg⟩ := app (((w.alloc o0).alloc o1).alloc (.cells #[] 5)) (w.heap.size + 1 + 1) _ 0 [] hown a2 n2 c2 ys hl2
    (fun h => (hyc h).imp fun ad q => ⟨q.1, fun j u hj => Lib.Below.cellOf hB (q.2 j u hj) (Nat.le_refl _)⟩) hy1 (by omega) (by omega) 22
  rw [Nat.zero_add] at hr ho
  rw [List.nil_append] at ho
  have h0 : (((w.alloc o0).alloc o1).alloc (.cells #[] 5)).heap[w.heap.size]? = some o0 := by
    rw [heap_alloc_old _ _ (by omega), heap_alloc_old _ _ (by omega)]; exact heap_alloc_new w _
  have h1 : (((w.alloc o0).alloc o1).alloc (.cells #[] 5)).heap[w.heap.size + 1]? = some o1 := by
    rw [heap_alloc_old _ _ (by omega), ← hsz1]; exact heap_alloc_new _ _
  refine ⟨p, cap, w2, hr, ho, ?_, ?_, ?_, ?_⟩
  · rw [hg.block _ (by omega) (by simp [Value.ownBlock]; omega)]; exact h0
  · rw [hg.block _ (by omega) (by simp [Value.ownBlock])]; exact h1
  · refine hB.trans ⟨hg.os, hg.tape, hg.output, hg.size, fun k hk => hg.block k (by omega) (by simp [Value.ownBlock]; omega)⟩
  · have := hg.size; omega

theorem set4 {w : World} {A : Nat} {u0 u1 u2 u3 : Value} (h : w.heap[A]? = some (.cells #[u0, u1, u2, u3] 24 (0, 0))) (v0 v1 v2 v3 : Value) :
    ((((w.setCell ⟨A, 0, none⟩ v0).setCell ⟨A, 1, none⟩ v1).setCell ⟨A, 2, none⟩ v2).setCell ⟨A, 3, none⟩ v3).heap[A]? = some (.cells #[v0, v1, v2, v3] 24 (0, 0)) := by
  have h0 := heap_setCell_same w A 0 _ 24 v0 h
  have h1 := heap_setCell_same _ A 1 _ 24 v1 h0
  have h2 := heap_setCell_same _ A 2 _ 24 v2 h1
  have h3 := heap_setCell_same _ A 3 _ 24 v3 h2
  simpa using h3

theorem own_set {w : World} {base : Nat} {v : Value} {n : Nat} {xs : List Value} (h : w.ownsRow base 5 1 v n xs) (a : Addr) (ha : a.block < base) (u : Value) : (w.setCell a u).ownsRow base 5 1 v n xs := by
  refine ⟨h.1, ?_⟩
  rcases h.2 with hn | ⟨g, cap, cur, hv, hb, hg, rest⟩
  · exact .inl hn
  · exact .inr ⟨g, cap, cur, hv, hb, by rw [heap_setCell_other _ _ _ _ (by omega)]; exact hg, rest⟩

theorem ret26 (R : Ending → World → Prop) (a : Act) (W : World) (A : Nat) (hd : a.defers = []) (h4 : a.tmps[4]? = some (.pointer (some ⟨A, 0, none⟩))) (v0 v1 v2 v3 : Value) (hA : W.heap[A]? = some (.cells #[v0, v1, v2, v3] 24 (0, 0)))
    (h : R (.returned (.agg #[v0, v1, v2, v3])) W) : bodyPost Try.prog Try.f26 R .ret a W := by
  have hc : ∀ i, W.cell? ⟨A, i, none⟩ = #[v0, v1, v2, v3][i]? := fun i => by simp [World.cell?, hA]
  have hc0 := hc 0; have hc1 := hc 1; have hc2 := hc 2; have hc3 := hc 3
  simp at hc0 hc1 hc2 hc3
  simp [bodyPost, results, Try.results26, go_sem, hd, h4, hc0, hc1, hc2, hc3]
  exact h

set_option maxHeartbeats 1000000 in
theorem own_any (b c : Int) (cl : Bool) (ys : List Value) (a1 a2 : Option Addr) (c1 c2 n1 n2 : Nat) (w : World)
    (hy1 : ∀ v ∈ ys, v.oneCell' = true) (hl2 : ys.length = n2)
    (hyc : 0 < n2 → ∃ ad, a2 = some ad ∧ ∀ j v, ys[j]? = some v → w.cell? (ad.add j) = some v)
    (hsz : n2 ≤ 140737488355328) :
    Calls Try.prog 26 #[.agg #[.int .i64 b, .slice a1 n1 c1, .int .i64 c, .bool cl], .slice a2 n2 c2] w fun e w' =>
      ∃ p cap, e = .returned (.agg #[.int .i64 b, .slice p n2 cap, .int .i64 c, .bool cl]) ∧ w'.ownsRow (w.heap.size + 1 + 1) 5 1 (.slice p n2 cap) n2 ys ∧ Below w.heap.size w w' := by
  obtain ⟨p, cap, w2, hr, ho, hA0, hA1, hB2, hs2⟩ := own_app (.cells #[.int .i64 b, .slice a1 n1 c1, .int .i64 c, .bool cl] 24) (.cells #[.int .i64 0, .slice none 0 0, .int .i64 0, .bool false] 24) ys a2 c2 n2 w hy1 hl2 hyc hsz
  have hc : ∀ i, w2.cell? ⟨w.heap.size, i, none⟩ = #[Value.int .i64 b, .slice a1 n1 c1, .int .i64 c, .bool cl][i]? := fun i => by simp [World.cell?, hA0]
  have hd : ∀ i, w2.cell? ⟨w.heap.size + 1, i, none⟩ = #[Value.int .i64 0, .slice none 0 0, .int .i64 0, .bool false][i]? := fun i => by simp [World.cell?, hA1]
  have hf : ∀ i, w2.frozen? ⟨w.heap.size, i, none⟩ = false := fun i => by simp [World.frozen?, hA0]
  have hg : ∀ i, w2.frozen? ⟨w.heap.size + 1, i, none⟩ = false := fun i => by simp [World.frozen?, hA1]
  have hc0 := hc 0; have hc1 := hc 1; have hc2 := hc 2; have hc3 := hc 3
  have hd0 := hd 0; have hd1 := hd 1; have hd2 := hd 2; have hd3 := hd 3
  have hf0 := hf 0; have hf1 := hf 1; have hf2 := hf 2; have hf3 := hf 3
  have hg0 := hg 0; have hg1 := hg 1; have hg2 := hg 2; have hg3 := hg 3
  simp at hc0 hc1 hc2 hc3 hd0 hd1 hd2 hd3
  have HA1 : Hid (w2.heap[w.heap.size + 1]? = some (.cells #[.int .i64 0, .slice none 0 0, .int .i64 0, .bool false] 24 (0, 0))) := hA1
  clear hA0 hA1 hc hd hf hg
  go_enter Try.func26, Try.ntmps26
  go_wp2_with (refine wpList_append_run _ rfl _ _ 22 22 rfl _ _ rfl rfl hr ?_)
  have HA := HA1.out
  refine ret26 _ _ _ (w.heap.size + 1) rfl rfl (.int .i64 b) (.slice p n2 cap) (.int .i64 c) (.bool cl) (set4 (by rw [heap_setCell_other _ _ _ _ (by simp)]; exact HA) _ _ _ _) ⟨p, cap, rfl, ?_, ?_⟩
  · exact own_set (own_set (own_set (own_set (own_set ho _ (by simp <;> omega) _) _ (by simp) _) _ (by simp) _) _ (by simp) _) _ (by simp) _
  · exact ((((hB2.setCell (p := ⟨w.heap.size, 1, none⟩) (Nat.le_refl _) _).setCell (p := ⟨w.heap.size + 1, 0, none⟩) (by simp) _).setCell (p := ⟨w.heap.size + 1, 1, none⟩) (by simp) _).setCell (p := ⟨w.heap.size + 1, 2, none⟩) (by simp) _).setCell (p := ⟨w.heap.size + 1, 3, none⟩) (by simp) _
end Go.Proofs.Ythdjomfkechfoaa.Cx
