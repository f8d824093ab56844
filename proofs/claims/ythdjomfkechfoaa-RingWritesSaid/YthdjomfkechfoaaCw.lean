import Derived.Test.YthdjomfkechfoaaChecked
import Derived.Test.YthdjomfkechfoaaVn
import Derived.WalkKit
import Derived.WalkSpells
import Derived.Laws.CopyOwn
import Derived.Lib.SlBuf
namespace Go.Proofs.Ythdjomfkechfoaa.Cw
open Go Go.RowKit Go.Proofs.Ythdjomfkechfoaa.Vx
set_option linter.unusedVariables false

theorem u22 : Try.prog.underlying 22 = some (.slice 5) := by kernel_rfl
theorem i5m : (Try.prog.info? 5).map (fun i => (i.zero, i.size, i.bytes)) = some (some (.int .u8 0), 1, 1) := by kernel_rfl
theorem i5 : ∃ i, Try.prog.info? 5 = some i ∧ i.zero = some (.int .u8 0) ∧ i.size = 1 ∧ i.bytes = 1 := by
  obtain ⟨i, hi, h⟩ := Option.map_eq_some_iff.1 i5m
  simp only [Prod.mk.injEq] at h
  exact ⟨i, hi, h.1, h.2.1, h.2.2⟩

theorem s5 : (Try.prog.info? 5).map (·.size) = some 1 := by kernel_rfl
theorem sz5 (w : World) : (Go.sizeOf 5).run Try.prog w = .ok 1 w := by
  simp [Go.sizeOf]
  kernel_rfl

theorem made {w w1 : World} {n : Nat} {zs : List Value} (h : w1.ownsRow w.heap.size 5 1 (.slice (some ⟨w.heap.size, 0, none⟩) n n) n zs) (k : w.grownBy w1 none) :
    ∃ cur : List Value, w1.heap[w.heap.size]? = some (.cells cur.toArray 5 (0, 0)) ∧ cur.length = n ∧ Below w.heap.size w w1 := by
  obtain ⟨_, h | ⟨g, cap, cur, hv, _, hg, _, _, hc, _⟩⟩ := h
  · exact absurd h.1 (by simp)
  · simp only [Value.slice.injEq, Option.some.injEq, Addr.mk.injEq] at hv
    obtain ⟨⟨rfl, _, _⟩, _, rfl⟩ := hv
    refine ⟨cur.toList, by simpa using hg, by simpa using hc, ⟨k.os, k.tape, k.output, k.size, fun j hj => k.block j hj (by simp)⟩⟩

theorem splice2 {α : Type} (cur xs ys : List α) (h : cur.length = xs.length + ys.length) : splice (splice cur 0 xs) xs.length ys = xs ++ ys := by
  have e1 : splice cur 0 xs = xs ++ cur.drop xs.length := by simp [splice]
  rw [e1]
  unfold splice
  have e2 : (xs ++ cur.drop xs.length).take xs.length = xs := by simp
  have e3 : (xs ++ cur.drop xs.length).drop (xs.length + ys.length) = [] := by
    apply List.drop_eq_nil_of_le; simp; omega
  rw [e2, e3]; simp

set_option maxHeartbeats 1000000 in
theorem copied_any (xs ys : List Value) (a1 a2 : Option Addr) (c1 c2 n1 n2 : Nat) (w : World)
    (hx1 : ∀ v ∈ xs, v.oneCell' = true) (hy1 : ∀ v ∈ ys, v.oneCell' = true) (hl1 : xs.length = n1) (hl2 : ys.length = n2)
    (hxc : 0 < n1 → ∃ ad, a1 = some ad ∧ ∀ j v, xs[j]? = some v → w.cell? (ad.add j) = some v)
    (hyc : 0 < n2 → ∃ ad, a2 = some ad ∧ ∀ j v, ys[j]? = some v → w.cell? (ad.add j) = some v)
    (hsz : n1 + n2 ≤ 281474976710656) :
    Calls Try.prog 25 #[.slice a1 n1 c1, .slice a2 n2 c2] w fun e w' =>
      e = .returned (.slice (some ⟨w.heap.size, 0, none⟩) (n1 + n2) (n1 + n2)) ∧ w'.heap[w.heap.size]? = some (.cells (xs ++ ys).toArray 5 (0, 0)) ∧ Below w.heap.size w w' := by
  obtain ⟨i, hi, hz, hs, hb⟩ := i5
  go_enter Try.func25, Try.ntmps25
  have hsl1 : ∀ W, (Instr.slice 22 (.slice (some ⟨w.heap.size, 0, none⟩) (n1 + n2) (n1 + n2)) (some (.int .i64 (n1 : Int))) none none).run Try.prog W = .ok (Lib.tailV w.heap.size (n1 + n2) n1) W := fun W => Lib.run_slice_tailV W 22 5 u22 sz5 _ _ _ (by omega)
  go_wp2_with (first
    | (at_make; refine wpList_make_full _ rfl _ _ _ rfl w.heap.size 5 i (.int .u8 0) 1 u22 hi hz hs .i64 .i64 ((n1 : Int) + (n2 : Int)) ((n1 : Int) + (n2 : Int)) (n1 + n2) rfl rfl (by omega) (by omega) (by rw [hb]; omega) (by unfold maxLen; omega) (Nat.le_refl _) ?_; intro w1 hown hgrow; obtain ⟨cur, hg1, hcl, hb1⟩ := made hown hgrow; clear hown hgrow)
    | (refine wpList_copy_splice rfl _ _ 22 22 rfl 5 u22 s5 _ _ _ _ _ _ rfl rfl w.heap.size 0 cur 5 hg1 xs (by rw [hl1]; exact (Nat.min_eq_left (by omega)).symm) (fun hp => ⟨rfl, (hxc (by omega)).imp fun ad h => ⟨h.1, fun j v hv => Lib.Below.cellOf hb1 (h.2 j v hv) (Nat.le_refl _)⟩⟩) (by omega) hx1 w.heap.size w hb1 (Nat.le_refl _) ?_; intro w2 hg2 hb2; rw [hl1]; clear hg1 hb1)
    | (refine wpList_copy_splice rfl _ _ 22 22 rfl 5 u22 s5 _ _ _ _ _ _ rfl rfl w.heap.size n1 (splice cur 0 xs) 5 hg2.out ys (by rw [hl2]; exact (Nat.min_eq_left (by omega)).symm) (fun hp => ⟨by rw [if_neg (by omega)], (hyc (by omega)).imp fun ad h => ⟨h.1, fun j v hv => Lib.Below.cellOf hb2 (h.2 j v hv) (Nat.le_refl _)⟩⟩) (by rw [length_splice _ _ _ (by omega)]; omega) hy1 w.heap.size w hb2 (Nat.le_refl _) ?_; intro w3 hg3 hb3; rw [hl2]; clear hg2 hb2))
  go_ret
  refine ⟨rfl, ?_, hb3⟩
  have h3 := hg3.out
  rw [← hl1, splice2 cur xs ys (by omega)] at h3
  exact h3

theorem add_plain (b o i : Nat) : (⟨b, o, none⟩ : Addr).add i = ⟨b, o + i, none⟩ := by unfold Addr.add; split <;> simp_all

abbrev bl : Lay := .one (.int .u8)
abbrev bt : TY := .sc (.sl bl)

/-- What the cells of a slice of bytes hold. -/
theorem bytes_in {w : World} {F : Nat → Nat → Prop} {xs : List Int} {v : Value} (h : bt.rep w F xs v) :
    ∃ a cap, v = .slice a xs.length cap ∧ (0 < xs.length → ∃ ad, a = some ad ∧ ∀ (j : Nat) (u : Value), (xs.map (Value.int .u8))[j]? = some u → w.cell? (ad.add j) = some u) := by
  obtain ⟨a, cap, hv, hle, h0⟩ := h
  refine ⟨a, cap, hv, fun hp => ?_⟩
  obtain ⟨B, off, rfl, h'⟩ := h0 hp
  refine ⟨_, rfl, fun j u hu => ?_⟩
  rw [List.getElem?_map] at hu
  obtain ⟨x, hx, rfl⟩ := Option.map_eq_some_iff.1 hu
  obtain ⟨u, hc, _, rfl⟩ := h' j x hx
  rw [add_plain]
  simpa [Lay.size] using hc

theorem bytes_out {w : World} {F : Nat → Nat → Prop} {xs : List Int} {g n : Nat} (hn : n = xs.length) (hF : ∀ o, F g o) (h : w.heap[g]? = some (.cells (xs.map (Value.int .u8)).toArray 5 (0, 0))) : bt.rep w F xs (.slice (some ⟨g, 0, none⟩) n n) := by
  subst hn
  refine ⟨some ⟨g, 0, none⟩, xs.length, rfl, Nat.le_refl _, fun hp => ⟨g, 0, rfl, fun i x hx => ⟨.int .u8 x, ?_, hF _, rfl⟩⟩⟩
  simp [World.cell?, h, Lay.size, hx]

theorem one8 (xs : List Int) : ∀ v ∈ xs.map (Value.int .u8), v.oneCell' = true := by
  intro v hv
  obtain ⟨x, _, rfl⟩ := List.mem_map.1 hv
  rfl

theorem copied_calls {xs ys : List Int} {v1 v2 : Value} {w : World} {F0 : Nat → Nat → Prop} (h1 : bt.rep w F0 xs v1) (h2 : bt.rep w F0 ys v2) (hb : xs.length + ys.length ≤ 281474976710656) :
    Calls Try.prog 25 #[v1, v2] w fun e w' => ∃ v, e = .returned v ∧ bt.rep w' (fun B o => B < w.heap.size → F0 B o) (List.append xs ys) v ∧ Below w.heap.size w w' := by
  obtain ⟨a1, c1, rfl, k1⟩ := bytes_in h1
  obtain ⟨a2, c2, rfl, k2⟩ := bytes_in h2
  refine (copied_any (xs.map (Value.int .u8)) (ys.map (Value.int .u8)) a1 a2 c1 c2 xs.length ys.length w (one8 xs) (one8 ys) (by simp) (by simp) k1 k2 hb).mono ?_
  rintro e w' ⟨rfl, hg, hB⟩
  exact ⟨_, rfl, bytes_out (by simp) (fun o hlt => absurd hlt (Nat.lt_irrefl _)) (by simpa using hg), hB⟩

def cp (x0 x1 : List Int) : Option (List Int × Unit) := bif decide (x0.length + x1.length ≤ 281474976710656) then some (x0 ++ x1, ()) else none

theorem copied_contract (s : Summ) (hs : s = { ps := [bt, bt], rs := [bt], F := fun x => cp x.1 x.2.1 }) : Contract Try.prog 25 s := by
  subst hs
  refine ⟨⟨Try.f25, by kernel_rfl, by kernel_rfl, by kernel_rfl⟩, ?_⟩
  intro x r hr w F0 vs hvs
  obtain ⟨v1, us1, rfl, h1, v2, us2, rfl, h2, h3⟩ := hvs
  have h3 : us2 = [] := h3
  subst h3
  have hr' : cp x.1 x.2.1 = some r := hr
  unfold cp at hr'
  by_cases hb : List.length (α := Int) x.1 + List.length (α := Int) x.2.1 ≤ 281474976710656
  · rw [decide_eq_true hb] at hr'
    have e := Option.some.inj hr'
    refine (copied_calls h1 h2 hb).mono ?_
    rintro e' w' ⟨v, rfl, hv, hB⟩
    refine ⟨[v], rfl, fun g h => ?_, hB⟩
    rw [← e]
    exact resList_rep [bt] (List.append (α := Int) x.1 x.2.1, ()) _ ⟨_, _, rfl, hv, rfl⟩
  · rw [decide_eq_false hb] at hr'
    cases hr'
end Go.Proofs.Ythdjomfkechfoaa.Cw
