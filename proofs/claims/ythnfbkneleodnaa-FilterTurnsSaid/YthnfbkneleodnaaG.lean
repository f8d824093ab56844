/-
  Ythnfbkneleodnaa: each Go function keeps its contract. Printed by gen.py, a program of this claim's own.
-/
import Derived.Test.YthnfbkneleodnaaVt
import Derived.Test.YthnfbkneleodnaaF
import Derived.Test.YthnfbkneleodnaaChecked
import Derived.KernelRfl
namespace Go.Proofs.Ythnfbkneleodnaa.Gn
open Go Go.Proofs.Ythnfbkneleodnaa.Vx Go.Proofs.Ythnfbkneleodnaa.Fn
set_option linter.unusedVariables false

noncomputable def tabs : Tabs := {
  ty := [(3, (.sc (.int .i64))), (4, (.sc .bool)), (22, (.sc (.sl (.cons (.int .i64) (.one (.int .i64)))))), (23, (.sc (.int .i64))), (28, (.st (.cons (.int .i64) (.one (.int .i64))))), (37, (.sc (.sl (.one (.int .i64)))))]
  fld := [(28, [(0, (.sc (.int .i64))), (1, (.sc (.int .i64)))])]
  el := [(22, (.st (.cons (.int .i64) (.one (.int .i64)))), 16), (37, (.sc (.int .i64)), 8)]
  eqT := [(28, (.cons (.int .i64) (.one (.int .i64))))] }
set_option maxRecDepth 100000 in
theorem tabs_ok : tabs.okB Try.prog = true := by kernel_rfl
theorem follows : Try.prog.follows .mixedOrders = true := by kernel_rfl

/-! ### 15: filter.may -/
noncomputable def sums15 : Nat → Option Summ := fun _ => none
noncomputable def bodies15 : Nat → Option Body := fun _ => none
theorem fns15 : FnsOk Try.prog sums15 bodies15 := FnsOk.none
noncomputable def s15 : Summ := { ps := [(.st (.cons (.int .i64) (.one (.int .i64))))], rs := [(.sc .bool)], F := fun x => f15 x.1 }
noncomputable def b15 : Body := Body.of Try.f15
theorem bo15 : BodyOk Try.prog 15 b15 := bodyOk_of Try.func15 (by kernel_rfl) (by kernel_rfl)
noncomputable def E15 : Env := envOf tabs sums15 bodies15 (fun _ => false)
set_option maxRecDepth 100000 in
theorem e15  (x : Den s15.ps) : run E15 (fin0 s15.rs) (Kof b15.ntmps []) 4000 true { f := 15, n := b15.ntmps, path := [], res := b15.results, tm := argTm (resList s15.ps x), todo := [.code [] b15.code] } [] H.empty = f15 x.1 := by kernel_rfl
theorem h15 : Contract Try.prog 15 s15 := by
  refine contract_of (E := E15) (envOk_of tabs_ok fns15 _) follows bo15 s15 rfl (fun _ => []) ?_ ?_ ?_
  · intro l hl x
    cases hl
  · intro n l hl x r hr
    cases hl
  · intro x r hr
    exact ⟨0, 4000, (e15 x).trans hr⟩

/-! ### 16: filter.beats -/
noncomputable def sums16 : Nat → Option Summ := addS 15 s15 sums15
noncomputable def bodies16 : Nat → Option Body := bodies15
theorem fns16 : FnsOk Try.prog sums16 bodies16 := fns15.addS h15
noncomputable def s16 : Summ := { ps := [(.sc (.int .i64)), (.sc (.int .i64)), (.sc .bool)], rs := [(.sc .bool)], F := fun x => f16 x.1 x.2.1 x.2.2.1 }
noncomputable def b16 : Body := Body.of Try.f16
theorem bo16 : BodyOk Try.prog 16 b16 := bodyOk_of Try.func16 (by kernel_rfl) (by kernel_rfl)
noncomputable def E16 : Env := envOf tabs sums16 bodies16 (fun _ => false)
set_option maxRecDepth 100000 in
theorem e16  (x : Den s16.ps) : run E16 (fin0 s16.rs) (Kof b16.ntmps []) 4000 true { f := 16, n := b16.ntmps, path := [], res := b16.results, tm := argTm (resList s16.ps x), todo := [.code [] b16.code] } [] H.empty = f16 x.1 x.2.1 x.2.2.1 := by kernel_rfl
theorem h16 : Contract Try.prog 16 s16 := by
  refine contract_of (E := E16) (envOk_of tabs_ok fns16 _) follows bo16 s16 rfl (fun _ => []) ?_ ?_ ?_
  · intro l hl x
    cases hl
  · intro n l hl x r hr
    cases hl
  · intro x r hr
    exact ⟨0, 4000, (e16 x).trans hr⟩

/-! ### 13: filter.Check -/
noncomputable def sums13 : Nat → Option Summ := addS 16 s16 sums16
noncomputable def bodies13 : Nat → Option Body := bodies16
theorem fns13 : FnsOk Try.prog sums13 bodies13 := fns16.addS h16
noncomputable def s13 : Summ := { ps := [(.sc (.sl (.cons (.int .i64) (.one (.int .i64))))), (.sc .bool)], rs := [(.sc (.int .i64))], F := fun x => f13 x.1 x.2.1 }
noncomputable def b13 : Body := Body.of Try.f13
theorem bo13 : BodyOk Try.prog 13 b13 := bodyOk_of Try.func13 (by kernel_rfl) (by kernel_rfl)
noncomputable def c13_1 : CutD := { skel := [(0, [0, 0, 1, 0, 1]), (1, [0, 1, 0, 1]), (2, [1, 0, 1]), (0, [1, 1])], dats := [(0, (.sc (.sl (.cons (.int .i64) (.one (.int .i64)))))), (1, (.sc .bool)), (7, (.sc (.sl (.cons (.int .i64) (.one (.int .i64)))))), (8, (.sc (.int .i64))), (9, (.sc (.int .i64)))], fsls := [], osls := [], ptrs := [], blks := [] }
noncomputable def cut13 : List Nat → Bool := fun p => pathEq p [0, 0, 1, 0, 1]
noncomputable def E13 : Env := envOf tabs sums13 bodies13 cut13
noncomputable abbrev l13_1 (k : (List (Int × Int)) → Bool → (List (Int × Int)) → Int → Int → Option (Int × Unit)) : Loop1 (Den s13.rs) := { cd := c13_1, F := fun s => k s.d.1 s.d.2.1 s.d.2.2.1 s.d.2.2.2.1 s.d.2.2.2.2.1 }
set_option maxRecDepth 100000 in
theorem e13 (k1 : (List (Int × Int)) → Bool → (List (Int × Int)) → Int → Int → Option (Int × Unit)) (x : Den s13.ps) : run E13 (fin0 s13.rs) (Kof b13.ntmps [l13_1 k1]) 4000 true { f := 13, n := b13.ntmps, path := [], res := b13.results, tm := argTm (resList s13.ps x), todo := [.code [] b13.code] } [] H.empty = f13e k1 x.1 x.2.1 := by kernel_rfl
set_option maxRecDepth 100000 in
theorem e13_1 (k1 : (List (Int × Int)) → Bool → (List (Int × Int)) → Int → Int → Option (Int × Unit)) (s : SD c13_1) : run E13 (fin0 s13.rs) (Kof b13.ntmps [l13_1 k1]) 4000 false (cAF 13 b13 c13_1 s) [] (cH c13_1 s) = f13s1 k1 s.d.1 s.d.2.1 s.d.2.2.1 s.d.2.2.2.1 s.d.2.2.2.2.1 := by kernel_rfl
noncomputable def lst13 (n : Nat) : List (Loop1 (Den s13.rs)) := [l13_1 (f13L n)]
theorem h13 : Contract Try.prog 13 s13 := by
  refine contract_of (E := E13) (envOk_of tabs_ok fns13 _) follows bo13 s13 rfl lst13 ?_ ?_ ?_
  · intro l hl x
    simp only [lst13, List.mem_cons, List.not_mem_nil, or_false] at hl
    rcases hl with rfl
    · rfl
  · intro n l hl x r hr
    simp only [lst13, List.mem_cons, List.not_mem_nil, or_false] at hl
    rcases hl with rfl
    · exact ⟨4000, (e13_1 (f13L n) x).trans hr⟩
  · intro x r hr
    exact ⟨x.1.length + 1005, 4000, (e13 (f13L (x.1.length + 1005)) x).trans hr⟩

/-! ### 7: filter.Put -/
noncomputable def sums7 : Nat → Option Summ := addS 13 s13 sums13
noncomputable def bodies7 : Nat → Option Body := bodies13
theorem fns7 : FnsOk Try.prog sums7 bodies7 := fns13.addS h13
noncomputable def s7 : Summ := { ps := [(.sc (.sl (.cons (.int .i64) (.one (.int .i64))))), (.sc (.int .i64)), (.sc (.int .i64)), (.sc (.int .i64)), (.sc .bool)], rs := [(.sc (.sl (.cons (.int .i64) (.one (.int .i64))))), (.sc (.int .i64))], F := fun x => f7 x.1 x.2.1 x.2.2.1 x.2.2.2.1 x.2.2.2.2.1 }
noncomputable def b7 : Body := Body.of Try.f7
theorem bo7 : BodyOk Try.prog 7 b7 := bodyOk_of Try.func7 (by kernel_rfl) (by kernel_rfl)
noncomputable def c7_1 : CutD := { skel := [(0, [0, 0, 0, 1, 1, 1, 1]), (1, [0, 0, 1, 1, 1, 1]), (2, [0, 1, 1, 1, 1]), (0, [1, 1, 1, 1, 1])], dats := [(0, (.sc (.sl (.cons (.int .i64) (.one (.int .i64)))))), (1, (.sc (.int .i64))), (2, (.sc (.int .i64))), (3, (.sc (.int .i64))), (4, (.sc .bool)), (13, (.sc (.int .i64))), (14, (.sc (.int .i64)))], fsls := [], osls := [], ptrs := [(12, [1003], 0)], blks := [([1003], (.cons (.int .i64) (.one (.int .i64))))] }
noncomputable def c7_2 : CutD := { skel := [(0, [0, 0, 0, 1, 1, 1, 1, 1]), (1, [0, 0, 1, 1, 1, 1, 1]), (2, [0, 1, 1, 1, 1, 1]), (0, [1, 1, 1, 1, 1, 1])], dats := [(0, (.sc (.sl (.cons (.int .i64) (.one (.int .i64)))))), (2, (.sc (.int .i64))), (4, (.sc .bool)), (13, (.sc (.int .i64))), (14, (.sc (.int .i64)))], fsls := [], osls := [], ptrs := [(12, [1003], 0)], blks := [([1003], (.cons (.int .i64) (.one (.int .i64))))] }
noncomputable def cut7 : List Nat → Bool := fun p => pathEq p [0, 0, 0, 1, 1, 1, 1] || pathEq p [0, 0, 0, 1, 1, 1, 1, 1]
noncomputable def E7 : Env := envOf tabs sums7 bodies7 cut7
noncomputable abbrev l7_1 (k : (List (Int × Int)) → Int → Int → Int → Bool → Int → Int → (Int × Int) → Option ((List (Int × Int)) × Int × Unit)) : Loop1 (Den s7.rs) := { cd := c7_1, F := fun s => k s.d.1 s.d.2.1 s.d.2.2.1 s.d.2.2.2.1 s.d.2.2.2.2.1 s.d.2.2.2.2.2.1 s.d.2.2.2.2.2.2.1 s.b.1 }
noncomputable abbrev l7_2 (k : (List (Int × Int)) → Int → Bool → Int → Int → (Int × Int) → Option ((List (Int × Int)) × Int × Unit)) : Loop1 (Den s7.rs) := { cd := c7_2, F := fun s => k s.d.1 s.d.2.1 s.d.2.2.1 s.d.2.2.2.1 s.d.2.2.2.2.1 s.b.1 }
set_option maxRecDepth 100000 in
theorem e7 (k1 : (List (Int × Int)) → Int → Int → Int → Bool → Int → Int → (Int × Int) → Option ((List (Int × Int)) × Int × Unit)) (k2 : (List (Int × Int)) → Int → Bool → Int → Int → (Int × Int) → Option ((List (Int × Int)) × Int × Unit)) (x : Den s7.ps) : run E7 (fin0 s7.rs) (Kof b7.ntmps [l7_1 k1, l7_2 k2]) 4000 true { f := 7, n := b7.ntmps, path := [], res := b7.results, tm := argTm (resList s7.ps x), todo := [.code [] b7.code] } [] H.empty = f7e k1 k2 x.1 x.2.1 x.2.2.1 x.2.2.2.1 x.2.2.2.2.1 := by kernel_rfl
set_option maxRecDepth 100000 in
theorem e7_1 (k1 : (List (Int × Int)) → Int → Int → Int → Bool → Int → Int → (Int × Int) → Option ((List (Int × Int)) × Int × Unit)) (k2 : (List (Int × Int)) → Int → Bool → Int → Int → (Int × Int) → Option ((List (Int × Int)) × Int × Unit)) (s : SD c7_1) : run E7 (fin0 s7.rs) (Kof b7.ntmps [l7_1 k1, l7_2 k2]) 4000 false (cAF 7 b7 c7_1 s) [] (cH c7_1 s) = f7s1 k1 k2 s.d.1 s.d.2.1 s.d.2.2.1 s.d.2.2.2.1 s.d.2.2.2.2.1 s.d.2.2.2.2.2.1 s.d.2.2.2.2.2.2.1 s.b.1 := by kernel_rfl
set_option maxRecDepth 100000 in
theorem e7_2 (k1 : (List (Int × Int)) → Int → Int → Int → Bool → Int → Int → (Int × Int) → Option ((List (Int × Int)) × Int × Unit)) (k2 : (List (Int × Int)) → Int → Bool → Int → Int → (Int × Int) → Option ((List (Int × Int)) × Int × Unit)) (s : SD c7_2) : run E7 (fin0 s7.rs) (Kof b7.ntmps [l7_1 k1, l7_2 k2]) 4000 false (cAF 7 b7 c7_2 s) [] (cH c7_2 s) = f7s2 k1 k2 s.d.1 s.d.2.1 s.d.2.2.1 s.d.2.2.2.1 s.d.2.2.2.2.1 s.b.1 := by kernel_rfl
noncomputable def lst7 (n : Nat) : List (Loop1 (Den s7.rs)) := [l7_1 (f7L n).1, l7_2 (f7L n).2]
theorem h7 : Contract Try.prog 7 s7 := by
  refine contract_of (E := E7) (envOk_of tabs_ok fns7 _) follows bo7 s7 rfl lst7 ?_ ?_ ?_
  · intro l hl x
    simp only [lst7, List.mem_cons, List.not_mem_nil, or_false] at hl
    rcases hl with rfl | rfl
    · rfl
    · rfl
  · intro n l hl x r hr
    simp only [lst7, List.mem_cons, List.not_mem_nil, or_false] at hl
    rcases hl with rfl | rfl
    · exact ⟨4000, (e7_1 (f7L n).1 (f7L n).2 x).trans hr⟩
    · exact ⟨4000, (e7_2 (f7L n).1 (f7L n).2 x).trans hr⟩
  · intro x r hr
    exact ⟨x.1.length + 1005, 4000, (e7 (f7L (x.1.length + 1005)).1 (f7L (x.1.length + 1005)).2 x).trans hr⟩

/-! ### 10: filter.Best -/
noncomputable def sums10 : Nat → Option Summ := addS 7 s7 sums7
noncomputable def bodies10 : Nat → Option Body := bodies7
theorem fns10 : FnsOk Try.prog sums10 bodies10 := fns7.addS h7
noncomputable def s10 : Summ := { ps := [(.sc (.sl (.cons (.int .i64) (.one (.int .i64)))))], rs := [(.sc (.int .i64)), (.sc .bool)], F := fun x => f10 x.1 }
noncomputable def b10 : Body := Body.of Try.f10
theorem bo10 : BodyOk Try.prog 10 b10 := bodyOk_of Try.func10 (by kernel_rfl) (by kernel_rfl)
noncomputable def E10 : Env := envOf tabs sums10 bodies10 (fun _ => false)
set_option maxRecDepth 100000 in
theorem e10  (x : Den s10.ps) : run E10 (fin0 s10.rs) (Kof b10.ntmps []) 4000 true { f := 10, n := b10.ntmps, path := [], res := b10.results, tm := argTm (resList s10.ps x), todo := [.code [] b10.code] } [] H.empty = f10 x.1 := by kernel_rfl
theorem h10 : Contract Try.prog 10 s10 := by
  refine contract_of (E := E10) (envOk_of tabs_ok fns10 _) follows bo10 s10 rfl (fun _ => []) ?_ ?_ ?_
  · intro l hl x
    cases hl
  · intro n l hl x r hr
    cases hl
  · intro x r hr
    exact ⟨0, 4000, (e10 x).trans hr⟩

/-! ### 12: tidewayref12.Same -/
noncomputable def sums12 : Nat → Option Summ := addS 10 s10 sums10
noncomputable def bodies12 : Nat → Option Body := bodies10
theorem fns12 : FnsOk Try.prog sums12 bodies12 := fns10.addS h10
noncomputable def s12 : Summ := { ps := [(.sc (.sl (.cons (.int .i64) (.one (.int .i64))))), (.sc (.sl (.cons (.int .i64) (.one (.int .i64)))))], rs := [(.sc .bool)], F := fun x => f12 x.1 x.2.1 }
noncomputable def b12 : Body := Body.of Try.f12
theorem bo12 : BodyOk Try.prog 12 b12 := bodyOk_of Try.func12 (by kernel_rfl) (by kernel_rfl)
noncomputable def c12_1 : CutD := { skel := [(0, [0, 0, 1, 0, 1, 1]), (1, [0, 1, 0, 1, 1]), (2, [1, 0, 1, 1]), (0, [1, 1, 1])], dats := [(0, (.sc (.sl (.cons (.int .i64) (.one (.int .i64)))))), (1, (.sc (.sl (.cons (.int .i64) (.one (.int .i64)))))), (5, (.sc (.int .i64)))], fsls := [], osls := [], ptrs := [], blks := [] }
noncomputable def cut12 : List Nat → Bool := fun p => pathEq p [0, 0, 1, 0, 1, 1]
noncomputable def E12 : Env := envOf tabs sums12 bodies12 cut12
noncomputable abbrev l12_1 (k : (List (Int × Int)) → (List (Int × Int)) → Int → Option (Bool × Unit)) : Loop1 (Den s12.rs) := { cd := c12_1, F := fun s => k s.d.1 s.d.2.1 s.d.2.2.1 }
set_option maxRecDepth 100000 in
theorem e12 (k1 : (List (Int × Int)) → (List (Int × Int)) → Int → Option (Bool × Unit)) (x : Den s12.ps) : run E12 (fin0 s12.rs) (Kof b12.ntmps [l12_1 k1]) 4000 true { f := 12, n := b12.ntmps, path := [], res := b12.results, tm := argTm (resList s12.ps x), todo := [.code [] b12.code] } [] H.empty = f12e k1 x.1 x.2.1 := by kernel_rfl
set_option maxRecDepth 100000 in
theorem e12_1 (k1 : (List (Int × Int)) → (List (Int × Int)) → Int → Option (Bool × Unit)) (s : SD c12_1) : run E12 (fin0 s12.rs) (Kof b12.ntmps [l12_1 k1]) 4000 false (cAF 12 b12 c12_1 s) [] (cH c12_1 s) = f12s1 k1 s.d.1 s.d.2.1 s.d.2.2.1 := by kernel_rfl
noncomputable def lst12 (n : Nat) : List (Loop1 (Den s12.rs)) := [l12_1 (f12L n)]
theorem h12 : Contract Try.prog 12 s12 := by
  refine contract_of (E := E12) (envOk_of tabs_ok fns12 _) follows bo12 s12 rfl lst12 ?_ ?_ ?_
  · intro l hl x
    simp only [lst12, List.mem_cons, List.not_mem_nil, or_false] at hl
    rcases hl with rfl
    · rfl
  · intro n l hl x r hr
    simp only [lst12, List.mem_cons, List.not_mem_nil, or_false] at hl
    rcases hl with rfl
    · exact ⟨4000, (e12_1 (f12L n) x).trans hr⟩
  · intro x r hr
    exact ⟨x.1.length + x.2.1.length + 1005, 4000, (e12 (f12L (x.1.length + x.2.1.length + 1005)) x).trans hr⟩

/-! ### 8: tidewaylaw12.heads -/
noncomputable def sums8 : Nat → Option Summ := addS 12 s12 sums12
noncomputable def bodies8 : Nat → Option Body := bodies12
theorem fns8 : FnsOk Try.prog sums8 bodies8 := fns12.addS h12
noncomputable def s8 : Summ := { ps := [], rs := [(.sc .bool)], F := fun x => f8 }
noncomputable def b8 : Body := Body.of Try.f8
theorem bo8 : BodyOk Try.prog 8 b8 := bodyOk_of Try.func8 (by kernel_rfl) (by kernel_rfl)
noncomputable def E8 : Env := envOf tabs sums8 bodies8 (fun _ => false)
set_option maxRecDepth 100000 in
theorem e8  (x : Den s8.ps) : run E8 (fin0 s8.rs) (Kof b8.ntmps []) 4000 true { f := 8, n := b8.ntmps, path := [], res := b8.results, tm := argTm (resList s8.ps x), todo := [.code [] b8.code] } [] H.empty = f8  := by kernel_rfl
theorem h8 : Contract Try.prog 8 s8 := by
  refine contract_of (E := E8) (envOk_of tabs_ok fns8 _) follows bo8 s8 rfl (fun _ => []) ?_ ?_ ?_
  · intro l hl x
    cases hl
  · intro n l hl x r hr
    cases hl
  · intro x r hr
    exact ⟨0, 4000, (e8 x).trans hr⟩

/-! ### 3: tidewaylaw12.FilterOld -/
noncomputable def sums3 : Nat → Option Summ := addS 8 s8 sums8
noncomputable def bodies3 : Nat → Option Body := bodies8
theorem fns3 : FnsOk Try.prog sums3 bodies3 := fns8.addS h8
noncomputable def s3 : Summ := { ps := [(.sc (.sl (.cons (.int .i64) (.one (.int .i64))))), (.sc (.int .i64)), (.sc (.int .i64)), (.sc (.int .i64))], rs := [(.sc .bool)], F := fun x => f3 x.1 x.2.1 x.2.2.1 x.2.2.2.1 }
noncomputable def b3 : Body := Body.of Try.f3
theorem bo3 : BodyOk Try.prog 3 b3 := bodyOk_of Try.func3 (by kernel_rfl) (by kernel_rfl)
noncomputable def c3_1 : CutD := { skel := [(0, [0, 0, 1, 0, 1, 1, 1, 1]), (1, [0, 1, 0, 1, 1, 1, 1]), (2, [1, 0, 1, 1, 1, 1]), (0, [1, 1, 1, 1, 1])], dats := [(0, (.sc (.sl (.cons (.int .i64) (.one (.int .i64)))))), (1, (.sc (.int .i64))), (2, (.sc (.int .i64))), (3, (.sc (.int .i64))), (9, (.sc (.sl (.cons (.int .i64) (.one (.int .i64)))))), (11, (.sc (.int .i64))), (12, (.sc (.int .i64)))], fsls := [], osls := [], ptrs := [], blks := [] }
noncomputable def cut3 : List Nat → Bool := fun p => pathEq p [0, 0, 1, 0, 1, 1, 1, 1]
noncomputable def E3 : Env := envOf tabs sums3 bodies3 cut3
noncomputable abbrev l3_1 (k : (List (Int × Int)) → Int → Int → Int → (List (Int × Int)) → Int → Int → Option (Bool × Unit)) : Loop1 (Den s3.rs) := { cd := c3_1, F := fun s => k s.d.1 s.d.2.1 s.d.2.2.1 s.d.2.2.2.1 s.d.2.2.2.2.1 s.d.2.2.2.2.2.1 s.d.2.2.2.2.2.2.1 }
set_option maxRecDepth 100000 in
theorem e3 (k1 : (List (Int × Int)) → Int → Int → Int → (List (Int × Int)) → Int → Int → Option (Bool × Unit)) (x : Den s3.ps) : run E3 (fin0 s3.rs) (Kof b3.ntmps [l3_1 k1]) 4000 true { f := 3, n := b3.ntmps, path := [], res := b3.results, tm := argTm (resList s3.ps x), todo := [.code [] b3.code] } [] H.empty = f3e k1 x.1 x.2.1 x.2.2.1 x.2.2.2.1 := by kernel_rfl
set_option maxRecDepth 100000 in
theorem e3_1 (k1 : (List (Int × Int)) → Int → Int → Int → (List (Int × Int)) → Int → Int → Option (Bool × Unit)) (s : SD c3_1) : run E3 (fin0 s3.rs) (Kof b3.ntmps [l3_1 k1]) 4000 false (cAF 3 b3 c3_1 s) [] (cH c3_1 s) = f3s1 k1 s.d.1 s.d.2.1 s.d.2.2.1 s.d.2.2.2.1 s.d.2.2.2.2.1 s.d.2.2.2.2.2.1 s.d.2.2.2.2.2.2.1 := by kernel_rfl
noncomputable def lst3 (n : Nat) : List (Loop1 (Den s3.rs)) := [l3_1 (f3L n)]
theorem h3 : Contract Try.prog 3 s3 := by
  refine contract_of (E := E3) (envOk_of tabs_ok fns3 _) follows bo3 s3 rfl lst3 ?_ ?_ ?_
  · intro l hl x
    simp only [lst3, List.mem_cons, List.not_mem_nil, or_false] at hl
    rcases hl with rfl
    · rfl
  · intro n l hl x r hr
    simp only [lst3, List.mem_cons, List.not_mem_nil, or_false] at hl
    rcases hl with rfl
    · exact ⟨4000, (e3_1 (f3L n) x).trans hr⟩
  · intro x r hr
    exact ⟨x.1.length + 1005, 4000, (e3 (f3L (x.1.length + 1005)) x).trans hr⟩

/-! ### 17: tidewayref12.time -/
noncomputable def sums17 : Nat → Option Summ := addS 3 s3 sums3
noncomputable def bodies17 : Nat → Option Body := bodies3
theorem fns17 : FnsOk Try.prog sums17 bodies17 := fns3.addS h3
noncomputable def s17 : Summ := { ps := [(.sc (.int .i64))], rs := [(.sc .bool)], F := fun x => f17 x.1 }
noncomputable def b17 : Body := Body.of Try.f17
theorem bo17 : BodyOk Try.prog 17 b17 := bodyOk_of Try.func17 (by kernel_rfl) (by kernel_rfl)
noncomputable def E17 : Env := envOf tabs sums17 bodies17 (fun _ => false)
set_option maxRecDepth 100000 in
theorem e17  (x : Den s17.ps) : run E17 (fin0 s17.rs) (Kof b17.ntmps []) 4000 true { f := 17, n := b17.ntmps, path := [], res := b17.results, tm := argTm (resList s17.ps x), todo := [.code [] b17.code] } [] H.empty = f17 x.1 := by kernel_rfl
theorem h17 : Contract Try.prog 17 s17 := by
  refine contract_of (E := E17) (envOk_of tabs_ok fns17 _) follows bo17 s17 rfl (fun _ => []) ?_ ?_ ?_
  · intro l hl x
    cases hl
  · intro n l hl x r hr
    cases hl
  · intro x r hr
    exact ⟨0, 4000, (e17 x).trans hr⟩

/-! ### 18: tidewayref12.value -/
noncomputable def sums18 : Nat → Option Summ := addS 17 s17 sums17
noncomputable def bodies18 : Nat → Option Body := bodies17
theorem fns18 : FnsOk Try.prog sums18 bodies18 := fns17.addS h17
noncomputable def s18 : Summ := { ps := [(.sc (.int .i64))], rs := [(.sc .bool)], F := fun x => f18 x.1 }
noncomputable def b18 : Body := Body.of Try.f18
theorem bo18 : BodyOk Try.prog 18 b18 := bodyOk_of Try.func18 (by kernel_rfl) (by kernel_rfl)
noncomputable def E18 : Env := envOf tabs sums18 bodies18 (fun _ => false)
set_option maxRecDepth 100000 in
theorem e18  (x : Den s18.ps) : run E18 (fin0 s18.rs) (Kof b18.ntmps []) 4000 true { f := 18, n := b18.ntmps, path := [], res := b18.results, tm := argTm (resList s18.ps x), todo := [.code [] b18.code] } [] H.empty = f18 x.1 := by kernel_rfl
theorem h18 : Contract Try.prog 18 s18 := by
  refine contract_of (E := E18) (envOk_of tabs_ok fns18 _) follows bo18 s18 rfl (fun _ => []) ?_ ?_ ?_
  · intro l hl x
    cases hl
  · intro n l hl x r hr
    cases hl
  · intro x r hr
    exact ⟨0, 4000, (e18 x).trans hr⟩

/-! ### 14: tidewayref12.Check -/
noncomputable def sums14 : Nat → Option Summ := addS 18 s18 sums18
noncomputable def bodies14 : Nat → Option Body := bodies18
theorem fns14 : FnsOk Try.prog sums14 bodies14 := fns18.addS h18
noncomputable def s14 : Summ := { ps := [(.sc (.sl (.cons (.int .i64) (.one (.int .i64))))), (.sc .bool)], rs := [(.sc (.int .i64))], F := fun x => f14 x.1 x.2.1 }
noncomputable def b14 : Body := Body.of Try.f14
theorem bo14 : BodyOk Try.prog 14 b14 := bodyOk_of Try.func14 (by kernel_rfl) (by kernel_rfl)
noncomputable def c14_1 : CutD := { skel := [(0, [0, 0, 1, 0, 1]), (1, [0, 1, 0, 1]), (2, [1, 0, 1]), (0, [1, 1])], dats := [(0, (.sc (.sl (.cons (.int .i64) (.one (.int .i64)))))), (1, (.sc .bool)), (5, (.sc (.int .i64)))], fsls := [], osls := [], ptrs := [], blks := [] }
noncomputable def cut14 : List Nat → Bool := fun p => pathEq p [0, 0, 1, 0, 1]
noncomputable def E14 : Env := envOf tabs sums14 bodies14 cut14
noncomputable abbrev l14_1 (k : (List (Int × Int)) → Bool → Int → Option (Int × Unit)) : Loop1 (Den s14.rs) := { cd := c14_1, F := fun s => k s.d.1 s.d.2.1 s.d.2.2.1 }
set_option maxRecDepth 100000 in
theorem e14 (k1 : (List (Int × Int)) → Bool → Int → Option (Int × Unit)) (x : Den s14.ps) : run E14 (fin0 s14.rs) (Kof b14.ntmps [l14_1 k1]) 4000 true { f := 14, n := b14.ntmps, path := [], res := b14.results, tm := argTm (resList s14.ps x), todo := [.code [] b14.code] } [] H.empty = f14e k1 x.1 x.2.1 := by kernel_rfl
set_option maxRecDepth 100000 in
theorem e14_1 (k1 : (List (Int × Int)) → Bool → Int → Option (Int × Unit)) (s : SD c14_1) : run E14 (fin0 s14.rs) (Kof b14.ntmps [l14_1 k1]) 4000 false (cAF 14 b14 c14_1 s) [] (cH c14_1 s) = f14s1 k1 s.d.1 s.d.2.1 s.d.2.2.1 := by kernel_rfl
noncomputable def lst14 (n : Nat) : List (Loop1 (Den s14.rs)) := [l14_1 (f14L n)]
theorem h14 : Contract Try.prog 14 s14 := by
  refine contract_of (E := E14) (envOk_of tabs_ok fns14 _) follows bo14 s14 rfl lst14 ?_ ?_ ?_
  · intro l hl x
    simp only [lst14, List.mem_cons, List.not_mem_nil, or_false] at hl
    rcases hl with rfl
    · rfl
  · intro n l hl x r hr
    simp only [lst14, List.mem_cons, List.not_mem_nil, or_false] at hl
    rcases hl with rfl
    · exact ⟨4000, (e14_1 (f14L n) x).trans hr⟩
  · intro x r hr
    exact ⟨x.1.length + 1005, 4000, (e14 (f14L (x.1.length + 1005)) x).trans hr⟩

/-! ### 9: tidewayref12.Put -/
noncomputable def sums9 : Nat → Option Summ := addS 14 s14 sums14
noncomputable def bodies9 : Nat → Option Body := bodies14
theorem fns9 : FnsOk Try.prog sums9 bodies9 := fns14.addS h14
noncomputable def s9 : Summ := { ps := [(.sc (.sl (.cons (.int .i64) (.one (.int .i64))))), (.sc (.int .i64)), (.sc (.int .i64)), (.sc (.int .i64)), (.sc .bool)], rs := [(.sc (.sl (.cons (.int .i64) (.one (.int .i64))))), (.sc (.int .i64))], F := fun x => f9 x.1 x.2.1 x.2.2.1 x.2.2.2.1 x.2.2.2.2.1 }
noncomputable def b9 : Body := Body.of Try.f9
theorem bo9 : BodyOk Try.prog 9 b9 := bodyOk_of Try.func9 (by kernel_rfl) (by kernel_rfl)
noncomputable def c9_1 : CutD := { skel := [(0, [0, 0, 1, 0, 1, 1, 1]), (1, [0, 1, 0, 1, 1, 1]), (2, [1, 0, 1, 1, 1]), (0, [1, 1, 1, 1])], dats := [(0, (.sc (.sl (.cons (.int .i64) (.one (.int .i64)))))), (1, (.sc (.int .i64))), (2, (.sc (.int .i64))), (3, (.sc (.int .i64))), (4, (.sc .bool)), (13, (.sc (.int .i64)))], fsls := [], osls := [(12, (.cons (.int .i64) (.one (.int .i64))))], ptrs := [], blks := [] }
noncomputable def cut9 : List Nat → Bool := fun p => pathEq p [0, 0, 1, 0, 1, 1, 1]
noncomputable def E9 : Env := envOf tabs sums9 bodies9 cut9
noncomputable abbrev l9_1 (k : (List (Int × Int)) → Int → Int → Int → Bool → Int → (List (Int × Int)) → Option ((List (Int × Int)) × Int × Unit)) : Loop1 (Den s9.rs) := { cd := c9_1, F := fun s => k s.d.1 s.d.2.1 s.d.2.2.1 s.d.2.2.2.1 s.d.2.2.2.2.1 s.d.2.2.2.2.2.1 s.o.1 }
set_option maxRecDepth 100000 in
theorem e9 (k1 : (List (Int × Int)) → Int → Int → Int → Bool → Int → (List (Int × Int)) → Option ((List (Int × Int)) × Int × Unit)) (x : Den s9.ps) : run E9 (fin0 s9.rs) (Kof b9.ntmps [l9_1 k1]) 4000 true { f := 9, n := b9.ntmps, path := [], res := b9.results, tm := argTm (resList s9.ps x), todo := [.code [] b9.code] } [] H.empty = f9e k1 x.1 x.2.1 x.2.2.1 x.2.2.2.1 x.2.2.2.2.1 := by kernel_rfl
set_option maxRecDepth 100000 in
theorem e9_1 (k1 : (List (Int × Int)) → Int → Int → Int → Bool → Int → (List (Int × Int)) → Option ((List (Int × Int)) × Int × Unit)) (s : SD c9_1) : run E9 (fin0 s9.rs) (Kof b9.ntmps [l9_1 k1]) 4000 false (cAF 9 b9 c9_1 s) [] (cH c9_1 s) = f9s1 k1 s.d.1 s.d.2.1 s.d.2.2.1 s.d.2.2.2.1 s.d.2.2.2.2.1 s.d.2.2.2.2.2.1 s.o.1 := by kernel_rfl
noncomputable def lst9 (n : Nat) : List (Loop1 (Den s9.rs)) := [l9_1 (f9L n)]
theorem h9 : Contract Try.prog 9 s9 := by
  refine contract_of (E := E9) (envOk_of tabs_ok fns9 _) follows bo9 s9 rfl lst9 ?_ ?_ ?_
  · intro l hl x
    simp only [lst9, List.mem_cons, List.not_mem_nil, or_false] at hl
    rcases hl with rfl
    · rfl
  · intro n l hl x r hr
    simp only [lst9, List.mem_cons, List.not_mem_nil, or_false] at hl
    rcases hl with rfl
    · exact ⟨4000, (e9_1 (f9L n) x).trans hr⟩
  · intro x r hr
    exact ⟨x.1.length + 1005, 4000, (e9 (f9L (x.1.length + 1005)) x).trans hr⟩

/-! ### 11: tidewayref12.Best -/
noncomputable def sums11 : Nat → Option Summ := addS 9 s9 sums9
noncomputable def bodies11 : Nat → Option Body := bodies9
theorem fns11 : FnsOk Try.prog sums11 bodies11 := fns9.addS h9
noncomputable def s11 : Summ := { ps := [(.sc (.sl (.cons (.int .i64) (.one (.int .i64)))))], rs := [(.sc (.int .i64)), (.sc .bool)], F := fun x => f11 x.1 }
noncomputable def b11 : Body := Body.of Try.f11
theorem bo11 : BodyOk Try.prog 11 b11 := bodyOk_of Try.func11 (by kernel_rfl) (by kernel_rfl)
noncomputable def E11 : Env := envOf tabs sums11 bodies11 (fun _ => false)
set_option maxRecDepth 100000 in
theorem e11  (x : Den s11.ps) : run E11 (fin0 s11.rs) (Kof b11.ntmps []) 4000 true { f := 11, n := b11.ntmps, path := [], res := b11.results, tm := argTm (resList s11.ps x), todo := [.code [] b11.code] } [] H.empty = f11 x.1 := by kernel_rfl
theorem h11 : Contract Try.prog 11 s11 := by
  refine contract_of (E := E11) (envOk_of tabs_ok fns11 _) follows bo11 s11 rfl (fun _ => []) ?_ ?_ ?_
  · intro l hl x
    cases hl
  · intro n l hl x r hr
    cases hl
  · intro x r hr
    exact ⟨0, 4000, (e11 x).trans hr⟩

/-! ### 4: tidewaylaw12.FilterPuts -/
noncomputable def sums4 : Nat → Option Summ := addS 11 s11 sums11
noncomputable def bodies4 : Nat → Option Body := bodies11
theorem fns4 : FnsOk Try.prog sums4 bodies4 := fns11.addS h11
noncomputable def s4 : Summ := { ps := [(.sc (.sl (.cons (.int .i64) (.one (.int .i64))))), (.sc (.int .i64)), (.sc (.int .i64)), (.sc (.int .i64))], rs := [(.sc .bool)], F := fun x => f4 x.1 x.2.1 x.2.2.1 x.2.2.2.1 }
noncomputable def b4 : Body := Body.of Try.f4
theorem bo4 : BodyOk Try.prog 4 b4 := bodyOk_of Try.func4 (by kernel_rfl) (by kernel_rfl)
noncomputable def E4 : Env := envOf tabs sums4 bodies4 (fun _ => false)
set_option maxRecDepth 100000 in
theorem e4  (x : Den s4.ps) : run E4 (fin0 s4.rs) (Kof b4.ntmps []) 4000 true { f := 4, n := b4.ntmps, path := [], res := b4.results, tm := argTm (resList s4.ps x), todo := [.code [] b4.code] } [] H.empty = f4 x.1 x.2.1 x.2.2.1 x.2.2.2.1 := by kernel_rfl
theorem h4 : Contract Try.prog 4 s4 := by
  refine contract_of (E := E4) (envOk_of tabs_ok fns4 _) follows bo4 s4 rfl (fun _ => []) ?_ ?_ ?_
  · intro l hl x
    cases hl
  · intro n l hl x r hr
    cases hl
  · intro x r hr
    exact ⟨0, 4000, (e4 x).trans hr⟩

/-! ### 5: tidewaylaw12.FilterBest -/
noncomputable def sums5 : Nat → Option Summ := addS 4 s4 sums4
noncomputable def bodies5 : Nat → Option Body := bodies4
theorem fns5 : FnsOk Try.prog sums5 bodies5 := fns4.addS h4
noncomputable def s5 : Summ := { ps := [(.sc (.sl (.cons (.int .i64) (.one (.int .i64))))), (.sc (.int .i64)), (.sc .bool)], rs := [(.sc .bool)], F := fun x => f5 x.1 x.2.1 x.2.2.1 }
noncomputable def b5 : Body := Body.of Try.f5
theorem bo5 : BodyOk Try.prog 5 b5 := bodyOk_of Try.func5 (by kernel_rfl) (by kernel_rfl)
noncomputable def c5_1 : CutD := { skel := [(0, [0, 0, 1, 0, 1, 1, 1, 1, 1]), (1, [0, 1, 0, 1, 1, 1, 1, 1]), (2, [1, 0, 1, 1, 1, 1, 1]), (0, [1, 1, 1, 1, 1, 1])], dats := [(0, (.sc (.sl (.cons (.int .i64) (.one (.int .i64)))))), (1, (.sc (.int .i64))), (2, (.sc .bool)), (7, (.sc (.sl (.cons (.int .i64) (.one (.int .i64)))))), (8, (.sc (.int .i64))), (10, (.sc (.int .i64)))], fsls := [], osls := [(9, (.one (.int .i64)))], ptrs := [], blks := [] }
noncomputable def c5_2 : CutD := { skel := [(0, [0, 0, 1, 0, 1, 1, 1, 1, 1, 1, 1, 0, 0, 1, 0, 0, 1, 0, 1, 1, 1, 1, 1]), (1, [0, 1, 0, 1, 1, 1, 1, 1, 1, 1, 0, 0, 1, 0, 0, 1, 0, 1, 1, 1, 1, 1]), (2, [1, 0, 1, 1, 1, 1, 1, 1, 1, 0, 0, 1, 0, 0, 1, 0, 1, 1, 1, 1, 1]), (0, [1, 1, 1, 1, 1, 1, 1, 1, 0, 0, 1, 0, 0, 1, 0, 1, 1, 1, 1, 1]), (2, [0, 1, 0, 0, 1, 0, 1, 1, 1, 1, 1]), (0, [1, 1, 0, 0, 1, 0, 1, 1, 1, 1, 1]), (1, [0, 1, 0, 1, 1, 1, 1, 1]), (2, [1, 0, 1, 1, 1, 1, 1]), (0, [1, 1, 1, 1, 1, 1])], dats := [(0, (.sc (.sl (.cons (.int .i64) (.one (.int .i64)))))), (1, (.sc (.int .i64))), (2, (.sc .bool)), (7, (.sc (.sl (.cons (.int .i64) (.one (.int .i64)))))), (8, (.sc (.int .i64))), (10, (.sc (.int .i64))), (13, (.sc (.int .i64))), (14, (.sc (.int .i64)))], fsls := [], osls := [(9, (.one (.int .i64)))], ptrs := [], blks := [] }
noncomputable def cut5 : List Nat → Bool := fun p => pathEq p [0, 0, 1, 0, 1, 1, 1, 1, 1] || pathEq p [0, 0, 1, 0, 1, 1, 1, 1, 1, 1, 1, 0, 0, 1, 0, 0, 1, 0, 1, 1, 1, 1, 1]
noncomputable def E5 : Env := envOf tabs sums5 bodies5 cut5
noncomputable abbrev l5_1 (k : (List (Int × Int)) → Int → Bool → (List (Int × Int)) → Int → Int → (List (Int)) → Option (Bool × Unit)) : Loop1 (Den s5.rs) := { cd := c5_1, F := fun s => k s.d.1 s.d.2.1 s.d.2.2.1 s.d.2.2.2.1 s.d.2.2.2.2.1 s.d.2.2.2.2.2.1 s.o.1 }
noncomputable abbrev l5_2 (k : (List (Int × Int)) → Int → Bool → (List (Int × Int)) → Int → Int → Int → Int → (List (Int)) → Option (Bool × Unit)) : Loop1 (Den s5.rs) := { cd := c5_2, F := fun s => k s.d.1 s.d.2.1 s.d.2.2.1 s.d.2.2.2.1 s.d.2.2.2.2.1 s.d.2.2.2.2.2.1 s.d.2.2.2.2.2.2.1 s.d.2.2.2.2.2.2.2.1 s.o.1 }
set_option maxRecDepth 100000 in
theorem e5 (k1 : (List (Int × Int)) → Int → Bool → (List (Int × Int)) → Int → Int → (List (Int)) → Option (Bool × Unit)) (k2 : (List (Int × Int)) → Int → Bool → (List (Int × Int)) → Int → Int → Int → Int → (List (Int)) → Option (Bool × Unit)) (x : Den s5.ps) : run E5 (fin0 s5.rs) (Kof b5.ntmps [l5_1 k1, l5_2 k2]) 4000 true { f := 5, n := b5.ntmps, path := [], res := b5.results, tm := argTm (resList s5.ps x), todo := [.code [] b5.code] } [] H.empty = f5e k1 k2 x.1 x.2.1 x.2.2.1 := by kernel_rfl
set_option maxRecDepth 100000 in
theorem e5_1 (k1 : (List (Int × Int)) → Int → Bool → (List (Int × Int)) → Int → Int → (List (Int)) → Option (Bool × Unit)) (k2 : (List (Int × Int)) → Int → Bool → (List (Int × Int)) → Int → Int → Int → Int → (List (Int)) → Option (Bool × Unit)) (s : SD c5_1) : run E5 (fin0 s5.rs) (Kof b5.ntmps [l5_1 k1, l5_2 k2]) 4000 false (cAF 5 b5 c5_1 s) [] (cH c5_1 s) = f5s1 k1 k2 s.d.1 s.d.2.1 s.d.2.2.1 s.d.2.2.2.1 s.d.2.2.2.2.1 s.d.2.2.2.2.2.1 s.o.1 := by kernel_rfl
set_option maxRecDepth 100000 in
theorem e5_2 (k1 : (List (Int × Int)) → Int → Bool → (List (Int × Int)) → Int → Int → (List (Int)) → Option (Bool × Unit)) (k2 : (List (Int × Int)) → Int → Bool → (List (Int × Int)) → Int → Int → Int → Int → (List (Int)) → Option (Bool × Unit)) (s : SD c5_2) : run E5 (fin0 s5.rs) (Kof b5.ntmps [l5_1 k1, l5_2 k2]) 4000 false (cAF 5 b5 c5_2 s) [] (cH c5_2 s) = f5s2 k1 k2 s.d.1 s.d.2.1 s.d.2.2.1 s.d.2.2.2.1 s.d.2.2.2.2.1 s.d.2.2.2.2.2.1 s.d.2.2.2.2.2.2.1 s.d.2.2.2.2.2.2.2.1 s.o.1 := by kernel_rfl
noncomputable def lst5 (n : Nat) : List (Loop1 (Den s5.rs)) := [l5_1 (f5L n).1, l5_2 (f5L n).2]
theorem h5 : Contract Try.prog 5 s5 := by
  refine contract_of (E := E5) (envOk_of tabs_ok fns5 _) follows bo5 s5 rfl lst5 ?_ ?_ ?_
  · intro l hl x
    simp only [lst5, List.mem_cons, List.not_mem_nil, or_false] at hl
    rcases hl with rfl | rfl
    · rfl
    · rfl
  · intro n l hl x r hr
    simp only [lst5, List.mem_cons, List.not_mem_nil, or_false] at hl
    rcases hl with rfl | rfl
    · exact ⟨4000, (e5_1 (f5L n).1 (f5L n).2 x).trans hr⟩
    · exact ⟨4000, (e5_2 (f5L n).1 (f5L n).2 x).trans hr⟩
  · intro x r hr
    exact ⟨x.1.length * 1000 + 1005, 4000, (e5 (f5L (x.1.length * 1000 + 1005)).1 (f5L (x.1.length * 1000 + 1005)).2 x).trans hr⟩

/-! ### 6: tidewaylaw12.FilterTurns -/
noncomputable def sums6 : Nat → Option Summ := addS 5 s5 sums5
noncomputable def bodies6 : Nat → Option Body := bodies5
theorem fns6 : FnsOk Try.prog sums6 bodies6 := fns5.addS h5
noncomputable def s6 : Summ := { ps := [(.sc (.sl (.cons (.int .i64) (.one (.int .i64))))), (.sc (.int .i64))], rs := [(.sc .bool)], F := fun x => f6 x.1 x.2.1 }
noncomputable def b6 : Body := Body.of Try.f6
theorem bo6 : BodyOk Try.prog 6 b6 := bodyOk_of Try.func6 (by kernel_rfl) (by kernel_rfl)
noncomputable def c6_1 : CutD := { skel := [(0, [0, 0, 1, 0, 1, 1, 1, 1, 1]), (1, [0, 1, 0, 1, 1, 1, 1, 1]), (2, [1, 0, 1, 1, 1, 1, 1]), (0, [1, 1, 1, 1, 1, 1])], dats := [(0, (.sc (.sl (.cons (.int .i64) (.one (.int .i64)))))), (1, (.sc (.int .i64))), (5, (.sc (.sl (.cons (.int .i64) (.one (.int .i64)))))), (6, (.sc (.sl (.cons (.int .i64) (.one (.int .i64)))))), (7, (.sc (.int .i64))), (8, (.sc (.int .i64)))], fsls := [], osls := [], ptrs := [], blks := [] }
noncomputable def c6_2 : CutD := { skel := [(0, [0, 0, 1, 0, 1, 1, 1, 1, 1, 0, 0, 1, 0, 0, 1, 0, 1, 1, 1, 1, 1]), (1, [0, 1, 0, 1, 1, 1, 1, 1, 0, 0, 1, 0, 0, 1, 0, 1, 1, 1, 1, 1]), (2, [1, 0, 1, 1, 1, 1, 1, 0, 0, 1, 0, 0, 1, 0, 1, 1, 1, 1, 1]), (0, [1, 1, 1, 1, 1, 1, 0, 0, 1, 0, 0, 1, 0, 1, 1, 1, 1, 1]), (2, [0, 1, 0, 0, 1, 0, 1, 1, 1, 1, 1]), (0, [1, 1, 0, 0, 1, 0, 1, 1, 1, 1, 1]), (1, [0, 1, 0, 1, 1, 1, 1, 1]), (2, [1, 0, 1, 1, 1, 1, 1]), (0, [1, 1, 1, 1, 1, 1])], dats := [(0, (.sc (.sl (.cons (.int .i64) (.one (.int .i64)))))), (1, (.sc (.int .i64))), (7, (.sc (.int .i64))), (8, (.sc (.int .i64))), (9, (.sc (.sl (.cons (.int .i64) (.one (.int .i64)))))), (11, (.sc (.sl (.cons (.int .i64) (.one (.int .i64)))))), (13, (.sc (.int .i64)))], fsls := [], osls := [], ptrs := [], blks := [] }
noncomputable def cut6 : List Nat → Bool := fun p => pathEq p [0, 0, 1, 0, 1, 1, 1, 1, 1] || pathEq p [0, 0, 1, 0, 1, 1, 1, 1, 1, 0, 0, 1, 0, 0, 1, 0, 1, 1, 1, 1, 1]
noncomputable def E6 : Env := envOf tabs sums6 bodies6 cut6
noncomputable abbrev l6_1 (k : (List (Int × Int)) → Int → (List (Int × Int)) → (List (Int × Int)) → Int → Int → Option (Bool × Unit)) : Loop1 (Den s6.rs) := { cd := c6_1, F := fun s => k s.d.1 s.d.2.1 s.d.2.2.1 s.d.2.2.2.1 s.d.2.2.2.2.1 s.d.2.2.2.2.2.1 }
noncomputable abbrev l6_2 (k : (List (Int × Int)) → Int → Int → Int → (List (Int × Int)) → (List (Int × Int)) → Int → Option (Bool × Unit)) : Loop1 (Den s6.rs) := { cd := c6_2, F := fun s => k s.d.1 s.d.2.1 s.d.2.2.1 s.d.2.2.2.1 s.d.2.2.2.2.1 s.d.2.2.2.2.2.1 s.d.2.2.2.2.2.2.1 }
set_option maxRecDepth 100000 in
theorem e6 (k1 : (List (Int × Int)) → Int → (List (Int × Int)) → (List (Int × Int)) → Int → Int → Option (Bool × Unit)) (k2 : (List (Int × Int)) → Int → Int → Int → (List (Int × Int)) → (List (Int × Int)) → Int → Option (Bool × Unit)) (x : Den s6.ps) : run E6 (fin0 s6.rs) (Kof b6.ntmps [l6_1 k1, l6_2 k2]) 4000 true { f := 6, n := b6.ntmps, path := [], res := b6.results, tm := argTm (resList s6.ps x), todo := [.code [] b6.code] } [] H.empty = f6e k1 k2 x.1 x.2.1 := by kernel_rfl
set_option maxRecDepth 100000 in
theorem e6_1 (k1 : (List (Int × Int)) → Int → (List (Int × Int)) → (List (Int × Int)) → Int → Int → Option (Bool × Unit)) (k2 : (List (Int × Int)) → Int → Int → Int → (List (Int × Int)) → (List (Int × Int)) → Int → Option (Bool × Unit)) (s : SD c6_1) : run E6 (fin0 s6.rs) (Kof b6.ntmps [l6_1 k1, l6_2 k2]) 4000 false (cAF 6 b6 c6_1 s) [] (cH c6_1 s) = f6s1 k1 k2 s.d.1 s.d.2.1 s.d.2.2.1 s.d.2.2.2.1 s.d.2.2.2.2.1 s.d.2.2.2.2.2.1 := by kernel_rfl
set_option maxRecDepth 100000 in
theorem e6_2 (k1 : (List (Int × Int)) → Int → (List (Int × Int)) → (List (Int × Int)) → Int → Int → Option (Bool × Unit)) (k2 : (List (Int × Int)) → Int → Int → Int → (List (Int × Int)) → (List (Int × Int)) → Int → Option (Bool × Unit)) (s : SD c6_2) : run E6 (fin0 s6.rs) (Kof b6.ntmps [l6_1 k1, l6_2 k2]) 4000 false (cAF 6 b6 c6_2 s) [] (cH c6_2 s) = f6s2 k1 k2 s.d.1 s.d.2.1 s.d.2.2.1 s.d.2.2.2.1 s.d.2.2.2.2.1 s.d.2.2.2.2.2.1 s.d.2.2.2.2.2.2.1 := by kernel_rfl
noncomputable def lst6 (n : Nat) : List (Loop1 (Den s6.rs)) := [l6_1 (f6L n).1, l6_2 (f6L n).2]
theorem h6 : Contract Try.prog 6 s6 := by
  refine contract_of (E := E6) (envOk_of tabs_ok fns6 _) follows bo6 s6 rfl lst6 ?_ ?_ ?_
  · intro l hl x
    simp only [lst6, List.mem_cons, List.not_mem_nil, or_false] at hl
    rcases hl with rfl | rfl
    · rfl
    · rfl
  · intro n l hl x r hr
    simp only [lst6, List.mem_cons, List.not_mem_nil, or_false] at hl
    rcases hl with rfl | rfl
    · exact ⟨4000, (e6_1 (f6L n).1 (f6L n).2 x).trans hr⟩
    · exact ⟨4000, (e6_2 (f6L n).1 (f6L n).2 x).trans hr⟩
  · intro x r hr
    exact ⟨x.1.length * 1000 + 1005, 4000, (e6 (f6L (x.1.length * 1000 + 1005)).1 (f6L (x.1.length * 1000 + 1005)).2 x).trans hr⟩
end Go.Proofs.Ythnfbkneleodnaa.Gn
