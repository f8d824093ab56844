/-
  Ytlomifklceagmaa: each Go function keeps its contract. Printed by gen.py, a program of this claim's own.
-/
import Derived.Test.YtlomifklceagmaaVt
import Derived.Test.YtlomifklceagmaaF
import Derived.Test.YtlomifklceagmaaChecked
import Derived.KernelRfl
namespace Go.Proofs.Ytlomifklceagmaa.Gn
open Go Go.Proofs.Ytlomifklceagmaa.Vx Go.Proofs.Ytlomifklceagmaa.Fn
set_option linter.unusedVariables false

noncomputable def tabs : Tabs := {
  ty := [(3, (.sc (.int .i64))), (4, (.sc .bool)), (23, (.st (.cons (.int .i64) (.cons (.int .i64) (.cons .bool (.cons .bool (.cons (.int .i64) (.cons (.int .i64) (.cons (.int .i64) (.cons (.int .i64) (.cons (.int .i64) (.cons .bool (.one .bool))))))))))))), (25, (.st (.cons (.int .i64) (.cons (.int .i64) (.cons .bool (.one .bool)))))), (26, (.sc (.int .i64)))]
  fld := [(23, [(0, (.sc (.int .i64))), (1, (.sc (.int .i64))), (2, (.sc .bool)), (3, (.sc .bool)), (4, (.sc (.int .i64))), (5, (.sc (.int .i64))), (6, (.sc (.int .i64))), (7, (.sc (.int .i64))), (8, (.sc (.int .i64))), (9, (.sc .bool)), (10, (.sc .bool))]), (25, [(0, (.sc (.int .i64))), (1, (.sc (.int .i64))), (2, (.sc .bool)), (3, (.sc .bool))])]
  el := []
  eqT := [(23, (.cons (.int .i64) (.cons (.int .i64) (.cons .bool (.cons .bool (.cons (.int .i64) (.cons (.int .i64) (.cons (.int .i64) (.cons (.int .i64) (.cons (.int .i64) (.cons .bool (.one .bool)))))))))))), (25, (.cons (.int .i64) (.cons (.int .i64) (.cons .bool (.one .bool)))))] }
set_option maxRecDepth 100000 in
theorem tabs_ok : tabs.okB Try.prog = true := by kernel_rfl
theorem follows : Try.prog.follows .mixedOrders = true := by kernel_rfl

/-! ### 10: seg.Check -/
noncomputable def sums10 : Nat → Option Summ := fun _ => none
noncomputable def bodies10 : Nat → Option Body := fun _ => none
theorem fns10 : FnsOk Try.prog sums10 bodies10 := FnsOk.none
noncomputable def s10 : Summ := { ps := [(.st (.cons (.int .i64) (.cons (.int .i64) (.cons .bool (.cons .bool (.cons (.int .i64) (.cons (.int .i64) (.cons (.int .i64) (.cons (.int .i64) (.cons (.int .i64) (.cons .bool (.one .bool))))))))))))], rs := [(.sc (.int .i64))], F := fun x => f10 x.1 }
noncomputable def b10 : Body := Body.of Try.f10
theorem bo10 : BodyOk Try.prog 10 b10 := bodyOk_of Try.func10 (by kernel_rfl) (by kernel_rfl)
noncomputable def E10 : Env := envOf tabs sums10 bodies10 (fun _ => false)
set_option maxRecDepth 100000 in
theorem e10  (x : Den s10.ps) : run E10 (fin0 s10.rs) (Kof b10.ntmps []) 4000 true { f := 10, n := b10.ntmps, path := [], res := b10.results, tm := argTm (resList s10.ps x), todo := [.code [] b10.code] } [] H.empty = f10 x.1 := by kernel_rfl
theorem h10 : Contract Try.prog 10 s10 := by
  refine contract_of (E := E10) (envOk_of tabs_ok fns10 _) follows bo10 s10 rfl (fun _ => []) ?_ ?_ ?_
  · intro l hl x
    cases hl
  · intro n l hl x r hr
    cases hl
  · intro x r hr
    exact ⟨0, 4000, (e10 x).trans hr⟩

/-! ### 12: seg.Usable -/
noncomputable def sums12 : Nat → Option Summ := addS 10 s10 sums10
noncomputable def bodies12 : Nat → Option Body := bodies10
theorem fns12 : FnsOk Try.prog sums12 bodies12 := fns10.addS h10
noncomputable def s12 : Summ := { ps := [(.st (.cons (.int .i64) (.cons (.int .i64) (.cons .bool (.cons .bool (.cons (.int .i64) (.cons (.int .i64) (.cons (.int .i64) (.cons (.int .i64) (.cons (.int .i64) (.cons .bool (.one .bool))))))))))))], rs := [(.sc (.int .i64))], F := fun x => f12 x.1 }
noncomputable def b12 : Body := Body.of Try.f12
theorem bo12 : BodyOk Try.prog 12 b12 := bodyOk_of Try.func12 (by kernel_rfl) (by kernel_rfl)
noncomputable def E12 : Env := envOf tabs sums12 bodies12 (fun _ => false)
set_option maxRecDepth 100000 in
theorem e12  (x : Den s12.ps) : run E12 (fin0 s12.rs) (Kof b12.ntmps []) 4000 true { f := 12, n := b12.ntmps, path := [], res := b12.results, tm := argTm (resList s12.ps x), todo := [.code [] b12.code] } [] H.empty = f12 x.1 := by kernel_rfl
theorem h12 : Contract Try.prog 12 s12 := by
  refine contract_of (E := E12) (envOk_of tabs_ok fns12 _) follows bo12 s12 rfl (fun _ => []) ?_ ?_ ?_
  · intro l hl x
    cases hl
  · intro n l hl x r hr
    cases hl
  · intro x r hr
    exact ⟨0, 4000, (e12 x).trans hr⟩

/-! ### 16: seg.cut -/
noncomputable def sums16 : Nat → Option Summ := addS 12 s12 sums12
noncomputable def bodies16 : Nat → Option Body := bodies12
theorem fns16 : FnsOk Try.prog sums16 bodies16 := fns12.addS h12
noncomputable def s16 : Summ := { ps := [(.st (.cons (.int .i64) (.cons (.int .i64) (.cons .bool (.cons .bool (.cons (.int .i64) (.cons (.int .i64) (.cons (.int .i64) (.cons (.int .i64) (.cons (.int .i64) (.cons .bool (.one .bool)))))))))))), (.sc (.int .i64))], rs := [(.st (.cons (.int .i64) (.cons (.int .i64) (.cons .bool (.one .bool)))))], F := fun x => f16 x.1 x.2.1 }
noncomputable def b16 : Body := Body.of Try.f16
theorem bo16 : BodyOk Try.prog 16 b16 := bodyOk_of Try.func16 (by kernel_rfl) (by kernel_rfl)
noncomputable def E16 : Env := envOf tabs sums16 bodies16 (fun _ => false)
set_option maxRecDepth 100000 in
theorem e16  (x : Den s16.ps) : run E16 (fin0 s16.rs) (Kof b16.ntmps []) 4000 true { f := 16, n := b16.ntmps, path := [], res := b16.results, tm := argTm (resList s16.ps x), todo := [.code [] b16.code] } [] H.empty = f16 x.1 x.2.1 := by kernel_rfl
theorem h16 : Contract Try.prog 16 s16 := by
  refine contract_of (E := E16) (envOk_of tabs_ok fns16 _) follows bo16 s16 rfl (fun _ => []) ?_ ?_ ?_
  · intro l hl x
    cases hl
  · intro n l hl x r hr
    cases hl
  · intro x r hr
    exact ⟨0, 4000, (e16 x).trans hr⟩

/-! ### 15: seg.forced -/
noncomputable def sums15 : Nat → Option Summ := addS 16 s16 sums16
noncomputable def bodies15 : Nat → Option Body := bodies16
theorem fns15 : FnsOk Try.prog sums15 bodies15 := fns16.addS h16
noncomputable def s15 : Summ := { ps := [(.st (.cons (.int .i64) (.cons (.int .i64) (.cons .bool (.cons .bool (.cons (.int .i64) (.cons (.int .i64) (.cons (.int .i64) (.cons (.int .i64) (.cons (.int .i64) (.cons .bool (.one .bool))))))))))))], rs := [(.st (.cons (.int .i64) (.cons (.int .i64) (.cons .bool (.one .bool))))), (.sc .bool)], F := fun x => f15 x.1 }
noncomputable def b15 : Body := Body.of Try.f15
theorem bo15 : BodyOk Try.prog 15 b15 := bodyOk_of Try.func15 (by kernel_rfl) (by kernel_rfl)
noncomputable def E15 : Env := envOf tabs sums15 bodies15 (fun _ => false)
set_option maxRecDepth 100000 in
theorem e15  (x : Den s15.ps) : run E15 (fin0 s15.rs) (Kof b15.ntmps []) 4000 true { f := 15, n := b15.ntmps, path := [], res := b15.results, tm := argTm (resList s15.ps x), todo := [.code [] b15.code] } [] H.empty = f15 x.1 := by kernel_rfl
theorem h15 : Contract Try.prog 15 s15 := by
  refine contract_of (E := E15) (envOk_of tabs_ok fns15 _) follows bo15 s15 rfl (fun _ => []) ?_ ?_ ?_
  · intro l hl x
    cases hl
  · intro n l hl x r hr
    cases hl
  · intro x r hr
    exact ⟨0, 4000, (e15 x).trans hr⟩

/-! ### 8: seg.Next -/
noncomputable def sums8 : Nat → Option Summ := addS 15 s15 sums15
noncomputable def bodies8 : Nat → Option Body := bodies15
theorem fns8 : FnsOk Try.prog sums8 bodies8 := fns15.addS h15
noncomputable def s8 : Summ := { ps := [(.st (.cons (.int .i64) (.cons (.int .i64) (.cons .bool (.cons .bool (.cons (.int .i64) (.cons (.int .i64) (.cons (.int .i64) (.cons (.int .i64) (.cons (.int .i64) (.cons .bool (.one .bool))))))))))))], rs := [(.st (.cons (.int .i64) (.cons (.int .i64) (.cons .bool (.one .bool))))), (.sc .bool), (.sc (.int .i64))], F := fun x => f8 x.1 }
noncomputable def b8 : Body := Body.of Try.f8
theorem bo8 : BodyOk Try.prog 8 b8 := bodyOk_of Try.func8 (by kernel_rfl) (by kernel_rfl)
noncomputable def E8 : Env := envOf tabs sums8 bodies8 (fun _ => false)
set_option maxRecDepth 100000 in
theorem e8  (x : Den s8.ps) : run E8 (fin0 s8.rs) (Kof b8.ntmps []) 4000 true { f := 8, n := b8.ntmps, path := [], res := b8.results, tm := argTm (resList s8.ps x), todo := [.code [] b8.code] } [] H.empty = f8 x.1 := by kernel_rfl
theorem h8 : Contract Try.prog 8 s8 := by
  refine contract_of (E := E8) (envOk_of tabs_ok fns8 _) follows bo8 s8 rfl (fun _ => []) ?_ ?_ ?_
  · intro l hl x
    cases hl
  · intro n l hl x r hr
    cases hl
  · intro x r hr
    exact ⟨0, 4000, (e8 x).trans hr⟩

/-! ### 11: tidewayref09.Check -/
noncomputable def sums11 : Nat → Option Summ := addS 8 s8 sums8
noncomputable def bodies11 : Nat → Option Body := bodies8
theorem fns11 : FnsOk Try.prog sums11 bodies11 := fns8.addS h8
noncomputable def s11 : Summ := { ps := [(.st (.cons (.int .i64) (.cons (.int .i64) (.cons .bool (.cons .bool (.cons (.int .i64) (.cons (.int .i64) (.cons (.int .i64) (.cons (.int .i64) (.cons (.int .i64) (.cons .bool (.one .bool))))))))))))], rs := [(.sc (.int .i64))], F := fun x => f11 x.1 }
noncomputable def b11 : Body := Body.of Try.f11
theorem bo11 : BodyOk Try.prog 11 b11 := bodyOk_of Try.func11 (by kernel_rfl) (by kernel_rfl)
noncomputable def E11 : Env := envOf tabs sums11 bodies11 (fun _ => false)
set_option maxRecDepth 100000 in
theorem e11  (x : Den s11.ps) : run E11 (fin0 s11.rs) (Kof b11.ntmps []) 4000 true { f := 11, n := b11.ntmps, path := [], res := b11.results, tm := argTm (resList s11.ps x), todo := [.code [] b11.code] } [] H.empty = f11 x.1 := by kernel_rfl
theorem h11 : Contract Try.prog 11 s11 := by
  refine contract_of (E := E11) (envOk_of tabs_ok fns11 _) follows bo11 s11 rfl (fun _ => []) ?_ ?_ ?_
  · intro l hl x
    cases hl
  · intro n l hl x r hr
    cases hl
  · intro x r hr
    exact ⟨0, 4000, (e11 x).trans hr⟩

/-! ### 13: tidewayref09.Usable -/
noncomputable def sums13 : Nat → Option Summ := addS 11 s11 sums11
noncomputable def bodies13 : Nat → Option Body := bodies11
theorem fns13 : FnsOk Try.prog sums13 bodies13 := fns11.addS h11
noncomputable def s13 : Summ := { ps := [(.st (.cons (.int .i64) (.cons (.int .i64) (.cons .bool (.cons .bool (.cons (.int .i64) (.cons (.int .i64) (.cons (.int .i64) (.cons (.int .i64) (.cons (.int .i64) (.cons .bool (.one .bool))))))))))))], rs := [(.sc (.int .i64))], F := fun x => f13 x.1 }
noncomputable def b13 : Body := Body.of Try.f13
theorem bo13 : BodyOk Try.prog 13 b13 := bodyOk_of Try.func13 (by kernel_rfl) (by kernel_rfl)
noncomputable def E13 : Env := envOf tabs sums13 bodies13 (fun _ => false)
set_option maxRecDepth 100000 in
theorem e13  (x : Den s13.ps) : run E13 (fin0 s13.rs) (Kof b13.ntmps []) 4000 true { f := 13, n := b13.ntmps, path := [], res := b13.results, tm := argTm (resList s13.ps x), todo := [.code [] b13.code] } [] H.empty = f13 x.1 := by kernel_rfl
theorem h13 : Contract Try.prog 13 s13 := by
  refine contract_of (E := E13) (envOk_of tabs_ok fns13 _) follows bo13 s13 rfl (fun _ => []) ?_ ?_ ?_
  · intro l hl x
    cases hl
  · intro n l hl x r hr
    cases hl
  · intro x r hr
    exact ⟨0, 4000, (e13 x).trans hr⟩

/-! ### 17: tidewayref09.goes -/
noncomputable def sums17 : Nat → Option Summ := addS 13 s13 sums13
noncomputable def bodies17 : Nat → Option Body := bodies13
theorem fns17 : FnsOk Try.prog sums17 bodies17 := fns13.addS h13
noncomputable def s17 : Summ := { ps := [(.st (.cons (.int .i64) (.cons (.int .i64) (.cons .bool (.cons .bool (.cons (.int .i64) (.cons (.int .i64) (.cons (.int .i64) (.cons (.int .i64) (.cons (.int .i64) (.cons .bool (.one .bool)))))))))))), (.sc (.int .i64)), (.sc (.int .i64))], rs := [(.sc .bool)], F := fun x => f17 x.1 x.2.1 x.2.2.1 }
noncomputable def b17 : Body := Body.of Try.f17
theorem bo17 : BodyOk Try.prog 17 b17 := bodyOk_of Try.func17 (by kernel_rfl) (by kernel_rfl)
noncomputable def E17 : Env := envOf tabs sums17 bodies17 (fun _ => false)
set_option maxRecDepth 100000 in
theorem e17  (x : Den s17.ps) : run E17 (fin0 s17.rs) (Kof b17.ntmps []) 4000 true { f := 17, n := b17.ntmps, path := [], res := b17.results, tm := argTm (resList s17.ps x), todo := [.code [] b17.code] } [] H.empty = f17 x.1 x.2.1 x.2.2.1 := by kernel_rfl
theorem h17 : Contract Try.prog 17 s17 := by
  refine contract_of (E := E17) (envOk_of tabs_ok fns17 _) follows bo17 s17 rfl (fun _ => []) ?_ ?_ ?_
  · intro l hl x
    cases hl
  · intro n l hl x r hr
    cases hl
  · intro x r hr
    exact ⟨0, 4000, (e17 x).trans hr⟩

/-! ### 9: tidewayref09.Next -/
noncomputable def sums9 : Nat → Option Summ := addS 17 s17 sums17
noncomputable def bodies9 : Nat → Option Body := bodies17
theorem fns9 : FnsOk Try.prog sums9 bodies9 := fns17.addS h17
noncomputable def s9 : Summ := { ps := [(.st (.cons (.int .i64) (.cons (.int .i64) (.cons .bool (.cons .bool (.cons (.int .i64) (.cons (.int .i64) (.cons (.int .i64) (.cons (.int .i64) (.cons (.int .i64) (.cons .bool (.one .bool))))))))))))], rs := [(.st (.cons (.int .i64) (.cons (.int .i64) (.cons .bool (.one .bool))))), (.sc .bool), (.sc (.int .i64))], F := fun x => f9 x.1 }
noncomputable def b9 : Body := Body.of Try.f9
theorem bo9 : BodyOk Try.prog 9 b9 := bodyOk_of Try.func9 (by kernel_rfl) (by kernel_rfl)
noncomputable def E9 : Env := envOf tabs sums9 bodies9 (fun _ => false)
set_option maxRecDepth 100000 in
theorem e9  (x : Den s9.ps) : run E9 (fin0 s9.rs) (Kof b9.ntmps []) 4000 true { f := 9, n := b9.ntmps, path := [], res := b9.results, tm := argTm (resList s9.ps x), todo := [.code [] b9.code] } [] H.empty = f9 x.1 := by kernel_rfl
theorem h9 : Contract Try.prog 9 s9 := by
  refine contract_of (E := E9) (envOk_of tabs_ok fns9 _) follows bo9 s9 rfl (fun _ => []) ?_ ?_ ?_
  · intro l hl x
    cases hl
  · intro n l hl x r hr
    cases hl
  · intro x r hr
    exact ⟨0, 4000, (e9 x).trans hr⟩

/-! ### 14: tidewaylaw09.heads -/
noncomputable def sums14 : Nat → Option Summ := addS 9 s9 sums9
noncomputable def bodies14 : Nat → Option Body := bodies9
theorem fns14 : FnsOk Try.prog sums14 bodies14 := fns9.addS h9
noncomputable def s14 : Summ := { ps := [], rs := [(.sc .bool)], F := fun x => f14 }
noncomputable def b14 : Body := Body.of Try.f14
theorem bo14 : BodyOk Try.prog 14 b14 := bodyOk_of Try.func14 (by kernel_rfl) (by kernel_rfl)
noncomputable def E14 : Env := envOf tabs sums14 bodies14 (fun _ => false)
set_option maxRecDepth 100000 in
theorem e14  (x : Den s14.ps) : run E14 (fin0 s14.rs) (Kof b14.ntmps []) 4000 true { f := 14, n := b14.ntmps, path := [], res := b14.results, tm := argTm (resList s14.ps x), todo := [.code [] b14.code] } [] H.empty = f14  := by kernel_rfl
theorem h14 : Contract Try.prog 14 s14 := by
  refine contract_of (E := E14) (envOk_of tabs_ok fns14 _) follows bo14 s14 rfl (fun _ => []) ?_ ?_ ?_
  · intro l hl x
    cases hl
  · intro n l hl x r hr
    cases hl
  · intro x r hr
    exact ⟨0, 4000, (e14 x).trans hr⟩

/-! ### 3: tidewaylaw09.SegNext -/
noncomputable def sums3 : Nat → Option Summ := addS 14 s14 sums14
noncomputable def bodies3 : Nat → Option Body := bodies14
theorem fns3 : FnsOk Try.prog sums3 bodies3 := fns14.addS h14
noncomputable def s3 : Summ := { ps := [(.st (.cons (.int .i64) (.cons (.int .i64) (.cons .bool (.cons .bool (.cons (.int .i64) (.cons (.int .i64) (.cons (.int .i64) (.cons (.int .i64) (.cons (.int .i64) (.cons .bool (.one .bool))))))))))))], rs := [(.sc .bool)], F := fun x => f3 x.1 }
noncomputable def b3 : Body := Body.of Try.f3
theorem bo3 : BodyOk Try.prog 3 b3 := bodyOk_of Try.func3 (by kernel_rfl) (by kernel_rfl)
noncomputable def E3 : Env := envOf tabs sums3 bodies3 (fun _ => false)
set_option maxRecDepth 100000 in
theorem e3  (x : Den s3.ps) : run E3 (fin0 s3.rs) (Kof b3.ntmps []) 4000 true { f := 3, n := b3.ntmps, path := [], res := b3.results, tm := argTm (resList s3.ps x), todo := [.code [] b3.code] } [] H.empty = f3 x.1 := by kernel_rfl
theorem h3 : Contract Try.prog 3 s3 := by
  refine contract_of (E := E3) (envOk_of tabs_ok fns3 _) follows bo3 s3 rfl (fun _ => []) ?_ ?_ ?_
  · intro l hl x
    cases hl
  · intro n l hl x r hr
    cases hl
  · intro x r hr
    exact ⟨0, 4000, (e3 x).trans hr⟩

/-! ### 4: tidewaylaw09.SegBounds -/
noncomputable def sums4 : Nat → Option Summ := addS 3 s3 sums3
noncomputable def bodies4 : Nat → Option Body := bodies3
theorem fns4 : FnsOk Try.prog sums4 bodies4 := fns3.addS h3
noncomputable def s4 : Summ := { ps := [(.st (.cons (.int .i64) (.cons (.int .i64) (.cons .bool (.cons .bool (.cons (.int .i64) (.cons (.int .i64) (.cons (.int .i64) (.cons (.int .i64) (.cons (.int .i64) (.cons .bool (.one .bool))))))))))))], rs := [(.sc .bool)], F := fun x => f4 x.1 }
noncomputable def b4 : Body := Body.of Try.f4
theorem bo4 : BodyOk Try.prog 4 b4 := bodyOk_of Try.func4 (by kernel_rfl) (by kernel_rfl)
noncomputable def E4 : Env := envOf tabs sums4 bodies4 (fun _ => false)
set_option maxRecDepth 100000 in
theorem e4  (x : Den s4.ps) : run E4 (fin0 s4.rs) (Kof b4.ntmps []) 4000 true { f := 4, n := b4.ntmps, path := [], res := b4.results, tm := argTm (resList s4.ps x), todo := [.code [] b4.code] } [] H.empty = f4 x.1 := by kernel_rfl
theorem h4 : Contract Try.prog 4 s4 := by
  refine contract_of (E := E4) (envOk_of tabs_ok fns4 _) follows bo4 s4 rfl (fun _ => []) ?_ ?_ ?_
  · intro l hl x
    cases hl
  · intro n l hl x r hr
    cases hl
  · intro x r hr
    exact ⟨0, 4000, (e4 x).trans hr⟩

/-! ### 5: tidewaylaw09.SegFull -/
noncomputable def sums5 : Nat → Option Summ := addS 4 s4 sums4
noncomputable def bodies5 : Nat → Option Body := bodies4
theorem fns5 : FnsOk Try.prog sums5 bodies5 := fns4.addS h4
noncomputable def s5 : Summ := { ps := [(.st (.cons (.int .i64) (.cons (.int .i64) (.cons .bool (.cons .bool (.cons (.int .i64) (.cons (.int .i64) (.cons (.int .i64) (.cons (.int .i64) (.cons (.int .i64) (.cons .bool (.one .bool))))))))))))], rs := [(.sc .bool)], F := fun x => f5 x.1 }
noncomputable def b5 : Body := Body.of Try.f5
theorem bo5 : BodyOk Try.prog 5 b5 := bodyOk_of Try.func5 (by kernel_rfl) (by kernel_rfl)
noncomputable def E5 : Env := envOf tabs sums5 bodies5 (fun _ => false)
set_option maxRecDepth 100000 in
theorem e5  (x : Den s5.ps) : run E5 (fin0 s5.rs) (Kof b5.ntmps []) 4000 true { f := 5, n := b5.ntmps, path := [], res := b5.results, tm := argTm (resList s5.ps x), todo := [.code [] b5.code] } [] H.empty = f5 x.1 := by kernel_rfl
theorem h5 : Contract Try.prog 5 s5 := by
  refine contract_of (E := E5) (envOk_of tabs_ok fns5 _) follows bo5 s5 rfl (fun _ => []) ?_ ?_ ?_
  · intro l hl x
    cases hl
  · intro n l hl x r hr
    cases hl
  · intro x r hr
    exact ⟨0, 4000, (e5 x).trans hr⟩

/-! ### 6: tidewaylaw09.SegNagle -/
noncomputable def sums6 : Nat → Option Summ := addS 5 s5 sums5
noncomputable def bodies6 : Nat → Option Body := bodies5
theorem fns6 : FnsOk Try.prog sums6 bodies6 := fns5.addS h5
noncomputable def s6 : Summ := { ps := [(.st (.cons (.int .i64) (.cons (.int .i64) (.cons .bool (.cons .bool (.cons (.int .i64) (.cons (.int .i64) (.cons (.int .i64) (.cons (.int .i64) (.cons (.int .i64) (.cons .bool (.one .bool))))))))))))], rs := [(.sc .bool)], F := fun x => f6 x.1 }
noncomputable def b6 : Body := Body.of Try.f6
theorem bo6 : BodyOk Try.prog 6 b6 := bodyOk_of Try.func6 (by kernel_rfl) (by kernel_rfl)
noncomputable def E6 : Env := envOf tabs sums6 bodies6 (fun _ => false)
set_option maxRecDepth 100000 in
theorem e6  (x : Den s6.ps) : run E6 (fin0 s6.rs) (Kof b6.ntmps []) 4000 true { f := 6, n := b6.ntmps, path := [], res := b6.results, tm := argTm (resList s6.ps x), todo := [.code [] b6.code] } [] H.empty = f6 x.1 := by kernel_rfl
theorem h6 : Contract Try.prog 6 s6 := by
  refine contract_of (E := E6) (envOk_of tabs_ok fns6 _) follows bo6 s6 rfl (fun _ => []) ?_ ?_ ?_
  · intro l hl x
    cases hl
  · intro n l hl x r hr
    cases hl
  · intro x r hr
    exact ⟨0, 4000, (e6 x).trans hr⟩

/-! ### 7: tidewaylaw09.SegDrains -/
noncomputable def sums7 : Nat → Option Summ := addS 6 s6 sums6
noncomputable def bodies7 : Nat → Option Body := bodies6
theorem fns7 : FnsOk Try.prog sums7 bodies7 := fns6.addS h6
noncomputable def s7 : Summ := { ps := [(.sc (.int .i64)), (.sc (.int .i64)), (.sc .bool)], rs := [(.sc .bool)], F := fun x => f7 x.1 x.2.1 x.2.2.1 }
noncomputable def b7 : Body := Body.of Try.f7
theorem bo7 : BodyOk Try.prog 7 b7 := bodyOk_of Try.func7 (by kernel_rfl) (by kernel_rfl)
noncomputable def c7_1 : CutD := { skel := [(0, [0, 0, 1, 0, 1, 1, 1, 1]), (1, [0, 1, 0, 1, 1, 1, 1]), (2, [1, 0, 1, 1, 1, 1]), (0, [1, 1, 1, 1, 1])], dats := [(0, (.sc (.int .i64))), (8, (.sc (.int .i64))), (9, (.sc (.int .i64)))], fsls := [], osls := [], ptrs := [(7, [3004], 0)], blks := [([3004], (.cons (.int .i64) (.cons (.int .i64) (.cons .bool (.cons .bool (.cons (.int .i64) (.cons (.int .i64) (.cons (.int .i64) (.cons (.int .i64) (.cons (.int .i64) (.cons .bool (.one .bool))))))))))))] }
noncomputable def cut7 : List Nat → Bool := fun p => pathEq p [0, 0, 1, 0, 1, 1, 1, 1]
noncomputable def E7 : Env := envOf tabs sums7 bodies7 cut7
noncomputable abbrev l7_1 (k : Int → Int → Int → TWant → Option (Bool × Unit)) : Loop1 (Den s7.rs) := { cd := c7_1, F := fun s => k s.d.1 s.d.2.1 s.d.2.2.1 s.b.1 }
set_option maxRecDepth 100000 in
theorem e7 (k1 : Int → Int → Int → TWant → Option (Bool × Unit)) (x : Den s7.ps) : run E7 (fin0 s7.rs) (Kof b7.ntmps [l7_1 k1]) 4000 true { f := 7, n := b7.ntmps, path := [], res := b7.results, tm := argTm (resList s7.ps x), todo := [.code [] b7.code] } [] H.empty = f7e k1 x.1 x.2.1 x.2.2.1 := by kernel_rfl
set_option maxRecDepth 100000 in
theorem e7_1 (k1 : Int → Int → Int → TWant → Option (Bool × Unit)) (s : SD c7_1) : run E7 (fin0 s7.rs) (Kof b7.ntmps [l7_1 k1]) 4000 false (cAF 7 b7 c7_1 s) [] (cH c7_1 s) = f7s1 k1 s.d.1 s.d.2.1 s.d.2.2.1 s.b.1 := by kernel_rfl
noncomputable def lst7 (n : Nat) : List (Loop1 (Den s7.rs)) := [l7_1 (f7L n)]
theorem h7 : Contract Try.prog 7 s7 := by
  refine contract_of (E := E7) (envOk_of tabs_ok fns7 _) follows bo7 s7 rfl lst7 ?_ ?_ ?_
  · intro l hl x
    simp only [lst7, List.mem_cons, List.not_mem_nil, or_false] at hl
    rcases hl with rfl
    · rfl
  · intro n l hl x r hr
    simp only [lst7, List.mem_cons, List.not_mem_nil, or_false] at hl
    rcases hl with rfl
    · exact ⟨4000, (e7_1 (f7L n) x).trans hr⟩
  · intro x r hr
    exact ⟨1005, 4000, (e7 (f7L (1005)) x).trans hr⟩
end Go.Proofs.Ytlomifklceagmaa.Gn
