/-
  Ythdjomfkechfoaa: each Go function keeps its contract. Printed by gen.py, a program of this claim's own.
-/
import Derived.Test.YthdjomfkechfoaaVt
import Derived.Test.YthdjomfkechfoaaVv
import Derived.Test.YthdjomfkechfoaaCw
import Derived.Test.YthdjomfkechfoaaCx
import Derived.Test.YthdjomfkechfoaaCy
import Derived.Test.YthdjomfkechfoaaF
import Derived.Test.YthdjomfkechfoaaChecked
import Derived.KernelRfl
namespace Go.Proofs.Ythdjomfkechfoaa.Gn
open Go Go.Proofs.Ythdjomfkechfoaa.Vx Go.Proofs.Ythdjomfkechfoaa.Fn
set_option linter.unusedVariables false

noncomputable def tabs : Tabs := {
  ty := [(3, (.sc (.int .i64))), (4, (.sc .bool)), (5, (.sc (.int .u8))), (9, (.sc .str)), (22, (.sc (.sl (.one (.int .u8))))), (24, (.st (.cons (.int .i64) (.cons (.sl (.one (.int .u8))) (.cons (.int .i64) (.one .bool)))))), (25, (.sc (.int .i64))), (47, (.sc (.sl (.one (.sl (.one (.int .u8))))))), (48, (.sc (.sl (.one (.int .i64)))))]
  fld := [(24, [(0, (.sc (.int .i64))), (1, (.sc (.sl (.one (.int .u8))))), (2, (.sc (.int .i64))), (3, (.sc .bool))])]
  el := [(22, (.sc (.int .u8)), 1), (47, (.sc (.sl (.one (.int .u8)))), 24), (48, (.sc (.int .i64)), 8)]
  eqT := [] }
set_option maxRecDepth 100000 in
theorem tabs_ok : tabs.okB Try.prog = true := by kernel_rfl
theorem follows : Try.prog.follows .mixedOrders = true := by kernel_rfl

/-! ### 13: ring.Check -/
noncomputable def sums13 : Nat → Option Summ := fun _ => none
noncomputable def bodies13 : Nat → Option Body := fun _ => none
theorem fns13 : FnsOk Try.prog sums13 bodies13 := FnsOk.none
noncomputable def s13 : Summ := { ps := [(.st (.cons (.int .i64) (.cons (.sl (.one (.int .u8))) (.cons (.int .i64) (.one .bool)))))], rs := [(.sc (.int .i64))], F := fun x => f13 x.1 }
noncomputable def b13 : Body := Body.of Try.f13
theorem bo13 : BodyOk Try.prog 13 b13 := bodyOk_of Try.func13 (by kernel_rfl) (by kernel_rfl)
noncomputable def E13 : Env := envOf tabs sums13 bodies13 (fun _ => false)
set_option maxRecDepth 100000 in
theorem e13  (x : Den s13.ps) : run E13 (fin0 s13.rs) (Kof b13.ntmps []) 4000 true { f := 13, n := b13.ntmps, path := [], res := b13.results, tm := argTm (resList s13.ps x), todo := [.code [] b13.code] } [] H.empty = f13 x.1 := by kernel_rfl
theorem h13 : Contract Try.prog 13 s13 := by
  refine contract_of (E := E13) (envOk_of tabs_ok fns13 _) follows bo13 s13 rfl (fun _ => []) ?_ ?_ ?_
  · intro l hl x
    cases hl
  · intro n l hl x r hr
    cases hl
  · intro x r hr
    exact ⟨0, 4000, (e13 x).trans hr⟩

/-! ### 15: ring.End -/
noncomputable def sums15 : Nat → Option Summ := addS 13 s13 sums13
noncomputable def bodies15 : Nat → Option Body := bodies13
theorem fns15 : FnsOk Try.prog sums15 bodies15 := fns13.addS h13
noncomputable def s15 : Summ := { ps := [(.st (.cons (.int .i64) (.cons (.sl (.one (.int .u8))) (.cons (.int .i64) (.one .bool)))))], rs := [(.sc (.int .i64))], F := fun x => f15 x.1 }
noncomputable def b15 : Body := Body.of Try.f15
theorem bo15 : BodyOk Try.prog 15 b15 := bodyOk_of Try.func15 (by kernel_rfl) (by kernel_rfl)
noncomputable def E15 : Env := envOf tabs sums15 bodies15 (fun _ => false)
set_option maxRecDepth 100000 in
theorem e15  (x : Den s15.ps) : run E15 (fin0 s15.rs) (Kof b15.ntmps []) 4000 true { f := 15, n := b15.ntmps, path := [], res := b15.results, tm := argTm (resList s15.ps x), todo := [.code [] b15.code] } [] H.empty = f15 x.1 := by kernel_rfl
theorem h15 : Contract Try.prog 15 s15 := by
  refine contract_of (E := E15) (envOk_of tabs_ok fns15 _) follows bo15 s15 rfl (fun _ => []) ?_ ?_ ?_
  · intro l hl x
    cases hl
  · intro n l hl x r hr
    cases hl
  · intro x r hr
    exact ⟨0, 4000, (e15 x).trans hr⟩

/-! ### 17: ring.Room -/
noncomputable def sums17 : Nat → Option Summ := addS 15 s15 sums15
noncomputable def bodies17 : Nat → Option Body := bodies15
theorem fns17 : FnsOk Try.prog sums17 bodies17 := fns15.addS h15
noncomputable def s17 : Summ := { ps := [(.st (.cons (.int .i64) (.cons (.sl (.one (.int .u8))) (.cons (.int .i64) (.one .bool)))))], rs := [(.sc (.int .i64))], F := fun x => f17 x.1 }
noncomputable def b17 : Body := Body.of Try.f17
theorem bo17 : BodyOk Try.prog 17 b17 := bodyOk_of Try.func17 (by kernel_rfl) (by kernel_rfl)
noncomputable def E17 : Env := envOf tabs sums17 bodies17 (fun _ => false)
set_option maxRecDepth 100000 in
theorem e17  (x : Den s17.ps) : run E17 (fin0 s17.rs) (Kof b17.ntmps []) 4000 true { f := 17, n := b17.ntmps, path := [], res := b17.results, tm := argTm (resList s17.ps x), todo := [.code [] b17.code] } [] H.empty = f17 x.1 := by kernel_rfl
theorem h17 : Contract Try.prog 17 s17 := by
  refine contract_of (E := E17) (envOk_of tabs_ok fns17 _) follows bo17 s17 rfl (fun _ => []) ?_ ?_ ?_
  · intro l hl x
    cases hl
  · intro n l hl x r hr
    cases hl
  · intro x r hr
    exact ⟨0, 4000, (e17 x).trans hr⟩

/-! ### 25: ring.copied -/
noncomputable def sums25 : Nat → Option Summ := addS 17 s17 sums17
noncomputable def bodies25 : Nat → Option Body := bodies17
theorem fns25 : FnsOk Try.prog sums25 bodies25 := fns17.addS h17
noncomputable def s25 : Summ := { ps := [(.sc (.sl (.one (.int .u8)))), (.sc (.sl (.one (.int .u8))))], rs := [(.sc (.sl (.one (.int .u8))))], F := fun x => f25 x.1 x.2.1 }
theorem h25 : Contract Try.prog 25 s25 := Cw.copied_contract s25 rfl

/-! ### 8: ring.Write -/
noncomputable def sums8 : Nat → Option Summ := addS 25 s25 sums25
noncomputable def bodies8 : Nat → Option Body := bodies25
theorem fns8 : FnsOk Try.prog sums8 bodies8 := fns25.addS h25
noncomputable def s8 : Summ := { ps := [(.st (.cons (.int .i64) (.cons (.sl (.one (.int .u8))) (.cons (.int .i64) (.one .bool))))), (.sc (.sl (.one (.int .u8))))], rs := [(.st (.cons (.int .i64) (.cons (.sl (.one (.int .u8))) (.cons (.int .i64) (.one .bool))))), (.sc (.int .i64)), (.sc (.int .i64))], F := fun x => f8 x.1 x.2.1 }
noncomputable def b8 : Body := Body.of Try.f8
theorem bo8 : BodyOk Try.prog 8 b8 := bodyOk_of Try.func8 (by kernel_rfl) (by kernel_rfl)
noncomputable def E8 : Env := envOf tabs sums8 bodies8 (fun _ => false)
set_option maxRecDepth 100000 in
theorem e8  (x : Den s8.ps) : run E8 (fin0 s8.rs) (Kof b8.ntmps []) 4000 true { f := 8, n := b8.ntmps, path := [], res := b8.results, tm := argTm (resList s8.ps x), todo := [.code [] b8.code] } [] H.empty = f8 x.1 x.2.1 := by kernel_rfl
theorem h8 : Contract Try.prog 8 s8 := by
  refine contract_of (E := E8) (envOk_of tabs_ok fns8 _) follows bo8 s8 rfl (fun _ => []) ?_ ?_ ?_
  · intro l hl x
    cases hl
  · intro n l hl x r hr
    cases hl
  · intro x r hr
    exact ⟨0, 4000, (e8 x).trans hr⟩

/-! ### 14: tidewayref07.Check -/
noncomputable def sums14 : Nat → Option Summ := addS 8 s8 sums8
noncomputable def bodies14 : Nat → Option Body := bodies8
theorem fns14 : FnsOk Try.prog sums14 bodies14 := fns8.addS h8
noncomputable def s14 : Summ := { ps := [(.st (.cons (.int .i64) (.cons (.sl (.one (.int .u8))) (.cons (.int .i64) (.one .bool)))))], rs := [(.sc (.int .i64))], F := fun x => f14 x.1 }
noncomputable def b14 : Body := Body.of Try.f14
theorem bo14 : BodyOk Try.prog 14 b14 := bodyOk_of Try.func14 (by kernel_rfl) (by kernel_rfl)
noncomputable def E14 : Env := envOf tabs sums14 bodies14 (fun _ => false)
set_option maxRecDepth 100000 in
theorem e14  (x : Den s14.ps) : run E14 (fin0 s14.rs) (Kof b14.ntmps []) 4000 true { f := 14, n := b14.ntmps, path := [], res := b14.results, tm := argTm (resList s14.ps x), todo := [.code [] b14.code] } [] H.empty = f14 x.1 := by kernel_rfl
theorem h14 : Contract Try.prog 14 s14 := by
  refine contract_of (E := E14) (envOk_of tabs_ok fns14 _) follows bo14 s14 rfl (fun _ => []) ?_ ?_ ?_
  · intro l hl x
    cases hl
  · intro n l hl x r hr
    cases hl
  · intro x r hr
    exact ⟨0, 4000, (e14 x).trans hr⟩

/-! ### 16: tidewayref07.End -/
noncomputable def sums16 : Nat → Option Summ := addS 14 s14 sums14
noncomputable def bodies16 : Nat → Option Body := bodies14
theorem fns16 : FnsOk Try.prog sums16 bodies16 := fns14.addS h14
noncomputable def s16 : Summ := { ps := [(.st (.cons (.int .i64) (.cons (.sl (.one (.int .u8))) (.cons (.int .i64) (.one .bool)))))], rs := [(.sc (.int .i64))], F := fun x => f16 x.1 }
noncomputable def b16 : Body := Body.of Try.f16
theorem bo16 : BodyOk Try.prog 16 b16 := bodyOk_of Try.func16 (by kernel_rfl) (by kernel_rfl)
noncomputable def E16 : Env := envOf tabs sums16 bodies16 (fun _ => false)
set_option maxRecDepth 100000 in
theorem e16  (x : Den s16.ps) : run E16 (fin0 s16.rs) (Kof b16.ntmps []) 4000 true { f := 16, n := b16.ntmps, path := [], res := b16.results, tm := argTm (resList s16.ps x), todo := [.code [] b16.code] } [] H.empty = f16 x.1 := by kernel_rfl
theorem h16 : Contract Try.prog 16 s16 := by
  refine contract_of (E := E16) (envOk_of tabs_ok fns16 _) follows bo16 s16 rfl (fun _ => []) ?_ ?_ ?_
  · intro l hl x
    cases hl
  · intro n l hl x r hr
    cases hl
  · intro x r hr
    exact ⟨0, 4000, (e16 x).trans hr⟩

/-! ### 18: tidewayref07.Room -/
noncomputable def sums18 : Nat → Option Summ := addS 16 s16 sums16
noncomputable def bodies18 : Nat → Option Body := bodies16
theorem fns18 : FnsOk Try.prog sums18 bodies18 := fns16.addS h16
noncomputable def s18 : Summ := { ps := [(.st (.cons (.int .i64) (.cons (.sl (.one (.int .u8))) (.cons (.int .i64) (.one .bool)))))], rs := [(.sc (.int .i64))], F := fun x => f18 x.1 }
noncomputable def b18 : Body := Body.of Try.f18
theorem bo18 : BodyOk Try.prog 18 b18 := bodyOk_of Try.func18 (by kernel_rfl) (by kernel_rfl)
noncomputable def E18 : Env := envOf tabs sums18 bodies18 (fun _ => false)
set_option maxRecDepth 100000 in
theorem e18  (x : Den s18.ps) : run E18 (fin0 s18.rs) (Kof b18.ntmps []) 4000 true { f := 18, n := b18.ntmps, path := [], res := b18.results, tm := argTm (resList s18.ps x), todo := [.code [] b18.code] } [] H.empty = f18 x.1 := by kernel_rfl
theorem h18 : Contract Try.prog 18 s18 := by
  refine contract_of (E := E18) (envOk_of tabs_ok fns18 _) follows bo18 s18 rfl (fun _ => []) ?_ ?_ ?_
  · intro l hl x
    cases hl
  · intro n l hl x r hr
    cases hl
  · intro x r hr
    exact ⟨0, 4000, (e18 x).trans hr⟩

/-! ### 26: tidewayref07.own -/
noncomputable def sums26 : Nat → Option Summ := addS 18 s18 sums18
noncomputable def bodies26 : Nat → Option Body := bodies18
theorem fns26 : FnsOk Try.prog sums26 bodies26 := fns18.addS h18
noncomputable def s26 : Summ := { ps := [(.st (.cons (.int .i64) (.cons (.sl (.one (.int .u8))) (.cons (.int .i64) (.one .bool))))), (.sc (.sl (.one (.int .u8))))], rs := [(.st (.cons (.int .i64) (.cons (.sl (.one (.int .u8))) (.cons (.int .i64) (.one .bool)))))], F := fun x => f26 x.1 x.2.1 }
noncomputable def b26 : Body := Body.of Try.f26
theorem bo26 : BodyOk Try.prog 26 b26 := bodyOk_of Try.func26 (by kernel_rfl) (by kernel_rfl)
noncomputable def E26 : Env := envOf tabs sums26 bodies26 (fun _ => false)
set_option maxRecDepth 100000 in
theorem e26  (x : Den s26.ps) : run E26 (fin0 s26.rs) (Kof b26.ntmps []) 4000 true { f := 26, n := b26.ntmps, path := [], res := b26.results, tm := argTm (resList s26.ps x), todo := [.code [] b26.code] } [] H.empty = f26 x.1 x.2.1 := by kernel_rfl
theorem h26 : Contract Try.prog 26 s26 := by
  refine contract_of (E := E26) (envOk_of tabs_ok fns26 _) follows bo26 s26 rfl (fun _ => []) ?_ ?_ ?_
  · intro l hl x
    cases hl
  · intro n l hl x r hr
    cases hl
  · intro x r hr
    exact ⟨0, 4000, (e26 x).trans hr⟩

/-! ### 9: tidewayref07.Write -/
noncomputable def sums9 : Nat → Option Summ := addS 26 s26 sums26
noncomputable def bodies9 : Nat → Option Body := bodies26
theorem fns9 : FnsOk Try.prog sums9 bodies9 := fns26.addS h26
noncomputable def s9 : Summ := { ps := [(.st (.cons (.int .i64) (.cons (.sl (.one (.int .u8))) (.cons (.int .i64) (.one .bool))))), (.sc (.sl (.one (.int .u8))))], rs := [(.st (.cons (.int .i64) (.cons (.sl (.one (.int .u8))) (.cons (.int .i64) (.one .bool))))), (.sc (.int .i64)), (.sc (.int .i64))], F := fun x => f9 x.1 x.2.1 }
theorem h9 : Contract Try.prog 9 s9 := Cy.write_contract (F14 := f14) (F18 := f18) rfl h14 rfl h18 s9 rfl

/-! ### 10: ring.Close -/
noncomputable def sums10 : Nat → Option Summ := addS 9 s9 sums9
noncomputable def bodies10 : Nat → Option Body := bodies9
theorem fns10 : FnsOk Try.prog sums10 bodies10 := fns9.addS h9
noncomputable def s10 : Summ := { ps := [(.st (.cons (.int .i64) (.cons (.sl (.one (.int .u8))) (.cons (.int .i64) (.one .bool)))))], rs := [(.st (.cons (.int .i64) (.cons (.sl (.one (.int .u8))) (.cons (.int .i64) (.one .bool))))), (.sc (.int .i64))], F := fun x => f10 x.1 }
noncomputable def b10 : Body := Body.of Try.f10
theorem bo10 : BodyOk Try.prog 10 b10 := bodyOk_of Try.func10 (by kernel_rfl) (by kernel_rfl)
noncomputable def E10 : Env := envOf tabs sums10 bodies10 (fun _ => false)
set_option maxRecDepth 100000 in
theorem e10  (x : Den s10.ps) : run E10 (fin0 s10.rs) (Kof b10.ntmps []) 4000 true { f := 10, n := b10.ntmps, path := [], res := b10.results, tm := argTm (resList s10.ps x), todo := [.code [] b10.code] } [] H.empty = f10 x.1 := by kernel_rfl
theorem h10 : Contract Try.prog 10 s10 := by
  refine contract_of (E := E10) (envOk_of tabs_ok fns10 _) follows bo10 s10 rfl (fun _ => []) ?_ ?_ ?_
  · intro l hl x
    cases hl
  · intro n l hl x r hr
    cases hl
  · intro x r hr
    exact ⟨0, 4000, (e10 x).trans hr⟩

/-! ### 11: tidewayref07.Close -/
noncomputable def sums11 : Nat → Option Summ := addS 10 s10 sums10
noncomputable def bodies11 : Nat → Option Body := bodies10
theorem fns11 : FnsOk Try.prog sums11 bodies11 := fns10.addS h10
noncomputable def s11 : Summ := { ps := [(.st (.cons (.int .i64) (.cons (.sl (.one (.int .u8))) (.cons (.int .i64) (.one .bool)))))], rs := [(.st (.cons (.int .i64) (.cons (.sl (.one (.int .u8))) (.cons (.int .i64) (.one .bool))))), (.sc (.int .i64))], F := fun x => f11 x.1 }
noncomputable def b11 : Body := Body.of Try.f11
theorem bo11 : BodyOk Try.prog 11 b11 := bodyOk_of Try.func11 (by kernel_rfl) (by kernel_rfl)
noncomputable def E11 : Env := envOf tabs sums11 bodies11 (fun _ => false)
set_option maxRecDepth 100000 in
theorem e11  (x : Den s11.ps) : run E11 (fin0 s11.rs) (Kof b11.ntmps []) 4000 true { f := 11, n := b11.ntmps, path := [], res := b11.results, tm := argTm (resList s11.ps x), todo := [.code [] b11.code] } [] H.empty = f11 x.1 := by kernel_rfl
theorem h11 : Contract Try.prog 11 s11 := by
  refine contract_of (E := E11) (envOk_of tabs_ok fns11 _) follows bo11 s11 rfl (fun _ => []) ?_ ?_ ?_
  · intro l hl x
    cases hl
  · intro n l hl x r hr
    cases hl
  · intro x r hr
    exact ⟨0, 4000, (e11 x).trans hr⟩

/-! ### 24: tidewayref02.Same -/
noncomputable def sums24 : Nat → Option Summ := addS 11 s11 sums11
noncomputable def bodies24 : Nat → Option Body := bodies11
theorem fns24 : FnsOk Try.prog sums24 bodies24 := fns11.addS h11
noncomputable def s24 : Summ := { ps := [(.sc (.sl (.one (.int .u8)))), (.sc (.sl (.one (.int .u8))))], rs := [(.sc .bool)], F := fun x => f24 x.1 x.2.1 }
noncomputable def b24 : Body := Body.of Try.f24
theorem bo24 : BodyOk Try.prog 24 b24 := bodyOk_of Try.func24 (by kernel_rfl) (by kernel_rfl)
noncomputable def E24 : Env := envOf tabs sums24 bodies24 (fun _ => false)
set_option maxRecDepth 100000 in
theorem e24  (x : Den s24.ps) : run E24 (fin0 s24.rs) (Kof b24.ntmps []) 4000 true { f := 24, n := b24.ntmps, path := [], res := b24.results, tm := argTm (resList s24.ps x), todo := [.code [] b24.code] } [] H.empty = f24 x.1 x.2.1 := by kernel_rfl
theorem h24 : Contract Try.prog 24 s24 := by
  refine contract_of (E := E24) (envOk_of tabs_ok fns24 _) follows bo24 s24 rfl (fun _ => []) ?_ ?_ ?_
  · intro l hl x
    cases hl
  · intro n l hl x r hr
    cases hl
  · intro x r hr
    exact ⟨0, 4000, (e24 x).trans hr⟩

/-! ### 12: tidewayref07.Same -/
noncomputable def sums12 : Nat → Option Summ := addS 24 s24 sums24
noncomputable def bodies12 : Nat → Option Body := bodies24
theorem fns12 : FnsOk Try.prog sums12 bodies12 := fns24.addS h24
noncomputable def s12 : Summ := { ps := [(.st (.cons (.int .i64) (.cons (.sl (.one (.int .u8))) (.cons (.int .i64) (.one .bool))))), (.st (.cons (.int .i64) (.cons (.sl (.one (.int .u8))) (.cons (.int .i64) (.one .bool)))))], rs := [(.sc .bool)], F := fun x => f12 x.1 x.2.1 }
noncomputable def b12 : Body := Body.of Try.f12
theorem bo12 : BodyOk Try.prog 12 b12 := bodyOk_of Try.func12 (by kernel_rfl) (by kernel_rfl)
noncomputable def E12 : Env := envOf tabs sums12 bodies12 (fun _ => false)
set_option maxRecDepth 100000 in
theorem e12  (x : Den s12.ps) : run E12 (fin0 s12.rs) (Kof b12.ntmps []) 4000 true { f := 12, n := b12.ntmps, path := [], res := b12.results, tm := argTm (resList s12.ps x), todo := [.code [] b12.code] } [] H.empty = f12 x.1 x.2.1 := by kernel_rfl
theorem h12 : Contract Try.prog 12 s12 := by
  refine contract_of (E := E12) (envOk_of tabs_ok fns12 _) follows bo12 s12 rfl (fun _ => []) ?_ ?_ ?_
  · intro l hl x
    cases hl
  · intro n l hl x r hr
    cases hl
  · intro x r hr
    exact ⟨0, 4000, (e12 x).trans hr⟩

/-! ### 20: ring.Release -/
noncomputable def sums20 : Nat → Option Summ := addS 12 s12 sums12
noncomputable def bodies20 : Nat → Option Body := bodies12
theorem fns20 : FnsOk Try.prog sums20 bodies20 := fns12.addS h12
noncomputable def s20 : Summ := { ps := [(.st (.cons (.int .i64) (.cons (.sl (.one (.int .u8))) (.cons (.int .i64) (.one .bool))))), (.sc (.int .i64))], rs := [(.st (.cons (.int .i64) (.cons (.sl (.one (.int .u8))) (.cons (.int .i64) (.one .bool))))), (.sc (.int .i64))], F := fun x => f20 x.1 x.2.1 }
noncomputable def b20 : Body := Body.of Try.f20
theorem bo20 : BodyOk Try.prog 20 b20 := bodyOk_of Try.func20 (by kernel_rfl) (by kernel_rfl)
noncomputable def E20 : Env := envOf tabs sums20 bodies20 (fun _ => false)
set_option maxRecDepth 100000 in
theorem e20  (x : Den s20.ps) : run E20 (fin0 s20.rs) (Kof b20.ntmps []) 4000 true { f := 20, n := b20.ntmps, path := [], res := b20.results, tm := argTm (resList s20.ps x), todo := [.code [] b20.code] } [] H.empty = f20 x.1 x.2.1 := by kernel_rfl
theorem h20 : Contract Try.prog 20 s20 := by
  refine contract_of (E := E20) (envOk_of tabs_ok fns20 _) follows bo20 s20 rfl (fun _ => []) ?_ ?_ ?_
  · intro l hl x
    cases hl
  · intro n l hl x r hr
    cases hl
  · intro x r hr
    exact ⟨0, 4000, (e20 x).trans hr⟩

/-! ### 22: ring.Slice -/
noncomputable def sums22 : Nat → Option Summ := addS 20 s20 sums20
noncomputable def bodies22 : Nat → Option Body := bodies20
theorem fns22 : FnsOk Try.prog sums22 bodies22 := fns20.addS h20
noncomputable def s22 : Summ := { ps := [(.st (.cons (.int .i64) (.cons (.sl (.one (.int .u8))) (.cons (.int .i64) (.one .bool))))), (.sc (.int .i64)), (.sc (.int .i64))], rs := [(.sc (.sl (.one (.int .u8)))), (.sc (.int .i64))], F := fun x => f22 x.1 x.2.1 x.2.2.1 }
noncomputable def b22 : Body := Body.of Try.f22
theorem bo22 : BodyOk Try.prog 22 b22 := bodyOk_of Try.func22 (by kernel_rfl) (by kernel_rfl)
noncomputable def E22 : Env := envOf tabs sums22 bodies22 (fun _ => false)
set_option maxRecDepth 100000 in
theorem e22  (x : Den s22.ps) : run E22 (fin0 s22.rs) (Kof b22.ntmps []) 4000 true { f := 22, n := b22.ntmps, path := [], res := b22.results, tm := argTm (resList s22.ps x), todo := [.code [] b22.code] } [] H.empty = f22 x.1 x.2.1 x.2.2.1 := by kernel_rfl
theorem h22 : Contract Try.prog 22 s22 := by
  refine contract_of (E := E22) (envOk_of tabs_ok fns22 _) follows bo22 s22 rfl (fun _ => []) ?_ ?_ ?_
  · intro l hl x
    cases hl
  · intro n l hl x r hr
    cases hl
  · intro x r hr
    exact ⟨0, 4000, (e22 x).trans hr⟩

/-! ### 19: tidewaylaw07.heads -/
noncomputable def sums19 : Nat → Option Summ := addS 22 s22 sums22
noncomputable def bodies19 : Nat → Option Body := bodies22
theorem fns19 : FnsOk Try.prog sums19 bodies19 := fns22.addS h22
noncomputable def s19 : Summ := { ps := [], rs := [(.sc .bool)], F := fun x => f19 }
noncomputable def b19 : Body := Body.of Try.f19
theorem bo19 : BodyOk Try.prog 19 b19 := bodyOk_of Try.func19 (by kernel_rfl) (by kernel_rfl)
noncomputable def cut19 : List Nat → Bool := fun p => pathEq p [0, 1] || pathEq p [0, 1, 1] || pathEq p [0, 1, 1, 1, 1, 1]
noncomputable def E19 : Env := envOf tabs sums19 bodies19 cut19
set_option maxRecDepth 100000 in
theorem e19 (x : Den s19.ps) : run E19 (fin0 s19.rs) (litK E19 (fin0 s19.rs) 4000 4) 4000 true { f := 19, n := b19.ntmps, path := [], res := b19.results, tm := argTm (resList s19.ps x), todo := [.code [] b19.code] } [] H.empty = f19  := by kernel_rfl
theorem h19 : Contract Try.prog 19 s19 :=
  contract_lit (E := E19) (envOk_of tabs_ok fns19 _) follows bo19 s19 rfl 4000 4 fun x r hr => ⟨4000, (e19 x).trans hr⟩

/-! ### 3: tidewaylaw07.RingWrites -/
noncomputable def sums3 : Nat → Option Summ := addS 19 s19 sums19
noncomputable def bodies3 : Nat → Option Body := bodies19
theorem fns3 : FnsOk Try.prog sums3 bodies3 := fns19.addS h19
noncomputable def s3 : Summ := { ps := [(.st (.cons (.int .i64) (.cons (.sl (.one (.int .u8))) (.cons (.int .i64) (.one .bool))))), (.sc (.sl (.one (.int .u8))))], rs := [(.sc .bool)], F := fun x => f3 x.1 x.2.1 }
noncomputable def b3 : Body := Body.of Try.f3
theorem bo3 : BodyOk Try.prog 3 b3 := bodyOk_of Try.func3 (by kernel_rfl) (by kernel_rfl)
noncomputable def E3 : Env := envOf tabs sums3 bodies3 (fun _ => false)
set_option maxRecDepth 100000 in
theorem e3  (x : Den s3.ps) : run E3 (fin0 s3.rs) (Kof b3.ntmps []) 4000 true { f := 3, n := b3.ntmps, path := [], res := b3.results, tm := argTm (resList s3.ps x), todo := [.code [] b3.code] } [] H.empty = f3 x.1 x.2.1 := by kernel_rfl
theorem h3 : Contract Try.prog 3 s3 := by
  refine contract_of (E := E3) (envOk_of tabs_ok fns3 _) follows bo3 s3 rfl (fun _ => []) ?_ ?_ ?_
  · intro l hl x
    cases hl
  · intro n l hl x r hr
    cases hl
  · intro x r hr
    exact ⟨0, 4000, (e3 x).trans hr⟩

/-! ### 21: tidewayref07.Release -/
noncomputable def sums21 : Nat → Option Summ := addS 3 s3 sums3
noncomputable def bodies21 : Nat → Option Body := bodies3
theorem fns21 : FnsOk Try.prog sums21 bodies21 := fns3.addS h3
noncomputable def s21 : Summ := { ps := [(.st (.cons (.int .i64) (.cons (.sl (.one (.int .u8))) (.cons (.int .i64) (.one .bool))))), (.sc (.int .i64))], rs := [(.st (.cons (.int .i64) (.cons (.sl (.one (.int .u8))) (.cons (.int .i64) (.one .bool))))), (.sc (.int .i64))], F := fun x => f21 x.1 x.2.1 }
noncomputable def b21 : Body := Body.of Try.f21
theorem bo21 : BodyOk Try.prog 21 b21 := bodyOk_of Try.func21 (by kernel_rfl) (by kernel_rfl)
noncomputable def E21 : Env := envOf tabs sums21 bodies21 (fun _ => false)
set_option maxRecDepth 100000 in
theorem e21  (x : Den s21.ps) : run E21 (fin0 s21.rs) (Kof b21.ntmps []) 4000 true { f := 21, n := b21.ntmps, path := [], res := b21.results, tm := argTm (resList s21.ps x), todo := [.code [] b21.code] } [] H.empty = f21 x.1 x.2.1 := by kernel_rfl
theorem h21 : Contract Try.prog 21 s21 := by
  refine contract_of (E := E21) (envOk_of tabs_ok fns21 _) follows bo21 s21 rfl (fun _ => []) ?_ ?_ ?_
  · intro l hl x
    cases hl
  · intro n l hl x r hr
    cases hl
  · intro x r hr
    exact ⟨0, 4000, (e21 x).trans hr⟩

/-! ### 23: tidewayref07.Slice -/
noncomputable def sums23 : Nat → Option Summ := addS 21 s21 sums21
noncomputable def bodies23 : Nat → Option Body := bodies21
theorem fns23 : FnsOk Try.prog sums23 bodies23 := fns21.addS h21
noncomputable def s23 : Summ := { ps := [(.st (.cons (.int .i64) (.cons (.sl (.one (.int .u8))) (.cons (.int .i64) (.one .bool))))), (.sc (.int .i64)), (.sc (.int .i64))], rs := [(.sc (.sl (.one (.int .u8)))), (.sc (.int .i64))], F := fun x => f23 x.1 x.2.1 x.2.2.1 }
noncomputable def b23 : Body := Body.of Try.f23
theorem bo23 : BodyOk Try.prog 23 b23 := bodyOk_of Try.func23 (by kernel_rfl) (by kernel_rfl)
noncomputable def E23 : Env := envOf tabs sums23 bodies23 (fun _ => false)
set_option maxRecDepth 100000 in
theorem e23  (x : Den s23.ps) : run E23 (fin0 s23.rs) (Kof b23.ntmps []) 4000 true { f := 23, n := b23.ntmps, path := [], res := b23.results, tm := argTm (resList s23.ps x), todo := [.code [] b23.code] } [] H.empty = f23 x.1 x.2.1 x.2.2.1 := by kernel_rfl
theorem h23 : Contract Try.prog 23 s23 := by
  refine contract_of (E := E23) (envOk_of tabs_ok fns23 _) follows bo23 s23 rfl (fun _ => []) ?_ ?_ ?_
  · intro l hl x
    cases hl
  · intro n l hl x r hr
    cases hl
  · intro x r hr
    exact ⟨0, 4000, (e23 x).trans hr⟩

/-! ### 4: tidewaylaw07.RingCuts -/
noncomputable def sums4 : Nat → Option Summ := addS 23 s23 sums23
noncomputable def bodies4 : Nat → Option Body := bodies23
theorem fns4 : FnsOk Try.prog sums4 bodies4 := fns23.addS h23
noncomputable def s4 : Summ := { ps := [(.st (.cons (.int .i64) (.cons (.sl (.one (.int .u8))) (.cons (.int .i64) (.one .bool))))), (.sc (.int .i64)), (.sc (.int .i64))], rs := [(.sc .bool)], F := fun x => f4 x.1 x.2.1 x.2.2.1 }
noncomputable def b4 : Body := Body.of Try.f4
theorem bo4 : BodyOk Try.prog 4 b4 := bodyOk_of Try.func4 (by kernel_rfl) (by kernel_rfl)
noncomputable def E4 : Env := envOf tabs sums4 bodies4 (fun _ => false)
set_option maxRecDepth 100000 in
theorem e4  (x : Den s4.ps) : run E4 (fin0 s4.rs) (Kof b4.ntmps []) 4000 true { f := 4, n := b4.ntmps, path := [], res := b4.results, tm := argTm (resList s4.ps x), todo := [.code [] b4.code] } [] H.empty = f4 x.1 x.2.1 x.2.2.1 := by kernel_rfl
theorem h4 : Contract Try.prog 4 s4 := by
  refine contract_of (E := E4) (envOk_of tabs_ok fns4 _) follows bo4 s4 rfl (fun _ => []) ?_ ?_ ?_
  · intro l hl x
    cases hl
  · intro n l hl x r hr
    cases hl
  · intro x r hr
    exact ⟨0, 4000, (e4 x).trans hr⟩

/-! ### 5: tidewaylaw07.RingKeeps -/
noncomputable def sums5 : Nat → Option Summ := addS 4 s4 sums4
noncomputable def bodies5 : Nat → Option Body := bodies4
theorem fns5 : FnsOk Try.prog sums5 bodies5 := fns4.addS h4
noncomputable def s5 : Summ := { ps := [(.sc (.int .i64)), (.sc (.sl (.one (.sl (.one (.int .u8)))))), (.sc (.sl (.one (.int .i64))))], rs := [(.sc .bool)], F := fun x => f5 x.1 x.2.1 x.2.2.1 }
noncomputable def b5 : Body := Body.of Try.f5
theorem bo5 : BodyOk Try.prog 5 b5 := bodyOk_of Try.func5 (by kernel_rfl) (by kernel_rfl)
noncomputable def c5_1 : CutD := { skel := [(0, [0, 0, 1, 0, 1, 1, 1, 1]), (1, [0, 1, 0, 1, 1, 1, 1]), (2, [1, 0, 1, 1, 1, 1]), (0, [1, 1, 1, 1, 1])], dats := [(0, (.sc (.int .i64))), (1, (.sc (.sl (.one (.sl (.one (.int .u8))))))), (2, (.sc (.sl (.one (.int .i64))))), (9, (.sc (.int .i64)))], fsls := [], osls := [(8, (.one (.int .u8)))], ptrs := [(7, [3002], 0)], blks := [([3002], (.cons (.int .i64) (.cons (.sl (.one (.int .u8))) (.cons (.int .i64) (.one .bool)))))] }
noncomputable def cut5 : List Nat → Bool := fun p => pathEq p [0, 0, 1, 0, 1, 1, 1, 1]
noncomputable def E5 : Env := envOf tabs sums5 bodies5 cut5
noncomputable abbrev l5_1 (k : Int → (List ((List (Int)))) → (List (Int)) → Int → (List (Int)) → TRing → Option (Bool × Unit)) : Loop1 (Den s5.rs) := { cd := c5_1, F := fun s => k s.d.1 s.d.2.1 s.d.2.2.1 s.d.2.2.2.1 s.o.1 s.b.1 }
set_option maxRecDepth 100000 in
theorem e5 (k1 : Int → (List ((List (Int)))) → (List (Int)) → Int → (List (Int)) → TRing → Option (Bool × Unit)) (x : Den s5.ps) : run E5 (fin0 s5.rs) (Kof b5.ntmps [l5_1 k1]) 4000 true { f := 5, n := b5.ntmps, path := [], res := b5.results, tm := argTm (resList s5.ps x), todo := [.code [] b5.code] } [] H.empty = f5e k1 x.1 x.2.1 x.2.2.1 := by kernel_rfl
set_option maxRecDepth 100000 in
theorem e5_1 (k1 : Int → (List ((List (Int)))) → (List (Int)) → Int → (List (Int)) → TRing → Option (Bool × Unit)) (s : SD c5_1) : run E5 (fin0 s5.rs) (Kof b5.ntmps [l5_1 k1]) 4000 false (cAF 5 b5 c5_1 s) [] (cH c5_1 s) = f5s1 k1 s.d.1 s.d.2.1 s.d.2.2.1 s.d.2.2.2.1 s.o.1 s.b.1 := by kernel_rfl
noncomputable def lst5 (n : Nat) : List (Loop1 (Den s5.rs)) := [l5_1 (f5L n)]
theorem h5 : Contract Try.prog 5 s5 := by
  refine contract_of (E := E5) (envOk_of tabs_ok fns5 _) follows bo5 s5 rfl lst5 ?_ ?_ ?_
  · intro l hl x
    simp only [lst5, List.mem_cons, List.not_mem_nil, or_false] at hl
    rcases hl with rfl
    · rfl
  · intro n l hl x r hr
    simp only [lst5, List.mem_cons, List.not_mem_nil, or_false] at hl
    rcases hl with rfl
    · exact ⟨4000, (e5_1 (f5L n) x).trans hr⟩
  · intro x r hr
    exact ⟨x.2.1.length + x.2.2.1.length + 1005, 4000, (e5 (f5L (x.2.1.length + x.2.2.1.length + 1005)) x).trans hr⟩

/-! ### 6: tidewaylaw07.RingSlices -/
noncomputable def sums6 : Nat → Option Summ := addS 5 s5 sums5
noncomputable def bodies6 : Nat → Option Body := bodies5
theorem fns6 : FnsOk Try.prog sums6 bodies6 := fns5.addS h5
noncomputable def s6 : Summ := { ps := [(.st (.cons (.int .i64) (.cons (.sl (.one (.int .u8))) (.cons (.int .i64) (.one .bool))))), (.sc (.int .i64)), (.sc (.int .i64)), (.sc (.int .i64))], rs := [(.sc .bool)], F := fun x => f6 x.1 x.2.1 x.2.2.1 x.2.2.2.1 }
noncomputable def b6 : Body := Body.of Try.f6
theorem bo6 : BodyOk Try.prog 6 b6 := bodyOk_of Try.func6 (by kernel_rfl) (by kernel_rfl)
noncomputable def E6 : Env := envOf tabs sums6 bodies6 (fun _ => false)
set_option maxRecDepth 100000 in
theorem e6  (x : Den s6.ps) : run E6 (fin0 s6.rs) (Kof b6.ntmps []) 4000 true { f := 6, n := b6.ntmps, path := [], res := b6.results, tm := argTm (resList s6.ps x), todo := [.code [] b6.code] } [] H.empty = f6 x.1 x.2.1 x.2.2.1 x.2.2.2.1 := by kernel_rfl
theorem h6 : Contract Try.prog 6 s6 := by
  refine contract_of (E := E6) (envOk_of tabs_ok fns6 _) follows bo6 s6 rfl (fun _ => []) ?_ ?_ ?_
  · intro l hl x
    cases hl
  · intro n l hl x r hr
    cases hl
  · intro x r hr
    exact ⟨0, 4000, (e6 x).trans hr⟩

/-! ### 7: tidewaylaw07.RingEnds -/
noncomputable def sums7 : Nat → Option Summ := addS 6 s6 sums6
noncomputable def bodies7 : Nat → Option Body := bodies6
theorem fns7 : FnsOk Try.prog sums7 bodies7 := fns6.addS h6
noncomputable def s7 : Summ := { ps := [(.st (.cons (.int .i64) (.cons (.sl (.one (.int .u8))) (.cons (.int .i64) (.one .bool))))), (.sc (.sl (.one (.int .u8))))], rs := [(.sc .bool)], F := fun x => f7 x.1 x.2.1 }
noncomputable def b7 : Body := Body.of Try.f7
theorem bo7 : BodyOk Try.prog 7 b7 := bodyOk_of Try.func7 (by kernel_rfl) (by kernel_rfl)
noncomputable def E7 : Env := envOf tabs sums7 bodies7 (fun _ => false)
set_option maxRecDepth 100000 in
theorem e7  (x : Den s7.ps) : run E7 (fin0 s7.rs) (Kof b7.ntmps []) 4000 true { f := 7, n := b7.ntmps, path := [], res := b7.results, tm := argTm (resList s7.ps x), todo := [.code [] b7.code] } [] H.empty = f7 x.1 x.2.1 := by kernel_rfl
theorem h7 : Contract Try.prog 7 s7 := by
  refine contract_of (E := E7) (envOk_of tabs_ok fns7 _) follows bo7 s7 rfl (fun _ => []) ?_ ?_ ?_
  · intro l hl x
    cases hl
  · intro n l hl x r hr
    cases hl
  · intro x r hr
    exact ⟨0, 4000, (e7 x).trans hr⟩
end Go.Proofs.Ythdjomfkechfoaa.Gn
