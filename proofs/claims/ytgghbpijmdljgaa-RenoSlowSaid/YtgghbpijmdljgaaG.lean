/-
  Ytgghbpijmdljgaa: each Go function keeps its contract. Printed by gen.py, a program of this claim's own.
-/
import Derived.Test.YtgghbpijmdljgaaVt
import Derived.Test.YtgghbpijmdljgaaF
import Derived.Test.YtgghbpijmdljgaaChecked
import Derived.KernelRfl
namespace Go.Proofs.Ytgghbpijmdljgaa.Gn
open Go Go.Proofs.Ytgghbpijmdljgaa.Vx Go.Proofs.Ytgghbpijmdljgaa.Fn
set_option linter.unusedVariables false

noncomputable def tabs : Tabs := {
  ty := [(3, (.sc (.int .i64))), (4, (.sc .bool)), (22, (.sc (.int .i64))), (23, (.sc (.int .i64))), (24, (.sc (.sl (.cons (.int .i64) (.one (.int .i64)))))), (26, (.st (.cons (.int .i64) (.cons (.int .i64) (.cons (.int .i64) (.cons (.int .i64) (.cons (.int .i64) (.cons (.int .i64) (.cons (.int .i64) (.cons (.int .i64) (.cons (.int .i64) (.cons (.int .i64) (.cons (.int .i64) (.cons (.sl (.cons (.int .i64) (.one (.int .i64)))) (.cons (.int .i64) (.cons (.int .i64) (.cons (.int .i64) (.cons (.int .i64) (.cons (.int .i64) (.cons (.int .i64) (.cons (.int .i64) (.cons (.int .i64) (.cons (.int .i64) (.one (.int .i64))))))))))))))))))))))))), (27, (.sc (.int .i64))), (36, (.sc (.sl (.one (.int .i64))))), (37, (.sc (.int .u64))), (49, (.st (.cons (.int .i64) (.one (.int .i64))))), (52, (.st (.cons (.int .i64) (.cons (.int .i64) (.cons (.int .i64) (.cons (.int .i64) (.cons (.int .i64) (.cons (.int .i64) (.cons (.int .i64) (.cons (.int .i64) (.cons (.int .i64) (.cons (.int .i64) (.cons (.int .i64) (.cons (.sl (.cons (.int .i64) (.one (.int .i64)))) (.cons (.int .i64) (.cons (.int .i64) (.cons (.int .i64) (.cons (.int .i64) (.cons (.int .i64) (.cons (.int .i64) (.cons (.int .i64) (.cons (.int .i64) (.cons (.int .i64) (.one (.int .i64)))))))))))))))))))))))))]
  fld := [(26, [(0, (.sc (.int .i64))), (1, (.sc (.int .i64))), (2, (.sc (.int .i64))), (3, (.sc (.int .i64))), (4, (.sc (.int .i64))), (5, (.sc (.int .i64))), (6, (.sc (.int .i64))), (7, (.sc (.int .i64))), (8, (.sc (.int .i64))), (9, (.sc (.int .i64))), (10, (.sc (.int .i64))), (11, (.sc (.sl (.cons (.int .i64) (.one (.int .i64)))))), (12, (.sc (.int .i64))), (13, (.sc (.int .i64))), (14, (.sc (.int .i64))), (15, (.sc (.int .i64))), (16, (.sc (.int .i64))), (17, (.sc (.int .i64))), (18, (.sc (.int .i64))), (19, (.sc (.int .i64))), (20, (.sc (.int .i64))), (21, (.sc (.int .i64)))]), (49, [(0, (.sc (.int .i64))), (1, (.sc (.int .i64)))]), (52, [(0, (.st (.cons (.int .i64) (.cons (.int .i64) (.cons (.int .i64) (.cons (.int .i64) (.cons (.int .i64) (.cons (.int .i64) (.cons (.int .i64) (.cons (.int .i64) (.cons (.int .i64) (.cons (.int .i64) (.cons (.int .i64) (.cons (.sl (.cons (.int .i64) (.one (.int .i64)))) (.cons (.int .i64) (.cons (.int .i64) (.cons (.int .i64) (.cons (.int .i64) (.cons (.int .i64) (.cons (.int .i64) (.cons (.int .i64) (.cons (.int .i64) (.cons (.int .i64) (.one (.int .i64)))))))))))))))))))))))))])]
  el := [(24, (.st (.cons (.int .i64) (.one (.int .i64)))), 16), (36, (.sc (.int .i64)), 8)]
  eqT := [(49, (.cons (.int .i64) (.one (.int .i64))))] }
set_option maxRecDepth 100000 in
theorem tabs_ok : tabs.okB Try.prog = true := by kernel_rfl
theorem follows : Try.prog.follows .mixedOrders = true := by kernel_rfl

/-! ### 8: reno.New -/
noncomputable def sums8 : Nat → Option Summ := fun _ => none
noncomputable def bodies8 : Nat → Option Body := fun _ => none
theorem fns8 : FnsOk Try.prog sums8 bodies8 := FnsOk.none
noncomputable def s8 : Summ := { ps := [(.sc (.int .i64)), (.sc (.int .i64))], rs := [(.st (.cons (.int .i64) (.cons (.int .i64) (.cons (.int .i64) (.cons (.int .i64) (.cons (.int .i64) (.cons (.int .i64) (.cons (.int .i64) (.cons (.int .i64) (.cons (.int .i64) (.cons (.int .i64) (.cons (.int .i64) (.cons (.sl (.cons (.int .i64) (.one (.int .i64)))) (.cons (.int .i64) (.cons (.int .i64) (.cons (.int .i64) (.cons (.int .i64) (.cons (.int .i64) (.cons (.int .i64) (.cons (.int .i64) (.cons (.int .i64) (.cons (.int .i64) (.one (.int .i64)))))))))))))))))))))))), (.sc (.int .i64))], F := fun x => f8 x.1 x.2.1 }
noncomputable def b8 : Body := Body.of Try.f8
theorem bo8 : BodyOk Try.prog 8 b8 := bodyOk_of Try.func8 (by kernel_rfl) (by kernel_rfl)
noncomputable def E8 : Env := envOf tabs sums8 bodies8 (fun _ => false)
set_option maxRecDepth 100000 in
theorem e8  (x : Den s8.ps) : run E8 (fin0 s8.rs) (Kof b8.ntmps []) 4000 true { f := 8, n := b8.ntmps, path := [], res := b8.results, tm := argTm (resList s8.ps x), todo := [.code [] b8.code] } [] H.empty = f8 x.1 x.2.1 := by kernel_rfl
theorem h8 : Contract Try.prog 8 s8 := by
  refine contract_of (E := E8) (envOk_of tabs_ok fns8 _) follows bo8 s8 rfl (fun _ => []) ?_ ?_ ?_
  · intro l hl x
    cases hl
  · intro n l hl x r hr
    cases hl
  · intro x r hr
    exact ⟨0, 4000, (e8 x).trans hr⟩

/-! ### 9: tidewayref15.New -/
noncomputable def sums9 : Nat → Option Summ := addS 8 s8 sums8
noncomputable def bodies9 : Nat → Option Body := bodies8
theorem fns9 : FnsOk Try.prog sums9 bodies9 := fns8.addS h8
noncomputable def s9 : Summ := { ps := [(.sc (.int .i64)), (.sc (.int .i64))], rs := [(.st (.cons (.int .i64) (.cons (.int .i64) (.cons (.int .i64) (.cons (.int .i64) (.cons (.int .i64) (.cons (.int .i64) (.cons (.int .i64) (.cons (.int .i64) (.cons (.int .i64) (.cons (.int .i64) (.cons (.int .i64) (.cons (.sl (.cons (.int .i64) (.one (.int .i64)))) (.cons (.int .i64) (.cons (.int .i64) (.cons (.int .i64) (.cons (.int .i64) (.cons (.int .i64) (.cons (.int .i64) (.cons (.int .i64) (.cons (.int .i64) (.cons (.int .i64) (.one (.int .i64)))))))))))))))))))))))), (.sc (.int .i64))], F := fun x => f9 x.1 x.2.1 }
noncomputable def b9 : Body := Body.of Try.f9
theorem bo9 : BodyOk Try.prog 9 b9 := bodyOk_of Try.func9 (by kernel_rfl) (by kernel_rfl)
noncomputable def E9 : Env := envOf tabs sums9 bodies9 (fun _ => false)
set_option maxRecDepth 100000 in
theorem e9  (x : Den s9.ps) : run E9 (fin0 s9.rs) (Kof b9.ntmps []) 4000 true { f := 9, n := b9.ntmps, path := [], res := b9.results, tm := argTm (resList s9.ps x), todo := [.code [] b9.code] } [] H.empty = f9 x.1 x.2.1 := by kernel_rfl
theorem h9 : Contract Try.prog 9 s9 := by
  refine contract_of (E := E9) (envOk_of tabs_ok fns9 _) follows bo9 s9 rfl (fun _ => []) ?_ ?_ ?_
  · intro l hl x
    cases hl
  · intro n l hl x r hr
    cases hl
  · intro x r hr
    exact ⟨0, 4000, (e9 x).trans hr⟩

/-! ### 10: tidewayref15.Same -/
noncomputable def sums10 : Nat → Option Summ := addS 9 s9 sums9
noncomputable def bodies10 : Nat → Option Body := bodies9
theorem fns10 : FnsOk Try.prog sums10 bodies10 := fns9.addS h9
noncomputable def s10 : Summ := { ps := [(.st (.cons (.int .i64) (.cons (.int .i64) (.cons (.int .i64) (.cons (.int .i64) (.cons (.int .i64) (.cons (.int .i64) (.cons (.int .i64) (.cons (.int .i64) (.cons (.int .i64) (.cons (.int .i64) (.cons (.int .i64) (.cons (.sl (.cons (.int .i64) (.one (.int .i64)))) (.cons (.int .i64) (.cons (.int .i64) (.cons (.int .i64) (.cons (.int .i64) (.cons (.int .i64) (.cons (.int .i64) (.cons (.int .i64) (.cons (.int .i64) (.cons (.int .i64) (.one (.int .i64)))))))))))))))))))))))), (.st (.cons (.int .i64) (.cons (.int .i64) (.cons (.int .i64) (.cons (.int .i64) (.cons (.int .i64) (.cons (.int .i64) (.cons (.int .i64) (.cons (.int .i64) (.cons (.int .i64) (.cons (.int .i64) (.cons (.int .i64) (.cons (.sl (.cons (.int .i64) (.one (.int .i64)))) (.cons (.int .i64) (.cons (.int .i64) (.cons (.int .i64) (.cons (.int .i64) (.cons (.int .i64) (.cons (.int .i64) (.cons (.int .i64) (.cons (.int .i64) (.cons (.int .i64) (.one (.int .i64))))))))))))))))))))))))], rs := [(.sc .bool)], F := fun x => f10 x.1 x.2.1 }
noncomputable def b10 : Body := Body.of Try.f10
theorem bo10 : BodyOk Try.prog 10 b10 := bodyOk_of Try.func10 (by kernel_rfl) (by kernel_rfl)
noncomputable def c10_1 : CutD := { skel := [(0, [0, 0, 1, 0, 1, 1, 1]), (1, [0, 1, 0, 1, 1, 1]), (2, [1, 0, 1, 1, 1]), (0, [1, 1, 1, 1])], dats := [(5, (.sc (.int .i64)))], fsls := [], osls := [], ptrs := [(2, [0], 0), (3, [1], 0)], blks := [([0], (.cons (.int .i64) (.cons (.int .i64) (.cons (.int .i64) (.cons (.int .i64) (.cons (.int .i64) (.cons (.int .i64) (.cons (.int .i64) (.cons (.int .i64) (.cons (.int .i64) (.cons (.int .i64) (.cons (.int .i64) (.cons (.sl (.cons (.int .i64) (.one (.int .i64)))) (.cons (.int .i64) (.cons (.int .i64) (.cons (.int .i64) (.cons (.int .i64) (.cons (.int .i64) (.cons (.int .i64) (.cons (.int .i64) (.cons (.int .i64) (.cons (.int .i64) (.one (.int .i64)))))))))))))))))))))))), ([1], (.cons (.int .i64) (.cons (.int .i64) (.cons (.int .i64) (.cons (.int .i64) (.cons (.int .i64) (.cons (.int .i64) (.cons (.int .i64) (.cons (.int .i64) (.cons (.int .i64) (.cons (.int .i64) (.cons (.int .i64) (.cons (.sl (.cons (.int .i64) (.one (.int .i64)))) (.cons (.int .i64) (.cons (.int .i64) (.cons (.int .i64) (.cons (.int .i64) (.cons (.int .i64) (.cons (.int .i64) (.cons (.int .i64) (.cons (.int .i64) (.cons (.int .i64) (.one (.int .i64))))))))))))))))))))))))] }
noncomputable def cut10 : List Nat → Bool := fun p => pathEq p [0, 0, 1, 0, 1, 1, 1]
noncomputable def E10 : Env := envOf tabs sums10 bodies10 cut10
noncomputable abbrev l10_1 (k : Int → TCc → TCc → Option (Bool × Unit)) : Loop1 (Den s10.rs) := { cd := c10_1, F := fun s => k s.d.1 s.b.1 s.b.2.1 }
set_option maxRecDepth 100000 in
theorem e10 (k1 : Int → TCc → TCc → Option (Bool × Unit)) (x : Den s10.ps) : run E10 (fin0 s10.rs) (Kof b10.ntmps [l10_1 k1]) 4000 true { f := 10, n := b10.ntmps, path := [], res := b10.results, tm := argTm (resList s10.ps x), todo := [.code [] b10.code] } [] H.empty = f10e k1 x.1 x.2.1 := by kernel_rfl
set_option maxRecDepth 100000 in
theorem e10_1 (k1 : Int → TCc → TCc → Option (Bool × Unit)) (s : SD c10_1) : run E10 (fin0 s10.rs) (Kof b10.ntmps [l10_1 k1]) 4000 false (cAF 10 b10 c10_1 s) [] (cH c10_1 s) = f10s1 k1 s.d.1 s.b.1 s.b.2.1 := by kernel_rfl
noncomputable def lst10 (n : Nat) : List (Loop1 (Den s10.rs)) := [l10_1 (f10L n)]
theorem h10 : Contract Try.prog 10 s10 := by
  refine contract_of (E := E10) (envOk_of tabs_ok fns10 _) follows bo10 s10 rfl lst10 ?_ ?_ ?_
  · intro l hl x
    simp only [lst10, List.mem_cons, List.not_mem_nil, or_false] at hl
    rcases hl with rfl
    · rfl
  · intro n l hl x r hr
    simp only [lst10, List.mem_cons, List.not_mem_nil, or_false] at hl
    rcases hl with rfl
    · exact ⟨4000, (e10_1 (f10L n) x).trans hr⟩
  · intro x r hr
    exact ⟨1005, 4000, (e10 (f10L (1005)) x).trans hr⟩

/-! ### 22: reno.size -/
noncomputable def sums22 : Nat → Option Summ := addS 10 s10 sums10
noncomputable def bodies22 : Nat → Option Body := bodies10
theorem fns22 : FnsOk Try.prog sums22 bodies22 := fns10.addS h10
noncomputable def s22 : Summ := { ps := [(.sc (.int .i64))], rs := [(.sc .bool)], F := fun x => f22 x.1 }
noncomputable def b22 : Body := Body.of Try.f22
theorem bo22 : BodyOk Try.prog 22 b22 := bodyOk_of Try.func22 (by kernel_rfl) (by kernel_rfl)
noncomputable def E22 : Env := envOf tabs sums22 bodies22 (fun _ => false)
set_option maxRecDepth 100000 in
theorem e22  (x : Den s22.ps) : run E22 (fin0 s22.rs) (Kof b22.ntmps []) 4000 true { f := 22, n := b22.ntmps, path := [], res := b22.results, tm := argTm (resList s22.ps x), todo := [.code [] b22.code] } [] H.empty = f22 x.1 := by kernel_rfl
theorem h22 : Contract Try.prog 22 s22 := by
  refine contract_of (E := E22) (envOk_of tabs_ok fns22 _) follows bo22 s22 rfl (fun _ => []) ?_ ?_ ?_
  · intro l hl x
    cases hl
  · intro n l hl x r hr
    cases hl
  · intro x r hr
    exact ⟨0, 4000, (e22 x).trans hr⟩

/-! ### 23: (*reno.ctl).plain -/
noncomputable def b23 : Body := Body.of Try.f23
theorem bo23 : BodyOk Try.prog 23 b23 := bodyOk_of Try.func23 (by kernel_rfl) (by kernel_rfl)

/-! ### 11: reno.Check -/
noncomputable def sums11 : Nat → Option Summ := addS 22 s22 sums22
noncomputable def bodies11 : Nat → Option Body := addB 23 b23 (bodies22)
theorem fns11 : FnsOk Try.prog sums11 bodies11 := (fns22.addS h22).addB bo23
noncomputable def s11 : Summ := { ps := [(.st (.cons (.int .i64) (.cons (.int .i64) (.cons (.int .i64) (.cons (.int .i64) (.cons (.int .i64) (.cons (.int .i64) (.cons (.int .i64) (.cons (.int .i64) (.cons (.int .i64) (.cons (.int .i64) (.cons (.int .i64) (.cons (.sl (.cons (.int .i64) (.one (.int .i64)))) (.cons (.int .i64) (.cons (.int .i64) (.cons (.int .i64) (.cons (.int .i64) (.cons (.int .i64) (.cons (.int .i64) (.cons (.int .i64) (.cons (.int .i64) (.cons (.int .i64) (.one (.int .i64))))))))))))))))))))))))], rs := [(.sc (.int .i64))], F := fun x => f11 x.1 }
noncomputable def b11 : Body := Body.of Try.f11
theorem bo11 : BodyOk Try.prog 11 b11 := bodyOk_of Try.func11 (by kernel_rfl) (by kernel_rfl)
noncomputable def E11 : Env := envOf tabs sums11 bodies11 (fun _ => false)
set_option maxRecDepth 100000 in
theorem e11  (x : Den s11.ps) : run E11 (fin0 s11.rs) (Kof b11.ntmps []) 4000 true { f := 11, n := b11.ntmps, path := [], res := b11.results, tm := argTm (resList s11.ps x), todo := [.code [] b11.code] } [] H.empty = f11 x.1 := by kernel_rfl
theorem h11 : Contract Try.prog 11 s11 := by
  refine contract_of (E := E11) (envOk_of tabs_ok fns11 _) follows bo11 s11 rfl (fun _ => []) ?_ ?_ ?_
  · intro l hl x
    cases hl
  · intro n l hl x r hr
    cases hl
  · intro x r hr
    exact ⟨0, 4000, (e11 x).trans hr⟩

/-! ### 24: reno.begun -/
noncomputable def b24 : Body := Body.of Try.f24
theorem bo24 : BodyOk Try.prog 24 b24 := bodyOk_of Try.func24 (by kernel_rfl) (by kernel_rfl)

/-! ### 25: (*reno.ctl).rise -/
noncomputable def b25 : Body := Body.of Try.f25
theorem bo25 : BodyOk Try.prog 25 b25 := bodyOk_of Try.func25 (by kernel_rfl) (by kernel_rfl)

/-! ### 13: reno.Acked -/
noncomputable def sums13 : Nat → Option Summ := addS 11 s11 sums11
noncomputable def bodies13 : Nat → Option Body := addB 25 b25 (addB 24 b24 (bodies11))
theorem fns13 : FnsOk Try.prog sums13 bodies13 := ((fns11.addS h11).addB bo24).addB bo25
noncomputable def s13 : Summ := { ps := [(.st (.cons (.int .i64) (.cons (.int .i64) (.cons (.int .i64) (.cons (.int .i64) (.cons (.int .i64) (.cons (.int .i64) (.cons (.int .i64) (.cons (.int .i64) (.cons (.int .i64) (.cons (.int .i64) (.cons (.int .i64) (.cons (.sl (.cons (.int .i64) (.one (.int .i64)))) (.cons (.int .i64) (.cons (.int .i64) (.cons (.int .i64) (.cons (.int .i64) (.cons (.int .i64) (.cons (.int .i64) (.cons (.int .i64) (.cons (.int .i64) (.cons (.int .i64) (.one (.int .i64)))))))))))))))))))))))), (.sc (.int .i64)), (.sc .bool)], rs := [(.st (.cons (.int .i64) (.cons (.int .i64) (.cons (.int .i64) (.cons (.int .i64) (.cons (.int .i64) (.cons (.int .i64) (.cons (.int .i64) (.cons (.int .i64) (.cons (.int .i64) (.cons (.int .i64) (.cons (.int .i64) (.cons (.sl (.cons (.int .i64) (.one (.int .i64)))) (.cons (.int .i64) (.cons (.int .i64) (.cons (.int .i64) (.cons (.int .i64) (.cons (.int .i64) (.cons (.int .i64) (.cons (.int .i64) (.cons (.int .i64) (.cons (.int .i64) (.one (.int .i64)))))))))))))))))))))))), (.sc (.int .i64))], F := fun x => f13 x.1 x.2.1 x.2.2.1 }
noncomputable def b13 : Body := Body.of Try.f13
theorem bo13 : BodyOk Try.prog 13 b13 := bodyOk_of Try.func13 (by kernel_rfl) (by kernel_rfl)
noncomputable def E13 : Env := envOf tabs sums13 bodies13 (fun _ => false)
set_option maxRecDepth 100000 in
theorem e13  (x : Den s13.ps) : run E13 (fin0 s13.rs) (Kof b13.ntmps []) 4000 true { f := 13, n := b13.ntmps, path := [], res := b13.results, tm := argTm (resList s13.ps x), todo := [.code [] b13.code] } [] H.empty = f13 x.1 x.2.1 x.2.2.1 := by kernel_rfl
theorem h13 : Contract Try.prog 13 s13 := by
  refine contract_of (E := E13) (envOk_of tabs_ok fns13 _) follows bo13 s13 rfl (fun _ => []) ?_ ?_ ?_
  · intro l hl x
    cases hl
  · intro n l hl x r hr
    cases hl
  · intro x r hr
    exact ⟨0, 4000, (e13 x).trans hr⟩

/-! ### 14: reno.Loss -/
noncomputable def sums14 : Nat → Option Summ := addS 13 s13 sums13
noncomputable def bodies14 : Nat → Option Body := bodies13
theorem fns14 : FnsOk Try.prog sums14 bodies14 := fns13.addS h13
noncomputable def s14 : Summ := { ps := [(.st (.cons (.int .i64) (.cons (.int .i64) (.cons (.int .i64) (.cons (.int .i64) (.cons (.int .i64) (.cons (.int .i64) (.cons (.int .i64) (.cons (.int .i64) (.cons (.int .i64) (.cons (.int .i64) (.cons (.int .i64) (.cons (.sl (.cons (.int .i64) (.one (.int .i64)))) (.cons (.int .i64) (.cons (.int .i64) (.cons (.int .i64) (.cons (.int .i64) (.cons (.int .i64) (.cons (.int .i64) (.cons (.int .i64) (.cons (.int .i64) (.cons (.int .i64) (.one (.int .i64)))))))))))))))))))))))), (.sc (.int .i64))], rs := [(.st (.cons (.int .i64) (.cons (.int .i64) (.cons (.int .i64) (.cons (.int .i64) (.cons (.int .i64) (.cons (.int .i64) (.cons (.int .i64) (.cons (.int .i64) (.cons (.int .i64) (.cons (.int .i64) (.cons (.int .i64) (.cons (.sl (.cons (.int .i64) (.one (.int .i64)))) (.cons (.int .i64) (.cons (.int .i64) (.cons (.int .i64) (.cons (.int .i64) (.cons (.int .i64) (.cons (.int .i64) (.cons (.int .i64) (.cons (.int .i64) (.cons (.int .i64) (.one (.int .i64)))))))))))))))))))))))), (.sc (.int .i64))], F := fun x => f14 x.1 x.2.1 }
noncomputable def b14 : Body := Body.of Try.f14
theorem bo14 : BodyOk Try.prog 14 b14 := bodyOk_of Try.func14 (by kernel_rfl) (by kernel_rfl)
noncomputable def E14 : Env := envOf tabs sums14 bodies14 (fun _ => false)
set_option maxRecDepth 100000 in
theorem e14  (x : Den s14.ps) : run E14 (fin0 s14.rs) (Kof b14.ntmps []) 4000 true { f := 14, n := b14.ntmps, path := [], res := b14.results, tm := argTm (resList s14.ps x), todo := [.code [] b14.code] } [] H.empty = f14 x.1 x.2.1 := by kernel_rfl
theorem h14 : Contract Try.prog 14 s14 := by
  refine contract_of (E := E14) (envOk_of tabs_ok fns14 _) follows bo14 s14 rfl (fun _ => []) ?_ ?_ ?_
  · intro l hl x
    cases hl
  · intro n l hl x r hr
    cases hl
  · intro x r hr
    exact ⟨0, 4000, (e14 x).trans hr⟩

/-! ### 20: reno.Done -/
noncomputable def sums20 : Nat → Option Summ := addS 14 s14 sums14
noncomputable def bodies20 : Nat → Option Body := bodies14
theorem fns20 : FnsOk Try.prog sums20 bodies20 := fns14.addS h14
noncomputable def s20 : Summ := { ps := [(.st (.cons (.int .i64) (.cons (.int .i64) (.cons (.int .i64) (.cons (.int .i64) (.cons (.int .i64) (.cons (.int .i64) (.cons (.int .i64) (.cons (.int .i64) (.cons (.int .i64) (.cons (.int .i64) (.cons (.int .i64) (.cons (.sl (.cons (.int .i64) (.one (.int .i64)))) (.cons (.int .i64) (.cons (.int .i64) (.cons (.int .i64) (.cons (.int .i64) (.cons (.int .i64) (.cons (.int .i64) (.cons (.int .i64) (.cons (.int .i64) (.cons (.int .i64) (.one (.int .i64))))))))))))))))))))))))], rs := [(.st (.cons (.int .i64) (.cons (.int .i64) (.cons (.int .i64) (.cons (.int .i64) (.cons (.int .i64) (.cons (.int .i64) (.cons (.int .i64) (.cons (.int .i64) (.cons (.int .i64) (.cons (.int .i64) (.cons (.int .i64) (.cons (.sl (.cons (.int .i64) (.one (.int .i64)))) (.cons (.int .i64) (.cons (.int .i64) (.cons (.int .i64) (.cons (.int .i64) (.cons (.int .i64) (.cons (.int .i64) (.cons (.int .i64) (.cons (.int .i64) (.cons (.int .i64) (.one (.int .i64)))))))))))))))))))))))), (.sc (.int .i64))], F := fun x => f20 x.1 }
noncomputable def b20 : Body := Body.of Try.f20
theorem bo20 : BodyOk Try.prog 20 b20 := bodyOk_of Try.func20 (by kernel_rfl) (by kernel_rfl)
noncomputable def E20 : Env := envOf tabs sums20 bodies20 (fun _ => false)
set_option maxRecDepth 100000 in
theorem e20  (x : Den s20.ps) : run E20 (fin0 s20.rs) (Kof b20.ntmps []) 4000 true { f := 20, n := b20.ntmps, path := [], res := b20.results, tm := argTm (resList s20.ps x), todo := [.code [] b20.code] } [] H.empty = f20 x.1 := by kernel_rfl
theorem h20 : Contract Try.prog 20 s20 := by
  refine contract_of (E := E20) (envOk_of tabs_ok fns20 _) follows bo20 s20 rfl (fun _ => []) ?_ ?_ ?_
  · intro l hl x
    cases hl
  · intro n l hl x r hr
    cases hl
  · intro x r hr
    exact ⟨0, 4000, (e20 x).trans hr⟩

/-! ### 12: tidewaylaw15.heads -/
noncomputable def sums12 : Nat → Option Summ := addS 20 s20 sums20
noncomputable def bodies12 : Nat → Option Body := bodies20
theorem fns12 : FnsOk Try.prog sums12 bodies12 := fns20.addS h20
noncomputable def s12 : Summ := { ps := [], rs := [(.sc .bool)], F := fun x => f12 }
noncomputable def b12 : Body := Body.of Try.f12
theorem bo12 : BodyOk Try.prog 12 b12 := bodyOk_of Try.func12 (by kernel_rfl) (by kernel_rfl)
noncomputable def E12 : Env := envOf tabs sums12 bodies12 (fun _ => false)
set_option maxRecDepth 100000 in
theorem e12  (x : Den s12.ps) : run E12 (fin0 s12.rs) (Kof b12.ntmps []) 4000 true { f := 12, n := b12.ntmps, path := [], res := b12.results, tm := argTm (resList s12.ps x), todo := [.code [] b12.code] } [] H.empty = f12  := by kernel_rfl
theorem h12 : Contract Try.prog 12 s12 := by
  refine contract_of (E := E12) (envOk_of tabs_ok fns12 _) follows bo12 s12 rfl (fun _ => []) ?_ ?_ ?_
  · intro l hl x
    cases hl
  · intro n l hl x r hr
    cases hl
  · intro x r hr
    exact ⟨0, 4000, (e12 x).trans hr⟩

/-! ### 3: tidewaylaw15.RenoBegins -/
noncomputable def sums3 : Nat → Option Summ := addS 12 s12 sums12
noncomputable def bodies3 : Nat → Option Body := bodies12
theorem fns3 : FnsOk Try.prog sums3 bodies3 := fns12.addS h12
noncomputable def s3 : Summ := { ps := [(.sc (.int .i64)), (.sc (.int .i64))], rs := [(.sc .bool)], F := fun x => f3 x.1 x.2.1 }
noncomputable def b3 : Body := Body.of Try.f3
theorem bo3 : BodyOk Try.prog 3 b3 := bodyOk_of Try.func3 (by kernel_rfl) (by kernel_rfl)
noncomputable def E3 : Env := envOf tabs sums3 bodies3 (fun _ => false)
set_option maxRecDepth 100000 in
theorem e3  (x : Den s3.ps) : run E3 (fin0 s3.rs) (Kof b3.ntmps []) 4000 true { f := 3, n := b3.ntmps, path := [], res := b3.results, tm := argTm (resList s3.ps x), todo := [.code [] b3.code] } [] H.empty = f3 x.1 x.2.1 := by kernel_rfl
theorem h3 : Contract Try.prog 3 s3 := by
  refine contract_of (E := E3) (envOk_of tabs_ok fns3 _) follows bo3 s3 rfl (fun _ => []) ?_ ?_ ?_
  · intro l hl x
    cases hl
  · intro n l hl x r hr
    cases hl
  · intro x r hr
    exact ⟨0, 4000, (e3 x).trans hr⟩

/-! ### 4: tidewaylaw15.RenoSlow -/
noncomputable def sums4 : Nat → Option Summ := addS 3 s3 sums3
noncomputable def bodies4 : Nat → Option Body := bodies3
theorem fns4 : FnsOk Try.prog sums4 bodies4 := fns3.addS h3
noncomputable def s4 : Summ := { ps := [(.st (.cons (.int .i64) (.cons (.int .i64) (.cons (.int .i64) (.cons (.int .i64) (.cons (.int .i64) (.cons (.int .i64) (.cons (.int .i64) (.cons (.int .i64) (.cons (.int .i64) (.cons (.int .i64) (.cons (.int .i64) (.cons (.sl (.cons (.int .i64) (.one (.int .i64)))) (.cons (.int .i64) (.cons (.int .i64) (.cons (.int .i64) (.cons (.int .i64) (.cons (.int .i64) (.cons (.int .i64) (.cons (.int .i64) (.cons (.int .i64) (.cons (.int .i64) (.one (.int .i64)))))))))))))))))))))))), (.sc (.sl (.one (.int .i64))))], rs := [(.sc .bool)], F := fun x => f4 x.1 x.2.1 }
noncomputable def b4 : Body := Body.of Try.f4
theorem bo4 : BodyOk Try.prog 4 b4 := bodyOk_of Try.func4 (by kernel_rfl) (by kernel_rfl)
noncomputable def c4_1 : CutD := { skel := [(0, [0, 0, 1, 0, 1, 1, 1, 1, 1]), (1, [0, 1, 0, 1, 1, 1, 1, 1]), (2, [1, 0, 1, 1, 1, 1, 1]), (0, [1, 1, 1, 1, 1, 1])], dats := [(1, (.sc (.sl (.one (.int .i64))))), (6, (.sc (.int .i64))), (8, (.sc (.int .i64))), (9, (.sc (.int .i64)))], fsls := [], osls := [], ptrs := [(5, [1001], 0)], blks := [([1001], (.cons (.int .i64) (.cons (.int .i64) (.cons (.int .i64) (.cons (.int .i64) (.cons (.int .i64) (.cons (.int .i64) (.cons (.int .i64) (.cons (.int .i64) (.cons (.int .i64) (.cons (.int .i64) (.cons (.int .i64) (.cons (.sl (.cons (.int .i64) (.one (.int .i64)))) (.cons (.int .i64) (.cons (.int .i64) (.cons (.int .i64) (.cons (.int .i64) (.cons (.int .i64) (.cons (.int .i64) (.cons (.int .i64) (.cons (.int .i64) (.cons (.int .i64) (.one (.int .i64))))))))))))))))))))))))] }
noncomputable def cut4 : List Nat → Bool := fun p => pathEq p [0, 0, 1, 0, 1, 1, 1, 1, 1]
noncomputable def E4 : Env := envOf tabs sums4 bodies4 cut4
noncomputable abbrev l4_1 (k : (List (Int)) → Int → Int → Int → TCc → Option (Bool × Unit)) : Loop1 (Den s4.rs) := { cd := c4_1, F := fun s => k s.d.1 s.d.2.1 s.d.2.2.1 s.d.2.2.2.1 s.b.1 }
set_option maxRecDepth 100000 in
theorem e4 (k1 : (List (Int)) → Int → Int → Int → TCc → Option (Bool × Unit)) (x : Den s4.ps) : run E4 (fin0 s4.rs) (Kof b4.ntmps [l4_1 k1]) 4000 true { f := 4, n := b4.ntmps, path := [], res := b4.results, tm := argTm (resList s4.ps x), todo := [.code [] b4.code] } [] H.empty = f4e k1 x.1 x.2.1 := by kernel_rfl
set_option maxRecDepth 100000 in
theorem e4_1 (k1 : (List (Int)) → Int → Int → Int → TCc → Option (Bool × Unit)) (s : SD c4_1) : run E4 (fin0 s4.rs) (Kof b4.ntmps [l4_1 k1]) 4000 false (cAF 4 b4 c4_1 s) [] (cH c4_1 s) = f4s1 k1 s.d.1 s.d.2.1 s.d.2.2.1 s.d.2.2.2.1 s.b.1 := by kernel_rfl
noncomputable def lst4 (n : Nat) : List (Loop1 (Den s4.rs)) := [l4_1 (f4L n)]
theorem h4 : Contract Try.prog 4 s4 := by
  refine contract_of (E := E4) (envOk_of tabs_ok fns4 _) follows bo4 s4 rfl lst4 ?_ ?_ ?_
  · intro l hl x
    simp only [lst4, List.mem_cons, List.not_mem_nil, or_false] at hl
    rcases hl with rfl
    · rfl
  · intro n l hl x r hr
    simp only [lst4, List.mem_cons, List.not_mem_nil, or_false] at hl
    rcases hl with rfl
    · exact ⟨4000, (e4_1 (f4L n) x).trans hr⟩
  · intro x r hr
    exact ⟨x.2.1.length + 1005, 4000, (e4 (f4L (x.2.1.length + 1005)) x).trans hr⟩

/-! ### 15: reno.Timeout -/
noncomputable def sums15 : Nat → Option Summ := addS 4 s4 sums4
noncomputable def bodies15 : Nat → Option Body := bodies4
theorem fns15 : FnsOk Try.prog sums15 bodies15 := fns4.addS h4
noncomputable def s15 : Summ := { ps := [(.st (.cons (.int .i64) (.cons (.int .i64) (.cons (.int .i64) (.cons (.int .i64) (.cons (.int .i64) (.cons (.int .i64) (.cons (.int .i64) (.cons (.int .i64) (.cons (.int .i64) (.cons (.int .i64) (.cons (.int .i64) (.cons (.sl (.cons (.int .i64) (.one (.int .i64)))) (.cons (.int .i64) (.cons (.int .i64) (.cons (.int .i64) (.cons (.int .i64) (.cons (.int .i64) (.cons (.int .i64) (.cons (.int .i64) (.cons (.int .i64) (.cons (.int .i64) (.one (.int .i64)))))))))))))))))))))))), (.sc (.int .i64))], rs := [(.st (.cons (.int .i64) (.cons (.int .i64) (.cons (.int .i64) (.cons (.int .i64) (.cons (.int .i64) (.cons (.int .i64) (.cons (.int .i64) (.cons (.int .i64) (.cons (.int .i64) (.cons (.int .i64) (.cons (.int .i64) (.cons (.sl (.cons (.int .i64) (.one (.int .i64)))) (.cons (.int .i64) (.cons (.int .i64) (.cons (.int .i64) (.cons (.int .i64) (.cons (.int .i64) (.cons (.int .i64) (.cons (.int .i64) (.cons (.int .i64) (.cons (.int .i64) (.one (.int .i64)))))))))))))))))))))))), (.sc (.int .i64))], F := fun x => f15 x.1 x.2.1 }
noncomputable def b15 : Body := Body.of Try.f15
theorem bo15 : BodyOk Try.prog 15 b15 := bodyOk_of Try.func15 (by kernel_rfl) (by kernel_rfl)
noncomputable def E15 : Env := envOf tabs sums15 bodies15 (fun _ => false)
set_option maxRecDepth 100000 in
theorem e15  (x : Den s15.ps) : run E15 (fin0 s15.rs) (Kof b15.ntmps []) 4000 true { f := 15, n := b15.ntmps, path := [], res := b15.results, tm := argTm (resList s15.ps x), todo := [.code [] b15.code] } [] H.empty = f15 x.1 x.2.1 := by kernel_rfl
theorem h15 : Contract Try.prog 15 s15 := by
  refine contract_of (E := E15) (envOk_of tabs_ok fns15 _) follows bo15 s15 rfl (fun _ => []) ?_ ?_ ?_
  · intro l hl x
    cases hl
  · intro n l hl x r hr
    cases hl
  · intro x r hr
    exact ⟨0, 4000, (e15 x).trans hr⟩

/-! ### 5: tidewaylaw15.RenoTwice -/
noncomputable def sums5 : Nat → Option Summ := addS 15 s15 sums15
noncomputable def bodies5 : Nat → Option Body := bodies15
theorem fns5 : FnsOk Try.prog sums5 bodies5 := fns15.addS h15
noncomputable def s5 : Summ := { ps := [(.st (.cons (.int .i64) (.cons (.int .i64) (.cons (.int .i64) (.cons (.int .i64) (.cons (.int .i64) (.cons (.int .i64) (.cons (.int .i64) (.cons (.int .i64) (.cons (.int .i64) (.cons (.int .i64) (.cons (.int .i64) (.cons (.sl (.cons (.int .i64) (.one (.int .i64)))) (.cons (.int .i64) (.cons (.int .i64) (.cons (.int .i64) (.cons (.int .i64) (.cons (.int .i64) (.cons (.int .i64) (.cons (.int .i64) (.cons (.int .i64) (.cons (.int .i64) (.one (.int .i64)))))))))))))))))))))))), (.sc (.int .i64))], rs := [(.sc .bool)], F := fun x => f5 x.1 x.2.1 }
noncomputable def b5 : Body := Body.of Try.f5
theorem bo5 : BodyOk Try.prog 5 b5 := bodyOk_of Try.func5 (by kernel_rfl) (by kernel_rfl)
noncomputable def E5 : Env := envOf tabs sums5 bodies5 (fun _ => false)
set_option maxRecDepth 100000 in
theorem e5  (x : Den s5.ps) : run E5 (fin0 s5.rs) (Kof b5.ntmps []) 4000 true { f := 5, n := b5.ntmps, path := [], res := b5.results, tm := argTm (resList s5.ps x), todo := [.code [] b5.code] } [] H.empty = f5 x.1 x.2.1 := by kernel_rfl
theorem h5 : Contract Try.prog 5 s5 := by
  refine contract_of (E := E5) (envOk_of tabs_ok fns5 _) follows bo5 s5 rfl (fun _ => []) ?_ ?_ ?_
  · intro l hl x
    cases hl
  · intro n l hl x r hr
    cases hl
  · intro x r hr
    exact ⟨0, 4000, (e5 x).trans hr⟩

/-! ### 29: tidewayref15.Size -/
noncomputable def sums29 : Nat → Option Summ := addS 5 s5 sums5
noncomputable def bodies29 : Nat → Option Body := bodies5
theorem fns29 : FnsOk Try.prog sums29 bodies29 := fns5.addS h5
noncomputable def s29 : Summ := { ps := [(.sc (.int .i64))], rs := [(.sc .bool)], F := fun x => f29 x.1 }
noncomputable def b29 : Body := Body.of Try.f29
theorem bo29 : BodyOk Try.prog 29 b29 := bodyOk_of Try.func29 (by kernel_rfl) (by kernel_rfl)
noncomputable def E29 : Env := envOf tabs sums29 bodies29 (fun _ => false)
set_option maxRecDepth 100000 in
theorem e29  (x : Den s29.ps) : run E29 (fin0 s29.rs) (Kof b29.ntmps []) 4000 true { f := 29, n := b29.ntmps, path := [], res := b29.results, tm := argTm (resList s29.ps x), todo := [.code [] b29.code] } [] H.empty = f29 x.1 := by kernel_rfl
theorem h29 : Contract Try.prog 29 s29 := by
  refine contract_of (E := E29) (envOk_of tabs_ok fns29 _) follows bo29 s29 rfl (fun _ => []) ?_ ?_ ?_
  · intro l hl x
    cases hl
  · intro n l hl x r hr
    cases hl
  · intro x r hr
    exact ⟨0, 4000, (e29 x).trans hr⟩

/-! ### 27: tidewayref15.Common -/
noncomputable def sums27 : Nat → Option Summ := addS 29 s29 sums29
noncomputable def bodies27 : Nat → Option Body := bodies29
theorem fns27 : FnsOk Try.prog sums27 bodies27 := fns29.addS h29
noncomputable def s27 : Summ := { ps := [(.st (.cons (.int .i64) (.cons (.int .i64) (.cons (.int .i64) (.cons (.int .i64) (.cons (.int .i64) (.cons (.int .i64) (.cons (.int .i64) (.cons (.int .i64) (.cons (.int .i64) (.cons (.int .i64) (.cons (.int .i64) (.cons (.sl (.cons (.int .i64) (.one (.int .i64)))) (.cons (.int .i64) (.cons (.int .i64) (.cons (.int .i64) (.cons (.int .i64) (.cons (.int .i64) (.cons (.int .i64) (.cons (.int .i64) (.cons (.int .i64) (.cons (.int .i64) (.one (.int .i64))))))))))))))))))))))))], rs := [(.sc .bool)], F := fun x => f27 x.1 }
noncomputable def b27 : Body := Body.of Try.f27
theorem bo27 : BodyOk Try.prog 27 b27 := bodyOk_of Try.func27 (by kernel_rfl) (by kernel_rfl)
noncomputable def E27 : Env := envOf tabs sums27 bodies27 (fun _ => false)
set_option maxRecDepth 100000 in
theorem e27  (x : Den s27.ps) : run E27 (fin0 s27.rs) (Kof b27.ntmps []) 4000 true { f := 27, n := b27.ntmps, path := [], res := b27.results, tm := argTm (resList s27.ps x), todo := [.code [] b27.code] } [] H.empty = f27 x.1 := by kernel_rfl
theorem h27 : Contract Try.prog 27 s27 := by
  refine contract_of (E := E27) (envOk_of tabs_ok fns27 _) follows bo27 s27 rfl (fun _ => []) ?_ ?_ ?_
  · intro l hl x
    cases hl
  · intro n l hl x r hr
    cases hl
  · intro x r hr
    exact ⟨0, 4000, (e27 x).trans hr⟩

/-! ### 28: tidewayref15.Plain -/
noncomputable def sums28 : Nat → Option Summ := addS 27 s27 sums27
noncomputable def bodies28 : Nat → Option Body := bodies27
theorem fns28 : FnsOk Try.prog sums28 bodies28 := fns27.addS h27
noncomputable def s28 : Summ := { ps := [(.st (.cons (.int .i64) (.cons (.int .i64) (.cons (.int .i64) (.cons (.int .i64) (.cons (.int .i64) (.cons (.int .i64) (.cons (.int .i64) (.cons (.int .i64) (.cons (.int .i64) (.cons (.int .i64) (.cons (.int .i64) (.cons (.sl (.cons (.int .i64) (.one (.int .i64)))) (.cons (.int .i64) (.cons (.int .i64) (.cons (.int .i64) (.cons (.int .i64) (.cons (.int .i64) (.cons (.int .i64) (.cons (.int .i64) (.cons (.int .i64) (.cons (.int .i64) (.one (.int .i64)))))))))))))))))))))))), (.sc .bool), (.sc .bool)], rs := [(.sc .bool)], F := fun x => f28 x.1 x.2.1 x.2.2.1 }
noncomputable def b28 : Body := Body.of Try.f28
theorem bo28 : BodyOk Try.prog 28 b28 := bodyOk_of Try.func28 (by kernel_rfl) (by kernel_rfl)
noncomputable def E28 : Env := envOf tabs sums28 bodies28 (fun _ => false)
set_option maxRecDepth 100000 in
theorem e28  (x : Den s28.ps) : run E28 (fin0 s28.rs) (Kof b28.ntmps []) 4000 true { f := 28, n := b28.ntmps, path := [], res := b28.results, tm := argTm (resList s28.ps x), todo := [.code [] b28.code] } [] H.empty = f28 x.1 x.2.1 x.2.2.1 := by kernel_rfl
theorem h28 : Contract Try.prog 28 s28 := by
  refine contract_of (E := E28) (envOk_of tabs_ok fns28 _) follows bo28 s28 rfl (fun _ => []) ?_ ?_ ?_
  · intro l hl x
    cases hl
  · intro n l hl x r hr
    cases hl
  · intro x r hr
    exact ⟨0, 4000, (e28 x).trans hr⟩

/-! ### 18: tidewayref15.Check -/
noncomputable def sums18 : Nat → Option Summ := addS 28 s28 sums28
noncomputable def bodies18 : Nat → Option Body := bodies28
theorem fns18 : FnsOk Try.prog sums18 bodies18 := fns28.addS h28
noncomputable def s18 : Summ := { ps := [(.st (.cons (.int .i64) (.cons (.int .i64) (.cons (.int .i64) (.cons (.int .i64) (.cons (.int .i64) (.cons (.int .i64) (.cons (.int .i64) (.cons (.int .i64) (.cons (.int .i64) (.cons (.int .i64) (.cons (.int .i64) (.cons (.sl (.cons (.int .i64) (.one (.int .i64)))) (.cons (.int .i64) (.cons (.int .i64) (.cons (.int .i64) (.cons (.int .i64) (.cons (.int .i64) (.cons (.int .i64) (.cons (.int .i64) (.cons (.int .i64) (.cons (.int .i64) (.one (.int .i64))))))))))))))))))))))))], rs := [(.sc (.int .i64))], F := fun x => f18 x.1 }
noncomputable def b18 : Body := Body.of Try.f18
theorem bo18 : BodyOk Try.prog 18 b18 := bodyOk_of Try.func18 (by kernel_rfl) (by kernel_rfl)
noncomputable def E18 : Env := envOf tabs sums18 bodies18 (fun _ => false)
set_option maxRecDepth 100000 in
theorem e18  (x : Den s18.ps) : run E18 (fin0 s18.rs) (Kof b18.ntmps []) 4000 true { f := 18, n := b18.ntmps, path := [], res := b18.results, tm := argTm (resList s18.ps x), todo := [.code [] b18.code] } [] H.empty = f18 x.1 := by kernel_rfl
theorem h18 : Contract Try.prog 18 s18 := by
  refine contract_of (E := E18) (envOk_of tabs_ok fns18 _) follows bo18 s18 rfl (fun _ => []) ?_ ?_ ?_
  · intro l hl x
    cases hl
  · intro n l hl x r hr
    cases hl
  · intro x r hr
    exact ⟨0, 4000, (e18 x).trans hr⟩

/-! ### 26: tidewayref15.ask -/
noncomputable def sums26 : Nat → Option Summ := addS 18 s18 sums18
noncomputable def bodies26 : Nat → Option Body := bodies18
theorem fns26 : FnsOk Try.prog sums26 bodies26 := fns18.addS h18
noncomputable def s26 : Summ := { ps := [(.st (.cons (.int .i64) (.cons (.int .i64) (.cons (.int .i64) (.cons (.int .i64) (.cons (.int .i64) (.cons (.int .i64) (.cons (.int .i64) (.cons (.int .i64) (.cons (.int .i64) (.cons (.int .i64) (.cons (.int .i64) (.cons (.sl (.cons (.int .i64) (.one (.int .i64)))) (.cons (.int .i64) (.cons (.int .i64) (.cons (.int .i64) (.cons (.int .i64) (.cons (.int .i64) (.cons (.int .i64) (.cons (.int .i64) (.cons (.int .i64) (.cons (.int .i64) (.one (.int .i64)))))))))))))))))))))))), (.sc (.int .i64))], rs := [(.sc (.int .i64))], F := fun x => f26 x.1 x.2.1 }
noncomputable def b26 : Body := Body.of Try.f26
theorem bo26 : BodyOk Try.prog 26 b26 := bodyOk_of Try.func26 (by kernel_rfl) (by kernel_rfl)
noncomputable def E26 : Env := envOf tabs sums26 bodies26 (fun _ => false)
set_option maxRecDepth 100000 in
theorem e26  (x : Den s26.ps) : run E26 (fin0 s26.rs) (Kof b26.ntmps []) 4000 true { f := 26, n := b26.ntmps, path := [], res := b26.results, tm := argTm (resList s26.ps x), todo := [.code [] b26.code] } [] H.empty = f26 x.1 x.2.1 := by kernel_rfl
theorem h26 : Contract Try.prog 26 s26 := by
  refine contract_of (E := E26) (envOk_of tabs_ok fns26 _) follows bo26 s26 rfl (fun _ => []) ?_ ?_ ?_
  · intro l hl x
    cases hl
  · intro n l hl x r hr
    cases hl
  · intro x r hr
    exact ⟨0, 4000, (e26 x).trans hr⟩

/-! ### 16: tidewayref15.Acked -/
noncomputable def sums16 : Nat → Option Summ := addS 26 s26 sums26
noncomputable def bodies16 : Nat → Option Body := bodies26
theorem fns16 : FnsOk Try.prog sums16 bodies16 := fns26.addS h26
noncomputable def s16 : Summ := { ps := [(.st (.cons (.int .i64) (.cons (.int .i64) (.cons (.int .i64) (.cons (.int .i64) (.cons (.int .i64) (.cons (.int .i64) (.cons (.int .i64) (.cons (.int .i64) (.cons (.int .i64) (.cons (.int .i64) (.cons (.int .i64) (.cons (.sl (.cons (.int .i64) (.one (.int .i64)))) (.cons (.int .i64) (.cons (.int .i64) (.cons (.int .i64) (.cons (.int .i64) (.cons (.int .i64) (.cons (.int .i64) (.cons (.int .i64) (.cons (.int .i64) (.cons (.int .i64) (.one (.int .i64)))))))))))))))))))))))), (.sc (.int .i64)), (.sc .bool)], rs := [(.st (.cons (.int .i64) (.cons (.int .i64) (.cons (.int .i64) (.cons (.int .i64) (.cons (.int .i64) (.cons (.int .i64) (.cons (.int .i64) (.cons (.int .i64) (.cons (.int .i64) (.cons (.int .i64) (.cons (.int .i64) (.cons (.sl (.cons (.int .i64) (.one (.int .i64)))) (.cons (.int .i64) (.cons (.int .i64) (.cons (.int .i64) (.cons (.int .i64) (.cons (.int .i64) (.cons (.int .i64) (.cons (.int .i64) (.cons (.int .i64) (.cons (.int .i64) (.one (.int .i64)))))))))))))))))))))))), (.sc (.int .i64))], F := fun x => f16 x.1 x.2.1 x.2.2.1 }
noncomputable def b16 : Body := Body.of Try.f16
theorem bo16 : BodyOk Try.prog 16 b16 := bodyOk_of Try.func16 (by kernel_rfl) (by kernel_rfl)
noncomputable def E16 : Env := envOf tabs sums16 bodies16 (fun _ => false)
set_option maxRecDepth 100000 in
theorem e16  (x : Den s16.ps) : run E16 (fin0 s16.rs) (Kof b16.ntmps []) 4000 true { f := 16, n := b16.ntmps, path := [], res := b16.results, tm := argTm (resList s16.ps x), todo := [.code [] b16.code] } [] H.empty = f16 x.1 x.2.1 x.2.2.1 := by kernel_rfl
theorem h16 : Contract Try.prog 16 s16 := by
  refine contract_of (E := E16) (envOk_of tabs_ok fns16 _) follows bo16 s16 rfl (fun _ => []) ?_ ?_ ?_
  · intro l hl x
    cases hl
  · intro n l hl x r hr
    cases hl
  · intro x r hr
    exact ⟨0, 4000, (e16 x).trans hr⟩

/-! ### 17: tidewayref15.Loss -/
noncomputable def sums17 : Nat → Option Summ := addS 16 s16 sums16
noncomputable def bodies17 : Nat → Option Body := bodies16
theorem fns17 : FnsOk Try.prog sums17 bodies17 := fns16.addS h16
noncomputable def s17 : Summ := { ps := [(.st (.cons (.int .i64) (.cons (.int .i64) (.cons (.int .i64) (.cons (.int .i64) (.cons (.int .i64) (.cons (.int .i64) (.cons (.int .i64) (.cons (.int .i64) (.cons (.int .i64) (.cons (.int .i64) (.cons (.int .i64) (.cons (.sl (.cons (.int .i64) (.one (.int .i64)))) (.cons (.int .i64) (.cons (.int .i64) (.cons (.int .i64) (.cons (.int .i64) (.cons (.int .i64) (.cons (.int .i64) (.cons (.int .i64) (.cons (.int .i64) (.cons (.int .i64) (.one (.int .i64)))))))))))))))))))))))), (.sc (.int .i64))], rs := [(.st (.cons (.int .i64) (.cons (.int .i64) (.cons (.int .i64) (.cons (.int .i64) (.cons (.int .i64) (.cons (.int .i64) (.cons (.int .i64) (.cons (.int .i64) (.cons (.int .i64) (.cons (.int .i64) (.cons (.int .i64) (.cons (.sl (.cons (.int .i64) (.one (.int .i64)))) (.cons (.int .i64) (.cons (.int .i64) (.cons (.int .i64) (.cons (.int .i64) (.cons (.int .i64) (.cons (.int .i64) (.cons (.int .i64) (.cons (.int .i64) (.cons (.int .i64) (.one (.int .i64)))))))))))))))))))))))), (.sc (.int .i64))], F := fun x => f17 x.1 x.2.1 }
noncomputable def b17 : Body := Body.of Try.f17
theorem bo17 : BodyOk Try.prog 17 b17 := bodyOk_of Try.func17 (by kernel_rfl) (by kernel_rfl)
noncomputable def E17 : Env := envOf tabs sums17 bodies17 (fun _ => false)
set_option maxRecDepth 100000 in
theorem e17  (x : Den s17.ps) : run E17 (fin0 s17.rs) (Kof b17.ntmps []) 4000 true { f := 17, n := b17.ntmps, path := [], res := b17.results, tm := argTm (resList s17.ps x), todo := [.code [] b17.code] } [] H.empty = f17 x.1 x.2.1 := by kernel_rfl
theorem h17 : Contract Try.prog 17 s17 := by
  refine contract_of (E := E17) (envOk_of tabs_ok fns17 _) follows bo17 s17 rfl (fun _ => []) ?_ ?_ ?_
  · intro l hl x
    cases hl
  · intro n l hl x r hr
    cases hl
  · intro x r hr
    exact ⟨0, 4000, (e17 x).trans hr⟩

/-! ### 19: tidewayref15.Timeout -/
noncomputable def sums19 : Nat → Option Summ := addS 17 s17 sums17
noncomputable def bodies19 : Nat → Option Body := bodies17
theorem fns19 : FnsOk Try.prog sums19 bodies19 := fns17.addS h17
noncomputable def s19 : Summ := { ps := [(.st (.cons (.int .i64) (.cons (.int .i64) (.cons (.int .i64) (.cons (.int .i64) (.cons (.int .i64) (.cons (.int .i64) (.cons (.int .i64) (.cons (.int .i64) (.cons (.int .i64) (.cons (.int .i64) (.cons (.int .i64) (.cons (.sl (.cons (.int .i64) (.one (.int .i64)))) (.cons (.int .i64) (.cons (.int .i64) (.cons (.int .i64) (.cons (.int .i64) (.cons (.int .i64) (.cons (.int .i64) (.cons (.int .i64) (.cons (.int .i64) (.cons (.int .i64) (.one (.int .i64)))))))))))))))))))))))), (.sc (.int .i64))], rs := [(.st (.cons (.int .i64) (.cons (.int .i64) (.cons (.int .i64) (.cons (.int .i64) (.cons (.int .i64) (.cons (.int .i64) (.cons (.int .i64) (.cons (.int .i64) (.cons (.int .i64) (.cons (.int .i64) (.cons (.int .i64) (.cons (.sl (.cons (.int .i64) (.one (.int .i64)))) (.cons (.int .i64) (.cons (.int .i64) (.cons (.int .i64) (.cons (.int .i64) (.cons (.int .i64) (.cons (.int .i64) (.cons (.int .i64) (.cons (.int .i64) (.cons (.int .i64) (.one (.int .i64)))))))))))))))))))))))), (.sc (.int .i64))], F := fun x => f19 x.1 x.2.1 }
noncomputable def b19 : Body := Body.of Try.f19
theorem bo19 : BodyOk Try.prog 19 b19 := bodyOk_of Try.func19 (by kernel_rfl) (by kernel_rfl)
noncomputable def E19 : Env := envOf tabs sums19 bodies19 (fun _ => false)
set_option maxRecDepth 100000 in
theorem e19  (x : Den s19.ps) : run E19 (fin0 s19.rs) (Kof b19.ntmps []) 4000 true { f := 19, n := b19.ntmps, path := [], res := b19.results, tm := argTm (resList s19.ps x), todo := [.code [] b19.code] } [] H.empty = f19 x.1 x.2.1 := by kernel_rfl
theorem h19 : Contract Try.prog 19 s19 := by
  refine contract_of (E := E19) (envOk_of tabs_ok fns19 _) follows bo19 s19 rfl (fun _ => []) ?_ ?_ ?_
  · intro l hl x
    cases hl
  · intro n l hl x r hr
    cases hl
  · intro x r hr
    exact ⟨0, 4000, (e19 x).trans hr⟩

/-! ### 21: tidewayref15.Done -/
noncomputable def sums21 : Nat → Option Summ := addS 19 s19 sums19
noncomputable def bodies21 : Nat → Option Body := bodies19
theorem fns21 : FnsOk Try.prog sums21 bodies21 := fns19.addS h19
noncomputable def s21 : Summ := { ps := [(.st (.cons (.int .i64) (.cons (.int .i64) (.cons (.int .i64) (.cons (.int .i64) (.cons (.int .i64) (.cons (.int .i64) (.cons (.int .i64) (.cons (.int .i64) (.cons (.int .i64) (.cons (.int .i64) (.cons (.int .i64) (.cons (.sl (.cons (.int .i64) (.one (.int .i64)))) (.cons (.int .i64) (.cons (.int .i64) (.cons (.int .i64) (.cons (.int .i64) (.cons (.int .i64) (.cons (.int .i64) (.cons (.int .i64) (.cons (.int .i64) (.cons (.int .i64) (.one (.int .i64))))))))))))))))))))))))], rs := [(.st (.cons (.int .i64) (.cons (.int .i64) (.cons (.int .i64) (.cons (.int .i64) (.cons (.int .i64) (.cons (.int .i64) (.cons (.int .i64) (.cons (.int .i64) (.cons (.int .i64) (.cons (.int .i64) (.cons (.int .i64) (.cons (.sl (.cons (.int .i64) (.one (.int .i64)))) (.cons (.int .i64) (.cons (.int .i64) (.cons (.int .i64) (.cons (.int .i64) (.cons (.int .i64) (.cons (.int .i64) (.cons (.int .i64) (.cons (.int .i64) (.cons (.int .i64) (.one (.int .i64)))))))))))))))))))))))), (.sc (.int .i64))], F := fun x => f21 x.1 }
noncomputable def b21 : Body := Body.of Try.f21
theorem bo21 : BodyOk Try.prog 21 b21 := bodyOk_of Try.func21 (by kernel_rfl) (by kernel_rfl)
noncomputable def E21 : Env := envOf tabs sums21 bodies21 (fun _ => false)
set_option maxRecDepth 100000 in
theorem e21  (x : Den s21.ps) : run E21 (fin0 s21.rs) (Kof b21.ntmps []) 4000 true { f := 21, n := b21.ntmps, path := [], res := b21.results, tm := argTm (resList s21.ps x), todo := [.code [] b21.code] } [] H.empty = f21 x.1 := by kernel_rfl
theorem h21 : Contract Try.prog 21 s21 := by
  refine contract_of (E := E21) (envOk_of tabs_ok fns21 _) follows bo21 s21 rfl (fun _ => []) ?_ ?_ ?_
  · intro l hl x
    cases hl
  · intro n l hl x r hr
    cases hl
  · intro x r hr
    exact ⟨0, 4000, (e21 x).trans hr⟩

/-! ### 6: tidewaylaw15.RenoMoves -/
noncomputable def sums6 : Nat → Option Summ := addS 21 s21 sums21
noncomputable def bodies6 : Nat → Option Body := bodies21
theorem fns6 : FnsOk Try.prog sums6 bodies6 := fns21.addS h21
noncomputable def s6 : Summ := { ps := [(.st (.cons (.int .i64) (.cons (.int .i64) (.cons (.int .i64) (.cons (.int .i64) (.cons (.int .i64) (.cons (.int .i64) (.cons (.int .i64) (.cons (.int .i64) (.cons (.int .i64) (.cons (.int .i64) (.cons (.int .i64) (.cons (.sl (.cons (.int .i64) (.one (.int .i64)))) (.cons (.int .i64) (.cons (.int .i64) (.cons (.int .i64) (.cons (.int .i64) (.cons (.int .i64) (.cons (.int .i64) (.cons (.int .i64) (.cons (.int .i64) (.cons (.int .i64) (.one (.int .i64)))))))))))))))))))))))), (.sc (.int .i64)), (.sc .bool)], rs := [(.sc .bool)], F := fun x => f6 x.1 x.2.1 x.2.2.1 }
noncomputable def b6 : Body := Body.of Try.f6
theorem bo6 : BodyOk Try.prog 6 b6 := bodyOk_of Try.func6 (by kernel_rfl) (by kernel_rfl)
noncomputable def E6 : Env := envOf tabs sums6 bodies6 (fun _ => false)
set_option maxRecDepth 100000 in
theorem e6  (x : Den s6.ps) : run E6 (fin0 s6.rs) (Kof b6.ntmps []) 4000 true { f := 6, n := b6.ntmps, path := [], res := b6.results, tm := argTm (resList s6.ps x), todo := [.code [] b6.code] } [] H.empty = f6 x.1 x.2.1 x.2.2.1 := by kernel_rfl
theorem h6 : Contract Try.prog 6 s6 := by
  refine contract_of (E := E6) (envOk_of tabs_ok fns6 _) follows bo6 s6 rfl (fun _ => []) ?_ ?_ ?_
  · intro l hl x
    cases hl
  · intro n l hl x r hr
    cases hl
  · intro x r hr
    exact ⟨0, 4000, (e6 x).trans hr⟩

/-! ### 7: tidewaylaw15.RenoFalls -/
noncomputable def sums7 : Nat → Option Summ := addS 6 s6 sums6
noncomputable def bodies7 : Nat → Option Body := bodies6
theorem fns7 : FnsOk Try.prog sums7 bodies7 := fns6.addS h6
noncomputable def s7 : Summ := { ps := [(.st (.cons (.int .i64) (.cons (.int .i64) (.cons (.int .i64) (.cons (.int .i64) (.cons (.int .i64) (.cons (.int .i64) (.cons (.int .i64) (.cons (.int .i64) (.cons (.int .i64) (.cons (.int .i64) (.cons (.int .i64) (.cons (.sl (.cons (.int .i64) (.one (.int .i64)))) (.cons (.int .i64) (.cons (.int .i64) (.cons (.int .i64) (.cons (.int .i64) (.cons (.int .i64) (.cons (.int .i64) (.cons (.int .i64) (.cons (.int .i64) (.cons (.int .i64) (.one (.int .i64)))))))))))))))))))))))), (.sc (.int .i64))], rs := [(.sc .bool)], F := fun x => f7 x.1 x.2.1 }
noncomputable def b7 : Body := Body.of Try.f7
theorem bo7 : BodyOk Try.prog 7 b7 := bodyOk_of Try.func7 (by kernel_rfl) (by kernel_rfl)
noncomputable def E7 : Env := envOf tabs sums7 bodies7 (fun _ => false)
set_option maxRecDepth 100000 in
theorem e7  (x : Den s7.ps) : run E7 (fin0 s7.rs) (Kof b7.ntmps []) 4000 true { f := 7, n := b7.ntmps, path := [], res := b7.results, tm := argTm (resList s7.ps x), todo := [.code [] b7.code] } [] H.empty = f7 x.1 x.2.1 := by kernel_rfl
theorem h7 : Contract Try.prog 7 s7 := by
  refine contract_of (E := E7) (envOk_of tabs_ok fns7 _) follows bo7 s7 rfl (fun _ => []) ?_ ?_ ?_
  · intro l hl x
    cases hl
  · intro n l hl x r hr
    cases hl
  · intro x r hr
    exact ⟨0, 4000, (e7 x).trans hr⟩
end Go.Proofs.Ytgghbpijmdljgaa.Gn
