/-
  No cell of these rows narrows 'for every input' (looked for: loops, veiled, ifaces, maps, wideKeys, modest, calm, conditions, laid).
  DERIVED. THE GIVEN ROWS OF THIS SEAT. 5 by the template 'for every input the law returns true; each argument reads behind the call as it read before'; 0 by the template 'total and deterministic' (their statements: YthdjomfkechfoaaTotals.lean).
  GIVEN WITH THE SEED: the statements are not yours to turn. If you find one false, say at which input.
  Laid BY PROGRAM, IN A SANDBOX (cutbox-rows.mjs): the forced cells as the released guide's own fill.sh prints them over the translation 2e0d8e99dfed7828… (all of the seat's roots in one cut). By AI agents, Wed Nov 11 2026. No macro, syntax, notation, axiom, sorry.
-/
import Derived.Test.YthdjomfkechfoaaChecked
import GoSem.Claim
import GoSem.ClaimJoined
import GoSem.ClaimMapViews
import Derived.JoinedTies
import Derived.KernelRfl
namespace Go.Proofs.Ythdjomfkechfoaa
/- THE CELL 'sum', in the pinned program and in every row, IS THE sha256 OF THE DUMP (.gsa) THAT YthdjomfkechfoaaProg.lean LOADS. Nothing in Lean hashes anything: it is a label: what it is worth is what the hold of that sum in a sandbox is worth. -/
noncomputable def Try.pinned : Pinned := { name := "ythdjomfkechfoaa", sum := "2e0d8e99dfed78282d2ae6999cf455f91a978d8f161f20f785b94131bf26f72b", checked := Try.checked }
namespace Rows
def none {H : Type} : Left H := { results := [], args := [] }

/-- 'tidewaylaw07.RingWrites': WHATEVER THE INPUT: true; the input reads as it did. -/
def ringWritesSpec : ChangeSpec := { name := "ringWrites", fn := fun _ => fun
  | [d1, d2] => { results := [.lit (.bool true)], args := [d1, d2] }
  | _ => none }
def ringWritesRow : OpenClaim := { program := "ythdjomfkechfoaa", sum := "2e0d8e99dfed78282d2ae6999cf455f91a978d8f161f20f785b94131bf26f72b", func := "tideway/tidewaylaw07.RingWrites", spec := "ringWrites", apart := false }
def RingWritesSaid : Prop := ringWritesRow.holds Try.pinned (OpenSpec.ofChange ringWritesSpec)

/-- ITS FALSE NEIGHBOUR: 'it returns false'. Refute it at one input. -/
def ringWritesWrong : ChangeSpec := { name := "ringWrites", fn := fun _ => fun
  | [d1, d2] => { results := [.lit (.bool false)], args := [d1, d2] }
  | _ => none }
def RingWritesWrongFalsely : Prop := ringWritesRow.holds Try.pinned (OpenSpec.ofChange ringWritesWrong)

/-- 'tidewaylaw07.RingCuts': WHATEVER THE INPUT: true; the input reads as it did. -/
def ringCutsSpec : ChangeSpec := { name := "ringCuts", fn := fun _ => fun
  | [d1, d2, d3] => { results := [.lit (.bool true)], args := [d1, d2, d3] }
  | _ => none }
def ringCutsRow : OpenClaim := { program := "ythdjomfkechfoaa", sum := "2e0d8e99dfed78282d2ae6999cf455f91a978d8f161f20f785b94131bf26f72b", func := "tideway/tidewaylaw07.RingCuts", spec := "ringCuts", apart := false }
def RingCutsSaid : Prop := ringCutsRow.holds Try.pinned (OpenSpec.ofChange ringCutsSpec)

/-- ITS FALSE NEIGHBOUR: 'it returns false'. Refute it at one input. -/
def ringCutsWrong : ChangeSpec := { name := "ringCuts", fn := fun _ => fun
  | [d1, d2, d3] => { results := [.lit (.bool false)], args := [d1, d2, d3] }
  | _ => none }
def RingCutsWrongFalsely : Prop := ringCutsRow.holds Try.pinned (OpenSpec.ofChange ringCutsWrong)

/-- 'tidewaylaw07.RingKeeps': WHATEVER THE INPUT: true; the input reads as it did. -/
def ringKeepsSpec : ChangeSpec := { name := "ringKeeps", fn := fun _ => fun
  | [d1, d2, d3] => { results := [.lit (.bool true)], args := [d1, d2, d3] }
  | _ => none }
def ringKeepsRow : OpenClaim := { program := "ythdjomfkechfoaa", sum := "2e0d8e99dfed78282d2ae6999cf455f91a978d8f161f20f785b94131bf26f72b", func := "tideway/tidewaylaw07.RingKeeps", spec := "ringKeeps", apart := false }
def RingKeepsSaid : Prop := ringKeepsRow.holds Try.pinned (OpenSpec.ofChange ringKeepsSpec)

/-- ITS FALSE NEIGHBOUR: 'it returns false'. Refute it at one input. -/
def ringKeepsWrong : ChangeSpec := { name := "ringKeeps", fn := fun _ => fun
  | [d1, d2, d3] => { results := [.lit (.bool false)], args := [d1, d2, d3] }
  | _ => none }
def RingKeepsWrongFalsely : Prop := ringKeepsRow.holds Try.pinned (OpenSpec.ofChange ringKeepsWrong)

/-- 'tidewaylaw07.RingSlices': WHATEVER THE INPUT: true; the input reads as it did. -/
def ringSlicesSpec : ChangeSpec := { name := "ringSlices", fn := fun _ => fun
  | [d1, d2, d3, d4] => { results := [.lit (.bool true)], args := [d1, d2, d3, d4] }
  | _ => none }
def ringSlicesRow : OpenClaim := { program := "ythdjomfkechfoaa", sum := "2e0d8e99dfed78282d2ae6999cf455f91a978d8f161f20f785b94131bf26f72b", func := "tideway/tidewaylaw07.RingSlices", spec := "ringSlices", apart := false }
def RingSlicesSaid : Prop := ringSlicesRow.holds Try.pinned (OpenSpec.ofChange ringSlicesSpec)

/-- ITS FALSE NEIGHBOUR: 'it returns false'. Refute it at one input. -/
def ringSlicesWrong : ChangeSpec := { name := "ringSlices", fn := fun _ => fun
  | [d1, d2, d3, d4] => { results := [.lit (.bool false)], args := [d1, d2, d3, d4] }
  | _ => none }
def RingSlicesWrongFalsely : Prop := ringSlicesRow.holds Try.pinned (OpenSpec.ofChange ringSlicesWrong)

/-- 'tidewaylaw07.RingEnds': WHATEVER THE INPUT: true; the input reads as it did. -/
def ringEndsSpec : ChangeSpec := { name := "ringEnds", fn := fun _ => fun
  | [d1, d2] => { results := [.lit (.bool true)], args := [d1, d2] }
  | _ => none }
def ringEndsRow : OpenClaim := { program := "ythdjomfkechfoaa", sum := "2e0d8e99dfed78282d2ae6999cf455f91a978d8f161f20f785b94131bf26f72b", func := "tideway/tidewaylaw07.RingEnds", spec := "ringEnds", apart := false }
def RingEndsSaid : Prop := ringEndsRow.holds Try.pinned (OpenSpec.ofChange ringEndsSpec)

/-- ITS FALSE NEIGHBOUR: 'it returns false'. Refute it at one input. -/
def ringEndsWrong : ChangeSpec := { name := "ringEnds", fn := fun _ => fun
  | [d1, d2] => { results := [.lit (.bool false)], args := [d1, d2] }
  | _ => none }
def RingEndsWrongFalsely : Prop := ringEndsRow.holds Try.pinned (OpenSpec.ofChange ringEndsWrong)

/- THE SECOND FORM. 'bulk': how many values and letters a reading holds, each counted each time it is reached (what is shared counts as often as it is met; a slice's spare places count too). A statement '..UptoSaid' is the law's where the arguments, and the package variables that the reading takes, are together of bulk at most 1048576: NARROWER than '..Said'. Prove '..Said' where nothing that the law and all that it calls make is longer than what came in: it says more and counts as full. Else prove '..UptoSaid'. A law counts once. -/
mutual
def uptoBulk {H : Type} : DataW H → Nat
  | .lit (.string bytes) => bytes.length + 1
  | .lit _ => 1
  | .nil => 1
  | .ptr d => uptoBulk d + 1
  | .slice elems spare => uptoBulkAll elems + uptoBulkAll spare + 1
  | .agg parts => uptoBulkAll parts + 1
  | .iface _ d => uptoBulk d + 1
  | .map entries => uptoBulkEntries entries + 1
  | .held _ => 1
def uptoBulkAll {H : Type} : List (DataW H) → Nat
  | [] => 0
  | d :: r => uptoBulk d + uptoBulkAll r
def uptoBulkEntries {H : Type} : List (Lit × DataW H) → Nat
  | [] => 0
  | x :: r => uptoBulkEntry x + uptoBulkEntries r
def uptoBulkEntry {H : Type} : Lit × DataW H → Nat
  | (.string bytes, d) => bytes.length + uptoBulk d + 1
  | (_, d) => uptoBulk d + 1
 end
def uptoSmall : (H : Type) → List (DataW H) → Bool := fun _ ds => decide (uptoBulkAll ds ≤ 1048576)
def OpenSpec.upto (s : _root_.Go.ChangeSpec) : _root_.Go.OpenSpec := { _root_.Go.OpenSpec.ofChange s with cond := some uptoSmall }

/-- 'tidewaylaw07.RingWrites', WHERE WHAT IT READS IS OF BULK AT MOST 1048576: true; the input reads as it did. -/
def ringWritesUptoRow : OpenClaim := { program := "ythdjomfkechfoaa", sum := "2e0d8e99dfed78282d2ae6999cf455f91a978d8f161f20f785b94131bf26f72b", func := "tideway/tidewaylaw07.RingWrites", spec := "ringWrites", apart := false, narrowed := true }
def RingWritesUptoSaid : Prop := ringWritesUptoRow.holds Try.pinned (OpenSpec.upto ringWritesSpec)

/-- 'tidewaylaw07.RingCuts', WHERE WHAT IT READS IS OF BULK AT MOST 1048576: true; the input reads as it did. -/
def ringCutsUptoRow : OpenClaim := { program := "ythdjomfkechfoaa", sum := "2e0d8e99dfed78282d2ae6999cf455f91a978d8f161f20f785b94131bf26f72b", func := "tideway/tidewaylaw07.RingCuts", spec := "ringCuts", apart := false, narrowed := true }
def RingCutsUptoSaid : Prop := ringCutsUptoRow.holds Try.pinned (OpenSpec.upto ringCutsSpec)

/-- 'tidewaylaw07.RingKeeps', WHERE WHAT IT READS IS OF BULK AT MOST 1048576: true; the input reads as it did. -/
def ringKeepsUptoRow : OpenClaim := { program := "ythdjomfkechfoaa", sum := "2e0d8e99dfed78282d2ae6999cf455f91a978d8f161f20f785b94131bf26f72b", func := "tideway/tidewaylaw07.RingKeeps", spec := "ringKeeps", apart := false, narrowed := true }
def RingKeepsUptoSaid : Prop := ringKeepsUptoRow.holds Try.pinned (OpenSpec.upto ringKeepsSpec)

/-- 'tidewaylaw07.RingSlices', WHERE WHAT IT READS IS OF BULK AT MOST 1048576: true; the input reads as it did. -/
def ringSlicesUptoRow : OpenClaim := { program := "ythdjomfkechfoaa", sum := "2e0d8e99dfed78282d2ae6999cf455f91a978d8f161f20f785b94131bf26f72b", func := "tideway/tidewaylaw07.RingSlices", spec := "ringSlices", apart := false, narrowed := true }
def RingSlicesUptoSaid : Prop := ringSlicesUptoRow.holds Try.pinned (OpenSpec.upto ringSlicesSpec)

/-- 'tidewaylaw07.RingEnds', WHERE WHAT IT READS IS OF BULK AT MOST 1048576: true; the input reads as it did. -/
def ringEndsUptoRow : OpenClaim := { program := "ythdjomfkechfoaa", sum := "2e0d8e99dfed78282d2ae6999cf455f91a978d8f161f20f785b94131bf26f72b", func := "tideway/tidewaylaw07.RingEnds", spec := "ringEnds", apart := false, narrowed := true }
def RingEndsUptoSaid : Prop := ringEndsUptoRow.holds Try.pinned (OpenSpec.upto ringEndsSpec)

end Rows
end Go.Proofs.Ythdjomfkechfoaa
