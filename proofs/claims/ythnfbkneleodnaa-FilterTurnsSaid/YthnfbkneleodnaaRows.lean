/-
  No cell of these rows narrows 'for every input' (looked for: loops, veiled, ifaces, maps, wideKeys, modest, calm, conditions, laid).
  DERIVED. THE GIVEN ROWS OF THIS SEAT. 4 by the template 'for every input the law returns true; each argument reads behind the call as it read before'; 0 by the template 'total and deterministic' (their statements: YthnfbkneleodnaaTotals.lean).
  GIVEN WITH THE SEED: the statements are not yours to turn. If you find one false, say at which input.
  Laid BY PROGRAM, IN A SANDBOX (cutbox-rows.mjs): the forced cells as the released guide's own fill.sh prints them over the translation 5b3e2d69aa864b6c… (all of the seat's roots in one cut). By AI agents, Wed Nov 11 2026. No macro, syntax, notation, axiom, sorry.
-/
import Derived.Test.YthnfbkneleodnaaChecked
import GoSem.Claim
import GoSem.ClaimJoined
import GoSem.ClaimMapViews
import Derived.JoinedTies
import Derived.KernelRfl
namespace Go.Proofs.Ythnfbkneleodnaa
/- THE CELL 'sum', in the pinned program and in every row, IS THE sha256 OF THE DUMP (.gsa) THAT YthnfbkneleodnaaProg.lean LOADS. Nothing in Lean hashes anything: it is a label: what it is worth is what the hold of that sum in a sandbox is worth. -/
noncomputable def Try.pinned : Pinned := { name := "ythnfbkneleodnaa", sum := "5b3e2d69aa864b6c54d8cf82198299e038ebce721da76fa4414f04431b06c4d3", checked := Try.checked }
namespace Rows
def none {H : Type} : Left H := { results := [], args := [] }

/-- 'tidewaylaw12.FilterOld': WHATEVER THE INPUT: true; the input reads as it did. -/
def filterOldSpec : ChangeSpec := { name := "filterOld", fn := fun _ => fun
  | [d1, d2, d3, d4] => { results := [.lit (.bool true)], args := [d1, d2, d3, d4] }
  | _ => none }
def filterOldRow : OpenClaim := { program := "ythnfbkneleodnaa", sum := "5b3e2d69aa864b6c54d8cf82198299e038ebce721da76fa4414f04431b06c4d3", func := "tideway/tidewaylaw12.FilterOld", spec := "filterOld", apart := false }
def FilterOldSaid : Prop := filterOldRow.holds Try.pinned (OpenSpec.ofChange filterOldSpec)

/-- ITS FALSE NEIGHBOUR: 'it returns false'. Refute it at one input. -/
def filterOldWrong : ChangeSpec := { name := "filterOld", fn := fun _ => fun
  | [d1, d2, d3, d4] => { results := [.lit (.bool false)], args := [d1, d2, d3, d4] }
  | _ => none }
def FilterOldWrongFalsely : Prop := filterOldRow.holds Try.pinned (OpenSpec.ofChange filterOldWrong)

/-- 'tidewaylaw12.FilterPuts': WHATEVER THE INPUT: true; the input reads as it did. -/
def filterPutsSpec : ChangeSpec := { name := "filterPuts", fn := fun _ => fun
  | [d1, d2, d3, d4] => { results := [.lit (.bool true)], args := [d1, d2, d3, d4] }
  | _ => none }
def filterPutsRow : OpenClaim := { program := "ythnfbkneleodnaa", sum := "5b3e2d69aa864b6c54d8cf82198299e038ebce721da76fa4414f04431b06c4d3", func := "tideway/tidewaylaw12.FilterPuts", spec := "filterPuts", apart := false }
def FilterPutsSaid : Prop := filterPutsRow.holds Try.pinned (OpenSpec.ofChange filterPutsSpec)

/-- ITS FALSE NEIGHBOUR: 'it returns false'. Refute it at one input. -/
def filterPutsWrong : ChangeSpec := { name := "filterPuts", fn := fun _ => fun
  | [d1, d2, d3, d4] => { results := [.lit (.bool false)], args := [d1, d2, d3, d4] }
  | _ => none }
def FilterPutsWrongFalsely : Prop := filterPutsRow.holds Try.pinned (OpenSpec.ofChange filterPutsWrong)

/-- 'tidewaylaw12.FilterBest': WHATEVER THE INPUT: true; the input reads as it did. -/
def filterBestSpec : ChangeSpec := { name := "filterBest", fn := fun _ => fun
  | [d1, d2, d3] => { results := [.lit (.bool true)], args := [d1, d2, d3] }
  | _ => none }
def filterBestRow : OpenClaim := { program := "ythnfbkneleodnaa", sum := "5b3e2d69aa864b6c54d8cf82198299e038ebce721da76fa4414f04431b06c4d3", func := "tideway/tidewaylaw12.FilterBest", spec := "filterBest", apart := false }
def FilterBestSaid : Prop := filterBestRow.holds Try.pinned (OpenSpec.ofChange filterBestSpec)

/-- ITS FALSE NEIGHBOUR: 'it returns false'. Refute it at one input. -/
def filterBestWrong : ChangeSpec := { name := "filterBest", fn := fun _ => fun
  | [d1, d2, d3] => { results := [.lit (.bool false)], args := [d1, d2, d3] }
  | _ => none }
def FilterBestWrongFalsely : Prop := filterBestRow.holds Try.pinned (OpenSpec.ofChange filterBestWrong)

/-- 'tidewaylaw12.FilterTurns': WHATEVER THE INPUT: true; the input reads as it did. -/
def filterTurnsSpec : ChangeSpec := { name := "filterTurns", fn := fun _ => fun
  | [d1, d2] => { results := [.lit (.bool true)], args := [d1, d2] }
  | _ => none }
def filterTurnsRow : OpenClaim := { program := "ythnfbkneleodnaa", sum := "5b3e2d69aa864b6c54d8cf82198299e038ebce721da76fa4414f04431b06c4d3", func := "tideway/tidewaylaw12.FilterTurns", spec := "filterTurns", apart := false }
def FilterTurnsSaid : Prop := filterTurnsRow.holds Try.pinned (OpenSpec.ofChange filterTurnsSpec)

/-- ITS FALSE NEIGHBOUR: 'it returns false'. Refute it at one input. -/
def filterTurnsWrong : ChangeSpec := { name := "filterTurns", fn := fun _ => fun
  | [d1, d2] => { results := [.lit (.bool false)], args := [d1, d2] }
  | _ => none }
def FilterTurnsWrongFalsely : Prop := filterTurnsRow.holds Try.pinned (OpenSpec.ofChange filterTurnsWrong)

/- THE SECOND FORM. 'bulk': how many values and letters a reading holds, each counted each time it is reached (what is shared counts as often as it is met; a slice's spare places count too). A statement '..UptoSaid' is the law's where the arguments, and the package variables that the reading takes, are together of bulk at most 1048576: NARROWER than '..Said'. Prove '..Said' where nothing that the law and all that it calls make is longer than what came in: it says more and counts as full. Else prove '..UptoSaid'. A law counts once. -/
mutual
def uptoBulk {H : Type} : DataW H → Nat
  | .lit (.string bytes) => bytes.length + 1
  | .lit _ => 1
  | .nil => 1
  | .ptr d => uptoBulk d + 1
  | .slice elems spare => uptoBulkAll elems + uptoBulkAll spare + 1
  | .agg parts => uptoBulkAll parts + 1
  | .iface _ d => uptoBulk d + 1
  | .map entries => uptoBulkEntries entries + 1
  | .held _ => 1
def uptoBulkAll {H : Type} : List (DataW H) → Nat
  | [] => 0
  | d :: r => uptoBulk d + uptoBulkAll r
def uptoBulkEntries {H : Type} : List (Lit × DataW H) → Nat
  | [] => 0
  | x :: r => uptoBulkEntry x + uptoBulkEntries r
def uptoBulkEntry {H : Type} : Lit × DataW H → Nat
  | (.string bytes, d) => bytes.length + uptoBulk d + 1
  | (_, d) => uptoBulk d + 1
 end
def uptoSmall : (H : Type) → List (DataW H) → Bool := fun _ ds => decide (uptoBulkAll ds ≤ 1048576)
def OpenSpec.upto (s : _root_.Go.ChangeSpec) : _root_.Go.OpenSpec := { _root_.Go.OpenSpec.ofChange s with cond := some uptoSmall }

/-- 'tidewaylaw12.FilterOld', WHERE WHAT IT READS IS OF BULK AT MOST 1048576: true; the input reads as it did. -/
def filterOldUptoRow : OpenClaim := { program := "ythnfbkneleodnaa", sum := "5b3e2d69aa864b6c54d8cf82198299e038ebce721da76fa4414f04431b06c4d3", func := "tideway/tidewaylaw12.FilterOld", spec := "filterOld", apart := false, narrowed := true }
def FilterOldUptoSaid : Prop := filterOldUptoRow.holds Try.pinned (OpenSpec.upto filterOldSpec)

/-- 'tidewaylaw12.FilterPuts', WHERE WHAT IT READS IS OF BULK AT MOST 1048576: true; the input reads as it did. -/
def filterPutsUptoRow : OpenClaim := { program := "ythnfbkneleodnaa", sum := "5b3e2d69aa864b6c54d8cf82198299e038ebce721da76fa4414f04431b06c4d3", func := "tideway/tidewaylaw12.FilterPuts", spec := "filterPuts", apart := false, narrowed := true }
def FilterPutsUptoSaid : Prop := filterPutsUptoRow.holds Try.pinned (OpenSpec.upto filterPutsSpec)

/-- 'tidewaylaw12.FilterBest', WHERE WHAT IT READS IS OF BULK AT MOST 1048576: true; the input reads as it did. -/
def filterBestUptoRow : OpenClaim := { program := "ythnfbkneleodnaa", sum := "5b3e2d69aa864b6c54d8cf82198299e038ebce721da76fa4414f04431b06c4d3", func := "tideway/tidewaylaw12.FilterBest", spec := "filterBest", apart := false, narrowed := true }
def FilterBestUptoSaid : Prop := filterBestUptoRow.holds Try.pinned (OpenSpec.upto filterBestSpec)

/-- 'tidewaylaw12.FilterTurns', WHERE WHAT IT READS IS OF BULK AT MOST 1048576: true; the input reads as it did. -/
def filterTurnsUptoRow : OpenClaim := { program := "ythnfbkneleodnaa", sum := "5b3e2d69aa864b6c54d8cf82198299e038ebce721da76fa4414f04431b06c4d3", func := "tideway/tidewaylaw12.FilterTurns", spec := "filterTurns", apart := false, narrowed := true }
def FilterTurnsUptoSaid : Prop := filterTurnsUptoRow.holds Try.pinned (OpenSpec.upto filterTurnsSpec)

end Rows
end Go.Proofs.Ythnfbkneleodnaa
