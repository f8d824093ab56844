/-
  No cell of these rows narrows 'for every input' (looked for: loops, veiled, ifaces, maps, wideKeys, modest, calm, conditions, laid).
  DERIVED. THE GIVEN ROWS OF THIS SEAT. 5 by the template 'for every input the law returns true; each argument reads behind the call as it read before'; 0 by the template 'total and deterministic' (their statements: YtgghbpijmdljgaaTotals.lean).
  GIVEN WITH THE SEED: the statements are not yours to turn. If you find one false, say at which input.
  Laid BY PROGRAM, IN A SANDBOX (cutbox-rows.mjs): the forced cells as the released guide's own fill.sh prints them over the translation 5996fc4bc8291431… (all of the seat's roots in one cut). By AI agents, Wed Nov 11 2026. No macro, syntax, notation, axiom, sorry.
-/
import Derived.Test.YtgghbpijmdljgaaChecked
import GoSem.Claim
import GoSem.ClaimJoined
import GoSem.ClaimMapViews
import Derived.JoinedTies
import Derived.KernelRfl
namespace Go.Proofs.Ytgghbpijmdljgaa
/- THE CELL 'sum', in the pinned program and in every row, IS THE sha256 OF THE DUMP (.gsa) THAT YtgghbpijmdljgaaProg.lean LOADS. Nothing in Lean hashes anything: it is a label: what it is worth is what the hold of that sum in a sandbox is worth. -/
noncomputable def Try.pinned : Pinned := { name := "ytgghbpijmdljgaa", sum := "5996fc4bc8291431714338c452c3153b85a930963449e7957245bb7c1f4e26c1", checked := Try.checked }
namespace Rows
def none {H : Type} : Left H := { results := [], args := [] }

/-- 'tidewaylaw15.RenoBegins': WHATEVER THE INPUT: true; the input reads as it did. -/
def renoBeginsSpec : ChangeSpec := { name := "renoBegins", fn := fun _ => fun
  | [d1, d2] => { results := [.lit (.bool true)], args := [d1, d2] }
  | _ => none }
def renoBeginsRow : OpenClaim := { program := "ytgghbpijmdljgaa", sum := "5996fc4bc8291431714338c452c3153b85a930963449e7957245bb7c1f4e26c1", func := "tideway/tidewaylaw15.RenoBegins", spec := "renoBegins", apart := false }
def RenoBeginsSaid : Prop := renoBeginsRow.holds Try.pinned (OpenSpec.ofChange renoBeginsSpec)

/-- ITS FALSE NEIGHBOUR: 'it returns false'. Refute it at one input. -/
def renoBeginsWrong : ChangeSpec := { name := "renoBegins", fn := fun _ => fun
  | [d1, d2] => { results := [.lit (.bool false)], args := [d1, d2] }
  | _ => none }
def RenoBeginsWrongFalsely : Prop := renoBeginsRow.holds Try.pinned (OpenSpec.ofChange renoBeginsWrong)

/-- 'tidewaylaw15.RenoSlow': WHATEVER THE INPUT: true; the input reads as it did. -/
def renoSlowSpec : ChangeSpec := { name := "renoSlow", fn := fun _ => fun
  | [d1, d2] => { results := [.lit (.bool true)], args := [d1, d2] }
  | _ => none }
def renoSlowRow : OpenClaim := { program := "ytgghbpijmdljgaa", sum := "5996fc4bc8291431714338c452c3153b85a930963449e7957245bb7c1f4e26c1", func := "tideway/tidewaylaw15.RenoSlow", spec := "renoSlow", apart := false }
def RenoSlowSaid : Prop := renoSlowRow.holds Try.pinned (OpenSpec.ofChange renoSlowSpec)

/-- ITS FALSE NEIGHBOUR: 'it returns false'. Refute it at one input. -/
def renoSlowWrong : ChangeSpec := { name := "renoSlow", fn := fun _ => fun
  | [d1, d2] => { results := [.lit (.bool false)], args := [d1, d2] }
  | _ => none }
def RenoSlowWrongFalsely : Prop := renoSlowRow.holds Try.pinned (OpenSpec.ofChange renoSlowWrong)

/-- 'tidewaylaw15.RenoTwice': WHATEVER THE INPUT: true; the input reads as it did. -/
def renoTwiceSpec : ChangeSpec := { name := "renoTwice", fn := fun _ => fun
  | [d1, d2] => { results := [.lit (.bool true)], args := [d1, d2] }
  | _ => none }
def renoTwiceRow : OpenClaim := { program := "ytgghbpijmdljgaa", sum := "5996fc4bc8291431714338c452c3153b85a930963449e7957245bb7c1f4e26c1", func := "tideway/tidewaylaw15.RenoTwice", spec := "renoTwice", apart := false }
def RenoTwiceSaid : Prop := renoTwiceRow.holds Try.pinned (OpenSpec.ofChange renoTwiceSpec)

/-- ITS FALSE NEIGHBOUR: 'it returns false'. Refute it at one input. -/
def renoTwiceWrong : ChangeSpec := { name := "renoTwice", fn := fun _ => fun
  | [d1, d2] => { results := [.lit (.bool false)], args := [d1, d2] }
  | _ => none }
def RenoTwiceWrongFalsely : Prop := renoTwiceRow.holds Try.pinned (OpenSpec.ofChange renoTwiceWrong)

/-- 'tidewaylaw15.RenoMoves': WHATEVER THE INPUT: true; the input reads as it did. -/
def renoMovesSpec : ChangeSpec := { name := "renoMoves", fn := fun _ => fun
  | [d1, d2, d3] => { results := [.lit (.bool true)], args := [d1, d2, d3] }
  | _ => none }
def renoMovesRow : OpenClaim := { program := "ytgghbpijmdljgaa", sum := "5996fc4bc8291431714338c452c3153b85a930963449e7957245bb7c1f4e26c1", func := "tideway/tidewaylaw15.RenoMoves", spec := "renoMoves", apart := false }
def RenoMovesSaid : Prop := renoMovesRow.holds Try.pinned (OpenSpec.ofChange renoMovesSpec)

/-- ITS FALSE NEIGHBOUR: 'it returns false'. Refute it at one input. -/
def renoMovesWrong : ChangeSpec := { name := "renoMoves", fn := fun _ => fun
  | [d1, d2, d3] => { results := [.lit (.bool false)], args := [d1, d2, d3] }
  | _ => none }
def RenoMovesWrongFalsely : Prop := renoMovesRow.holds Try.pinned (OpenSpec.ofChange renoMovesWrong)

/-- 'tidewaylaw15.RenoFalls': WHATEVER THE INPUT: true; the input reads as it did. -/
def renoFallsSpec : ChangeSpec := { name := "renoFalls", fn := fun _ => fun
  | [d1, d2] => { results := [.lit (.bool true)], args := [d1, d2] }
  | _ => none }
def renoFallsRow : OpenClaim := { program := "ytgghbpijmdljgaa", sum := "5996fc4bc8291431714338c452c3153b85a930963449e7957245bb7c1f4e26c1", func := "tideway/tidewaylaw15.RenoFalls", spec := "renoFalls", apart := false }
def RenoFallsSaid : Prop := renoFallsRow.holds Try.pinned (OpenSpec.ofChange renoFallsSpec)

/-- ITS FALSE NEIGHBOUR: 'it returns false'. Refute it at one input. -/
def renoFallsWrong : ChangeSpec := { name := "renoFalls", fn := fun _ => fun
  | [d1, d2] => { results := [.lit (.bool false)], args := [d1, d2] }
  | _ => none }
def RenoFallsWrongFalsely : Prop := renoFallsRow.holds Try.pinned (OpenSpec.ofChange renoFallsWrong)

/- THE SECOND FORM. 'bulk': how many values and letters a reading holds, each counted each time it is reached (what is shared counts as often as it is met; a slice's spare places count too). A statement '..UptoSaid' is the law's where the arguments, and the package variables that the reading takes, are together of bulk at most 1048576: NARROWER than '..Said'. Prove '..Said' where nothing that the law and all that it calls make is longer than what came in: it says more and counts as full. Else prove '..UptoSaid'. A law counts once. -/
mutual
def uptoBulk {H : Type} : DataW H → Nat
  | .lit (.string bytes) => bytes.length + 1
  | .lit _ => 1
  | .nil => 1
  | .ptr d => uptoBulk d + 1
  | .slice elems spare => uptoBulkAll elems + uptoBulkAll spare + 1
  | .agg parts => uptoBulkAll parts + 1
  | .iface _ d => uptoBulk d + 1
  | .map entries => uptoBulkEntries entries + 1
  | .held _ => 1
def uptoBulkAll {H : Type} : List (DataW H) → Nat
  | [] => 0
  | d :: r => uptoBulk d + uptoBulkAll r
def uptoBulkEntries {H : Type} : List (Lit × DataW H) → Nat
  | [] => 0
  | x :: r => uptoBulkEntry x + uptoBulkEntries r
def uptoBulkEntry {H : Type} : Lit × DataW H → Nat
  | (.string bytes, d) => bytes.length + uptoBulk d + 1
  | (_, d) => uptoBulk d + 1
 end
def uptoSmall : (H : Type) → List (DataW H) → Bool := fun _ ds => decide (uptoBulkAll ds ≤ 1048576)
def OpenSpec.upto (s : _root_.Go.ChangeSpec) : _root_.Go.OpenSpec := { _root_.Go.OpenSpec.ofChange s with cond := some uptoSmall }

/-- 'tidewaylaw15.RenoBegins', WHERE WHAT IT READS IS OF BULK AT MOST 1048576: true; the input reads as it did. -/
def renoBeginsUptoRow : OpenClaim := { program := "ytgghbpijmdljgaa", sum := "5996fc4bc8291431714338c452c3153b85a930963449e7957245bb7c1f4e26c1", func := "tideway/tidewaylaw15.RenoBegins", spec := "renoBegins", apart := false, narrowed := true }
def RenoBeginsUptoSaid : Prop := renoBeginsUptoRow.holds Try.pinned (OpenSpec.upto renoBeginsSpec)

/-- 'tidewaylaw15.RenoSlow', WHERE WHAT IT READS IS OF BULK AT MOST 1048576: true; the input reads as it did. -/
def renoSlowUptoRow : OpenClaim := { program := "ytgghbpijmdljgaa", sum := "5996fc4bc8291431714338c452c3153b85a930963449e7957245bb7c1f4e26c1", func := "tideway/tidewaylaw15.RenoSlow", spec := "renoSlow", apart := false, narrowed := true }
def RenoSlowUptoSaid : Prop := renoSlowUptoRow.holds Try.pinned (OpenSpec.upto renoSlowSpec)

/-- 'tidewaylaw15.RenoTwice', WHERE WHAT IT READS IS OF BULK AT MOST 1048576: true; the input reads as it did. -/
def renoTwiceUptoRow : OpenClaim := { program := "ytgghbpijmdljgaa", sum := "5996fc4bc8291431714338c452c3153b85a930963449e7957245bb7c1f4e26c1", func := "tideway/tidewaylaw15.RenoTwice", spec := "renoTwice", apart := false, narrowed := true }
def RenoTwiceUptoSaid : Prop := renoTwiceUptoRow.holds Try.pinned (OpenSpec.upto renoTwiceSpec)

/-- 'tidewaylaw15.RenoMoves', WHERE WHAT IT READS IS OF BULK AT MOST 1048576: true; the input reads as it did. -/
def renoMovesUptoRow : OpenClaim := { program := "ytgghbpijmdljgaa", sum := "5996fc4bc8291431714338c452c3153b85a930963449e7957245bb7c1f4e26c1", func := "tideway/tidewaylaw15.RenoMoves", spec := "renoMoves", apart := false, narrowed := true }
def RenoMovesUptoSaid : Prop := renoMovesUptoRow.holds Try.pinned (OpenSpec.upto renoMovesSpec)

/-- 'tidewaylaw15.RenoFalls', WHERE WHAT IT READS IS OF BULK AT MOST 1048576: true; the input reads as it did. -/
def renoFallsUptoRow : OpenClaim := { program := "ytgghbpijmdljgaa", sum := "5996fc4bc8291431714338c452c3153b85a930963449e7957245bb7c1f4e26c1", func := "tideway/tidewaylaw15.RenoFalls", spec := "renoFalls", apart := false, narrowed := true }
def RenoFallsUptoSaid : Prop := renoFallsUptoRow.holds Try.pinned (OpenSpec.upto renoFallsSpec)

end Rows
end Go.Proofs.Ytgghbpijmdljgaa
