/-
  No cell of these rows narrows 'for every input' (looked for: loops, veiled, ifaces, maps, wideKeys, modest, calm, conditions, laid).
  DERIVED. THE GIVEN ROWS OF THIS SEAT. 5 by the template 'for every input the law returns true; each argument reads behind the call as it read before'; 0 by the template 'total and deterministic' (their statements: YtejjnmhjkdknfaaTotals.lean).
  GIVEN WITH THE SEED: the statements are not yours to turn. If you find one false, say at which input.
  Laid BY PROGRAM, IN A SANDBOX (cutbox-rows.mjs): the forced cells as the released guide's own fill.sh prints them over the translation 0f8c9da776114a09… (all of the seat's roots in one cut). By AI agents, Wed Nov 11 2026. No macro, syntax, notation, axiom, sorry.
-/
import Derived.Test.YtejjnmhjkdknfaaChecked
import GoSem.Claim
import GoSem.ClaimJoined
import GoSem.ClaimMapViews
import Derived.JoinedTies
import Derived.KernelRfl
namespace Go.Proofs.Ytejjnmhjkdknfaa
/- THE CELL 'sum', in the pinned program and in every row, IS THE sha256 OF THE DUMP (.gsa) THAT YtejjnmhjkdknfaaProg.lean LOADS. Nothing in Lean hashes anything: it is a label: what it is worth is what the hold of that sum in a sandbox is worth. -/
noncomputable def Try.pinned : Pinned := { name := "ytejjnmhjkdknfaa", sum := "0f8c9da776114a09b8e65149556686d4b64b2655710cffa6c1d5062c1bda3bc7", checked := Try.checked }
namespace Rows
def none {H : Type} : Left H := { results := [], args := [] }

/-- 'tidewaylaw21.WindowShuts': WHATEVER THE INPUT: true; the input reads as it did. -/
def windowShutsSpec : ChangeSpec := { name := "windowShuts", fn := fun _ => fun
  | [d1, d2, d3] => { results := [.lit (.bool true)], args := [d1, d2, d3] }
  | _ => none }
def windowShutsRow : OpenClaim := { program := "ytejjnmhjkdknfaa", sum := "0f8c9da776114a09b8e65149556686d4b64b2655710cffa6c1d5062c1bda3bc7", func := "tideway/tidewaylaw21.WindowShuts", spec := "windowShuts", unfollowed := true, recurses := true, apart := false }
def WindowShutsSaid : Prop := windowShutsRow.holds Try.pinned (OpenSpec.ofChange windowShutsSpec)

/-- ITS FALSE NEIGHBOUR: 'it returns false'. Refute it at one input. -/
def windowShutsWrong : ChangeSpec := { name := "windowShuts", fn := fun _ => fun
  | [d1, d2, d3] => { results := [.lit (.bool false)], args := [d1, d2, d3] }
  | _ => none }
def WindowShutsWrongFalsely : Prop := windowShutsRow.holds Try.pinned (OpenSpec.ofChange windowShutsWrong)

/-- 'tidewaylaw21.WindowTells': WHATEVER THE INPUT: true; the input reads as it did. -/
def windowTellsSpec : ChangeSpec := { name := "windowTells", fn := fun _ => fun
  | [d1, d2, d3, d4] => { results := [.lit (.bool true)], args := [d1, d2, d3, d4] }
  | _ => none }
def windowTellsRow : OpenClaim := { program := "ytejjnmhjkdknfaa", sum := "0f8c9da776114a09b8e65149556686d4b64b2655710cffa6c1d5062c1bda3bc7", func := "tideway/tidewaylaw21.WindowTells", spec := "windowTells", unfollowed := true, recurses := true, apart := false }
def WindowTellsSaid : Prop := windowTellsRow.holds Try.pinned (OpenSpec.ofChange windowTellsSpec)

/-- ITS FALSE NEIGHBOUR: 'it returns false'. Refute it at one input. -/
def windowTellsWrong : ChangeSpec := { name := "windowTells", fn := fun _ => fun
  | [d1, d2, d3, d4] => { results := [.lit (.bool false)], args := [d1, d2, d3, d4] }
  | _ => none }
def WindowTellsWrongFalsely : Prop := windowTellsRow.holds Try.pinned (OpenSpec.ofChange windowTellsWrong)

/-- 'tidewaylaw21.WindowEdge': WHATEVER THE INPUT: true; the input reads as it did. -/
def windowEdgeSpec : ChangeSpec := { name := "windowEdge", fn := fun _ => fun
  | [d1, d2, d3] => { results := [.lit (.bool true)], args := [d1, d2, d3] }
  | _ => none }
def windowEdgeRow : OpenClaim := { program := "ytejjnmhjkdknfaa", sum := "0f8c9da776114a09b8e65149556686d4b64b2655710cffa6c1d5062c1bda3bc7", func := "tideway/tidewaylaw21.WindowEdge", spec := "windowEdge", unfollowed := true, recurses := true, apart := false }
def WindowEdgeSaid : Prop := windowEdgeRow.holds Try.pinned (OpenSpec.ofChange windowEdgeSpec)

/-- ITS FALSE NEIGHBOUR: 'it returns false'. Refute it at one input. -/
def windowEdgeWrong : ChangeSpec := { name := "windowEdge", fn := fun _ => fun
  | [d1, d2, d3] => { results := [.lit (.bool false)], args := [d1, d2, d3] }
  | _ => none }
def WindowEdgeWrongFalsely : Prop := windowEdgeRow.holds Try.pinned (OpenSpec.ofChange windowEdgeWrong)

/-- 'tidewaylaw21.WindowOld': WHATEVER THE INPUT: true; the input reads as it did. -/
def windowOldSpec : ChangeSpec := { name := "windowOld", fn := fun _ => fun
  | [d1, d2, d3, d4] => { results := [.lit (.bool true)], args := [d1, d2, d3, d4] }
  | _ => none }
def windowOldRow : OpenClaim := { program := "ytejjnmhjkdknfaa", sum := "0f8c9da776114a09b8e65149556686d4b64b2655710cffa6c1d5062c1bda3bc7", func := "tideway/tidewaylaw21.WindowOld", spec := "windowOld", unfollowed := true, recurses := true, apart := false }
def WindowOldSaid : Prop := windowOldRow.holds Try.pinned (OpenSpec.ofChange windowOldSpec)

/-- ITS FALSE NEIGHBOUR: 'it returns false'. Refute it at one input. -/
def windowOldWrong : ChangeSpec := { name := "windowOld", fn := fun _ => fun
  | [d1, d2, d3, d4] => { results := [.lit (.bool false)], args := [d1, d2, d3, d4] }
  | _ => none }
def WindowOldWrongFalsely : Prop := windowOldRow.holds Try.pinned (OpenSpec.ofChange windowOldWrong)

/-- 'tidewaylaw21.WindowWaits': WHATEVER THE INPUT: true; the input reads as it did. -/
def windowWaitsSpec : ChangeSpec := { name := "windowWaits", fn := fun _ => fun
  | [d1, d2, d3, d4] => { results := [.lit (.bool true)], args := [d1, d2, d3, d4] }
  | _ => none }
def windowWaitsRow : OpenClaim := { program := "ytejjnmhjkdknfaa", sum := "0f8c9da776114a09b8e65149556686d4b64b2655710cffa6c1d5062c1bda3bc7", func := "tideway/tidewaylaw21.WindowWaits", spec := "windowWaits", unfollowed := true, recurses := true, apart := false }
def WindowWaitsSaid : Prop := windowWaitsRow.holds Try.pinned (OpenSpec.ofChange windowWaitsSpec)

/-- ITS FALSE NEIGHBOUR: 'it returns false'. Refute it at one input. -/
def windowWaitsWrong : ChangeSpec := { name := "windowWaits", fn := fun _ => fun
  | [d1, d2, d3, d4] => { results := [.lit (.bool false)], args := [d1, d2, d3, d4] }
  | _ => none }
def WindowWaitsWrongFalsely : Prop := windowWaitsRow.holds Try.pinned (OpenSpec.ofChange windowWaitsWrong)

/- THE SECOND FORM. 'bulk': how many values and letters a reading holds, each counted each time it is reached (what is shared counts as often as it is met; a slice's spare places count too). A statement '..UptoSaid' is the law's where the arguments, and the package variables that the reading takes, are together of bulk at most 1048576: NARROWER than '..Said'. Prove '..Said' where nothing that the law and all that it calls make is longer than what came in: it says more and counts as full. Else prove '..UptoSaid'. A law counts once. -/
mutual
def uptoBulk {H : Type} : DataW H → Nat
  | .lit (.string bytes) => bytes.length + 1
  | .lit _ => 1
  | .nil => 1
  | .ptr d => uptoBulk d + 1
  | .slice elems spare => uptoBulkAll elems + uptoBulkAll spare + 1
  | .agg parts => uptoBulkAll parts + 1
  | .iface _ d => uptoBulk d + 1
  | .map entries => uptoBulkEntries entries + 1
  | .held _ => 1
def uptoBulkAll {H : Type} : List (DataW H) → Nat
  | [] => 0
  | d :: r => uptoBulk d + uptoBulkAll r
def uptoBulkEntries {H : Type} : List (Lit × DataW H) → Nat
  | [] => 0
  | x :: r => uptoBulkEntry x + uptoBulkEntries r
def uptoBulkEntry {H : Type} : Lit × DataW H → Nat
  | (.string bytes, d) => bytes.length + uptoBulk d + 1
  | (_, d) => uptoBulk d + 1
 end
def uptoSmall : (H : Type) → List (DataW H) → Bool := fun _ ds => decide (uptoBulkAll ds ≤ 1048576)
def OpenSpec.upto (s : _root_.Go.ChangeSpec) : _root_.Go.OpenSpec := { _root_.Go.OpenSpec.ofChange s with cond := some uptoSmall }

/-- 'tidewaylaw21.WindowShuts', WHERE WHAT IT READS IS OF BULK AT MOST 1048576: true; the input reads as it did. -/
def windowShutsUptoRow : OpenClaim := { program := "ytejjnmhjkdknfaa", sum := "0f8c9da776114a09b8e65149556686d4b64b2655710cffa6c1d5062c1bda3bc7", func := "tideway/tidewaylaw21.WindowShuts", spec := "windowShuts", unfollowed := true, recurses := true, apart := false, narrowed := true }
def WindowShutsUptoSaid : Prop := windowShutsUptoRow.holds Try.pinned (OpenSpec.upto windowShutsSpec)

/-- 'tidewaylaw21.WindowTells', WHERE WHAT IT READS IS OF BULK AT MOST 1048576: true; the input reads as it did. -/
def windowTellsUptoRow : OpenClaim := { program := "ytejjnmhjkdknfaa", sum := "0f8c9da776114a09b8e65149556686d4b64b2655710cffa6c1d5062c1bda3bc7", func := "tideway/tidewaylaw21.WindowTells", spec := "windowTells", unfollowed := true, recurses := true, apart := false, narrowed := true }
def WindowTellsUptoSaid : Prop := windowTellsUptoRow.holds Try.pinned (OpenSpec.upto windowTellsSpec)

/-- 'tidewaylaw21.WindowEdge', WHERE WHAT IT READS IS OF BULK AT MOST 1048576: true; the input reads as it did. -/
def windowEdgeUptoRow : OpenClaim := { program := "ytejjnmhjkdknfaa", sum := "0f8c9da776114a09b8e65149556686d4b64b2655710cffa6c1d5062c1bda3bc7", func := "tideway/tidewaylaw21.WindowEdge", spec := "windowEdge", unfollowed := true, recurses := true, apart := false, narrowed := true }
def WindowEdgeUptoSaid : Prop := windowEdgeUptoRow.holds Try.pinned (OpenSpec.upto windowEdgeSpec)

/-- 'tidewaylaw21.WindowOld', WHERE WHAT IT READS IS OF BULK AT MOST 1048576: true; the input reads as it did. -/
def windowOldUptoRow : OpenClaim := { program := "ytejjnmhjkdknfaa", sum := "0f8c9da776114a09b8e65149556686d4b64b2655710cffa6c1d5062c1bda3bc7", func := "tideway/tidewaylaw21.WindowOld", spec := "windowOld", unfollowed := true, recurses := true, apart := false, narrowed := true }
def WindowOldUptoSaid : Prop := windowOldUptoRow.holds Try.pinned (OpenSpec.upto windowOldSpec)

/-- 'tidewaylaw21.WindowWaits', WHERE WHAT IT READS IS OF BULK AT MOST 1048576: true; the input reads as it did. -/
def windowWaitsUptoRow : OpenClaim := { program := "ytejjnmhjkdknfaa", sum := "0f8c9da776114a09b8e65149556686d4b64b2655710cffa6c1d5062c1bda3bc7", func := "tideway/tidewaylaw21.WindowWaits", spec := "windowWaits", unfollowed := true, recurses := true, apart := false, narrowed := true }
def WindowWaitsUptoSaid : Prop := windowWaitsUptoRow.holds Try.pinned (OpenSpec.upto windowWaitsSpec)

end Rows
end Go.Proofs.Ytejjnmhjkdknfaa
