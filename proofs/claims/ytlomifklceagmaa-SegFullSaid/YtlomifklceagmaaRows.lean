/-
  No cell of these rows narrows 'for every input' (looked for: loops, veiled, ifaces, maps, wideKeys, modest, calm, conditions, laid).
  DERIVED. THE GIVEN ROWS OF THIS SEAT. 5 by the template 'for every input the law returns true; each argument reads behind the call as it read before'; 0 by the template 'total and deterministic' (their statements: YtlomifklceagmaaTotals.lean).
  GIVEN WITH THE SEED: the statements are not yours to turn. If you find one false, say at which input.
  Laid BY PROGRAM, IN A SANDBOX (cutbox-rows.mjs): the forced cells as the released guide's own fill.sh prints them over the translation d20aebccc55f4362… (all of the seat's roots in one cut). By AI agents, Wed Nov 11 2026. No macro, syntax, notation, axiom, sorry.
-/
import Derived.Test.YtlomifklceagmaaChecked
import GoSem.Claim
import GoSem.ClaimJoined
import GoSem.ClaimMapViews
import Derived.JoinedTies
import Derived.KernelRfl
namespace Go.Proofs.Ytlomifklceagmaa
/- THE CELL 'sum', in the pinned program and in every row, IS THE sha256 OF THE DUMP (.gsa) THAT YtlomifklceagmaaProg.lean LOADS. Nothing in Lean hashes anything: it is a label: what it is worth is what the hold of that sum in a sandbox is worth. -/
noncomputable def Try.pinned : Pinned := { name := "ytlomifklceagmaa", sum := "d20aebccc55f43629ff2932a5514743b597ad28ab4765b08d99c9eabda9e51c4", checked := Try.checked }
namespace Rows
def none {H : Type} : Left H := { results := [], args := [] }

/-- 'tidewaylaw09.SegNext': WHATEVER THE INPUT: true; the input reads as it did. -/
def segNextSpec : ChangeSpec := { name := "segNext", fn := fun _ => fun
  | [d] => { results := [.lit (.bool true)], args := [d] }
  | _ => none }
def segNextRow : OpenClaim := { program := "ytlomifklceagmaa", sum := "d20aebccc55f43629ff2932a5514743b597ad28ab4765b08d99c9eabda9e51c4", func := "tideway/tidewaylaw09.SegNext", spec := "segNext", apart := false }
def SegNextSaid : Prop := segNextRow.holds Try.pinned (OpenSpec.ofChange segNextSpec)

/-- ITS FALSE NEIGHBOUR: 'it returns false'. Refute it at one input. -/
def segNextWrong : ChangeSpec := { name := "segNext", fn := fun _ => fun
  | [d] => { results := [.lit (.bool false)], args := [d] }
  | _ => none }
def SegNextWrongFalsely : Prop := segNextRow.holds Try.pinned (OpenSpec.ofChange segNextWrong)

/-- 'tidewaylaw09.SegBounds': WHATEVER THE INPUT: true; the input reads as it did. -/
def segBoundsSpec : ChangeSpec := { name := "segBounds", fn := fun _ => fun
  | [d] => { results := [.lit (.bool true)], args := [d] }
  | _ => none }
def segBoundsRow : OpenClaim := { program := "ytlomifklceagmaa", sum := "d20aebccc55f43629ff2932a5514743b597ad28ab4765b08d99c9eabda9e51c4", func := "tideway/tidewaylaw09.SegBounds", spec := "segBounds", apart := false }
def SegBoundsSaid : Prop := segBoundsRow.holds Try.pinned (OpenSpec.ofChange segBoundsSpec)

/-- ITS FALSE NEIGHBOUR: 'it returns false'. Refute it at one input. -/
def segBoundsWrong : ChangeSpec := { name := "segBounds", fn := fun _ => fun
  | [d] => { results := [.lit (.bool false)], args := [d] }
  | _ => none }
def SegBoundsWrongFalsely : Prop := segBoundsRow.holds Try.pinned (OpenSpec.ofChange segBoundsWrong)

/-- 'tidewaylaw09.SegFull': WHATEVER THE INPUT: true; the input reads as it did. -/
def segFullSpec : ChangeSpec := { name := "segFull", fn := fun _ => fun
  | [d] => { results := [.lit (.bool true)], args := [d] }
  | _ => none }
def segFullRow : OpenClaim := { program := "ytlomifklceagmaa", sum := "d20aebccc55f43629ff2932a5514743b597ad28ab4765b08d99c9eabda9e51c4", func := "tideway/tidewaylaw09.SegFull", spec := "segFull", apart := false }
def SegFullSaid : Prop := segFullRow.holds Try.pinned (OpenSpec.ofChange segFullSpec)

/-- ITS FALSE NEIGHBOUR: 'it returns false'. Refute it at one input. -/
def segFullWrong : ChangeSpec := { name := "segFull", fn := fun _ => fun
  | [d] => { results := [.lit (.bool false)], args := [d] }
  | _ => none }
def SegFullWrongFalsely : Prop := segFullRow.holds Try.pinned (OpenSpec.ofChange segFullWrong)

/-- 'tidewaylaw09.SegNagle': WHATEVER THE INPUT: true; the input reads as it did. -/
def segNagleSpec : ChangeSpec := { name := "segNagle", fn := fun _ => fun
  | [d] => { results := [.lit (.bool true)], args := [d] }
  | _ => none }
def segNagleRow : OpenClaim := { program := "ytlomifklceagmaa", sum := "d20aebccc55f43629ff2932a5514743b597ad28ab4765b08d99c9eabda9e51c4", func := "tideway/tidewaylaw09.SegNagle", spec := "segNagle", apart := false }
def SegNagleSaid : Prop := segNagleRow.holds Try.pinned (OpenSpec.ofChange segNagleSpec)

/-- ITS FALSE NEIGHBOUR: 'it returns false'. Refute it at one input. -/
def segNagleWrong : ChangeSpec := { name := "segNagle", fn := fun _ => fun
  | [d] => { results := [.lit (.bool false)], args := [d] }
  | _ => none }
def SegNagleWrongFalsely : Prop := segNagleRow.holds Try.pinned (OpenSpec.ofChange segNagleWrong)

/-- 'tidewaylaw09.SegDrains': WHATEVER THE INPUT: true; the input reads as it did. -/
def segDrainsSpec : ChangeSpec := { name := "segDrains", fn := fun _ => fun
  | [d1, d2, d3] => { results := [.lit (.bool true)], args := [d1, d2, d3] }
  | _ => none }
def segDrainsRow : OpenClaim := { program := "ytlomifklceagmaa", sum := "d20aebccc55f43629ff2932a5514743b597ad28ab4765b08d99c9eabda9e51c4", func := "tideway/tidewaylaw09.SegDrains", spec := "segDrains", apart := false }
def SegDrainsSaid : Prop := segDrainsRow.holds Try.pinned (OpenSpec.ofChange segDrainsSpec)

/-- ITS FALSE NEIGHBOUR: 'it returns false'. Refute it at one input. -/
def segDrainsWrong : ChangeSpec := { name := "segDrains", fn := fun _ => fun
  | [d1, d2, d3] => { results := [.lit (.bool false)], args := [d1, d2, d3] }
  | _ => none }
def SegDrainsWrongFalsely : Prop := segDrainsRow.holds Try.pinned (OpenSpec.ofChange segDrainsWrong)

/- THE SECOND FORM. 'bulk': how many values and letters a reading holds, each counted each time it is reached (what is shared counts as often as it is met; a slice's spare places count too). A statement '..UptoSaid' is the law's where the arguments, and the package variables that the reading takes, are together of bulk at most 1048576: NARROWER than '..Said'. Prove '..Said' where nothing that the law and all that it calls make is longer than what came in: it says more and counts as full. Else prove '..UptoSaid'. A law counts once. -/
mutual
def uptoBulk {H : Type} : DataW H → Nat
  | .lit (.string bytes) => bytes.length + 1
  | .lit _ => 1
  | .nil => 1
  | .ptr d => uptoBulk d + 1
  | .slice elems spare => uptoBulkAll elems + uptoBulkAll spare + 1
  | .agg parts => uptoBulkAll parts + 1
  | .iface _ d => uptoBulk d + 1
  | .map entries => uptoBulkEntries entries + 1
  | .held _ => 1
def uptoBulkAll {H : Type} : List (DataW H) → Nat
  | [] => 0
  | d :: r => uptoBulk d + uptoBulkAll r
def uptoBulkEntries {H : Type} : List (Lit × DataW H) → Nat
  | [] => 0
  | x :: r => uptoBulkEntry x + uptoBulkEntries r
def uptoBulkEntry {H : Type} : Lit × DataW H → Nat
  | (.string bytes, d) => bytes.length + uptoBulk d + 1
  | (_, d) => uptoBulk d + 1
 end
def uptoSmall : (H : Type) → List (DataW H) → Bool := fun _ ds => decide (uptoBulkAll ds ≤ 1048576)
def OpenSpec.upto (s : _root_.Go.ChangeSpec) : _root_.Go.OpenSpec := { _root_.Go.OpenSpec.ofChange s with cond := some uptoSmall }

/-- 'tidewaylaw09.SegNext', WHERE WHAT IT READS IS OF BULK AT MOST 1048576: true; the input reads as it did. -/
def segNextUptoRow : OpenClaim := { program := "ytlomifklceagmaa", sum := "d20aebccc55f43629ff2932a5514743b597ad28ab4765b08d99c9eabda9e51c4", func := "tideway/tidewaylaw09.SegNext", spec := "segNext", apart := false, narrowed := true }
def SegNextUptoSaid : Prop := segNextUptoRow.holds Try.pinned (OpenSpec.upto segNextSpec)

/-- 'tidewaylaw09.SegBounds', WHERE WHAT IT READS IS OF BULK AT MOST 1048576: true; the input reads as it did. -/
def segBoundsUptoRow : OpenClaim := { program := "ytlomifklceagmaa", sum := "d20aebccc55f43629ff2932a5514743b597ad28ab4765b08d99c9eabda9e51c4", func := "tideway/tidewaylaw09.SegBounds", spec := "segBounds", apart := false, narrowed := true }
def SegBoundsUptoSaid : Prop := segBoundsUptoRow.holds Try.pinned (OpenSpec.upto segBoundsSpec)

/-- 'tidewaylaw09.SegFull', WHERE WHAT IT READS IS OF BULK AT MOST 1048576: true; the input reads as it did. -/
def segFullUptoRow : OpenClaim := { program := "ytlomifklceagmaa", sum := "d20aebccc55f43629ff2932a5514743b597ad28ab4765b08d99c9eabda9e51c4", func := "tideway/tidewaylaw09.SegFull", spec := "segFull", apart := false, narrowed := true }
def SegFullUptoSaid : Prop := segFullUptoRow.holds Try.pinned (OpenSpec.upto segFullSpec)

/-- 'tidewaylaw09.SegNagle', WHERE WHAT IT READS IS OF BULK AT MOST 1048576: true; the input reads as it did. -/
def segNagleUptoRow : OpenClaim := { program := "ytlomifklceagmaa", sum := "d20aebccc55f43629ff2932a5514743b597ad28ab4765b08d99c9eabda9e51c4", func := "tideway/tidewaylaw09.SegNagle", spec := "segNagle", apart := false, narrowed := true }
def SegNagleUptoSaid : Prop := segNagleUptoRow.holds Try.pinned (OpenSpec.upto segNagleSpec)

/-- 'tidewaylaw09.SegDrains', WHERE WHAT IT READS IS OF BULK AT MOST 1048576: true; the input reads as it did. -/
def segDrainsUptoRow : OpenClaim := { program := "ytlomifklceagmaa", sum := "d20aebccc55f43629ff2932a5514743b597ad28ab4765b08d99c9eabda9e51c4", func := "tideway/tidewaylaw09.SegDrains", spec := "segDrains", apart := false, narrowed := true }
def SegDrainsUptoSaid : Prop := segDrainsUptoRow.holds Try.pinned (OpenSpec.upto segDrainsSpec)

end Rows
end Go.Proofs.Ytlomifklceagmaa
