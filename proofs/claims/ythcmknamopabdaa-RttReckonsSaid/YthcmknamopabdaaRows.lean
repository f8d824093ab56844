/-
  No cell of these rows narrows 'for every input' (looked for: loops, veiled, ifaces, maps, wideKeys, modest, calm, conditions, laid).
  DERIVED. THE GIVEN ROWS OF THIS SEAT. 5 by the template 'for every input the law returns true; each argument reads behind the call as it read before'; 0 by the template 'total and deterministic' (their statements: YthcmknamopabdaaTotals.lean).
  GIVEN WITH THE SEED: the statements are not yours to turn. If you find one false, say at which input.
  Laid BY PROGRAM, IN A SANDBOX (cutbox-rows.mjs): the forced cells as the released guide's own fill.sh prints them over the translation e070b79dbbc63b2e… (all of the seat's roots in one cut). By AI agents, Wed Nov 11 2026. No macro, syntax, notation, axiom, sorry.
-/
import Derived.Test.YthcmknamopabdaaChecked
import GoSem.Claim
import GoSem.ClaimJoined
import GoSem.ClaimMapViews
import Derived.JoinedTies
import Derived.KernelRfl
namespace Go.Proofs.Ythcmknamopabdaa
/- THE CELL 'sum', in the pinned program and in every row, IS THE sha256 OF THE DUMP (.gsa) THAT YthcmknamopabdaaProg.lean LOADS. Nothing in Lean hashes anything: it is a label: what it is worth is what the hold of that sum in a sandbox is worth. -/
noncomputable def Try.pinned : Pinned := { name := "ythcmknamopabdaa", sum := "e070b79dbbc63b2ecb142355b581118819b1c51e0d59279d1a668f8e4385ce67", checked := Try.checked }
namespace Rows
def none {H : Type} : Left H := { results := [], args := [] }

/-- 'tidewaylaw11.RttRises': WHATEVER THE INPUT: true; the input reads as it did. -/
def rttRisesSpec : ChangeSpec := { name := "rttRises", fn := fun _ => fun
  | [d1, d2, d3] => { results := [.lit (.bool true)], args := [d1, d2, d3] }
  | _ => none }
def rttRisesRow : OpenClaim := { program := "ythcmknamopabdaa", sum := "e070b79dbbc63b2ecb142355b581118819b1c51e0d59279d1a668f8e4385ce67", func := "tideway/tidewaylaw11.RttRises", spec := "rttRises", apart := false }
def RttRisesSaid : Prop := rttRisesRow.holds Try.pinned (OpenSpec.ofChange rttRisesSpec)

/-- ITS FALSE NEIGHBOUR: 'it returns false'. Refute it at one input. -/
def rttRisesWrong : ChangeSpec := { name := "rttRises", fn := fun _ => fun
  | [d1, d2, d3] => { results := [.lit (.bool false)], args := [d1, d2, d3] }
  | _ => none }
def RttRisesWrongFalsely : Prop := rttRisesRow.holds Try.pinned (OpenSpec.ofChange rttRisesWrong)

/-- 'tidewaylaw11.RttStays': WHATEVER THE INPUT: true; the input reads as it did. -/
def rttStaysSpec : ChangeSpec := { name := "rttStays", fn := fun _ => fun
  | [d1, d2, d3] => { results := [.lit (.bool true)], args := [d1, d2, d3] }
  | _ => none }
def rttStaysRow : OpenClaim := { program := "ythcmknamopabdaa", sum := "e070b79dbbc63b2ecb142355b581118819b1c51e0d59279d1a668f8e4385ce67", func := "tideway/tidewaylaw11.RttStays", spec := "rttStays", apart := false }
def RttStaysSaid : Prop := rttStaysRow.holds Try.pinned (OpenSpec.ofChange rttStaysSpec)

/-- ITS FALSE NEIGHBOUR: 'it returns false'. Refute it at one input. -/
def rttStaysWrong : ChangeSpec := { name := "rttStays", fn := fun _ => fun
  | [d1, d2, d3] => { results := [.lit (.bool false)], args := [d1, d2, d3] }
  | _ => none }
def RttStaysWrongFalsely : Prop := rttStaysRow.holds Try.pinned (OpenSpec.ofChange rttStaysWrong)

/-- 'tidewaylaw11.RttSteady': WHATEVER THE INPUT: true; the input reads as it did. -/
def rttSteadySpec : ChangeSpec := { name := "rttSteady", fn := fun _ => fun
  | [d1, d2] => { results := [.lit (.bool true)], args := [d1, d2] }
  | _ => none }
def rttSteadyRow : OpenClaim := { program := "ythcmknamopabdaa", sum := "e070b79dbbc63b2ecb142355b581118819b1c51e0d59279d1a668f8e4385ce67", func := "tideway/tidewaylaw11.RttSteady", spec := "rttSteady", apart := false }
def RttSteadySaid : Prop := rttSteadyRow.holds Try.pinned (OpenSpec.ofChange rttSteadySpec)

/-- ITS FALSE NEIGHBOUR: 'it returns false'. Refute it at one input. -/
def rttSteadyWrong : ChangeSpec := { name := "rttSteady", fn := fun _ => fun
  | [d1, d2] => { results := [.lit (.bool false)], args := [d1, d2] }
  | _ => none }
def RttSteadyWrongFalsely : Prop := rttSteadyRow.holds Try.pinned (OpenSpec.ofChange rttSteadyWrong)

/-- 'tidewaylaw11.RttBacks': WHATEVER THE INPUT: true; the input reads as it did. -/
def rttBacksSpec : ChangeSpec := { name := "rttBacks", fn := fun _ => fun
  | [d1, d2] => { results := [.lit (.bool true)], args := [d1, d2] }
  | _ => none }
def rttBacksRow : OpenClaim := { program := "ythcmknamopabdaa", sum := "e070b79dbbc63b2ecb142355b581118819b1c51e0d59279d1a668f8e4385ce67", func := "tideway/tidewaylaw11.RttBacks", spec := "rttBacks", apart := false }
def RttBacksSaid : Prop := rttBacksRow.holds Try.pinned (OpenSpec.ofChange rttBacksSpec)

/-- ITS FALSE NEIGHBOUR: 'it returns false'. Refute it at one input. -/
def rttBacksWrong : ChangeSpec := { name := "rttBacks", fn := fun _ => fun
  | [d1, d2] => { results := [.lit (.bool false)], args := [d1, d2] }
  | _ => none }
def RttBacksWrongFalsely : Prop := rttBacksRow.holds Try.pinned (OpenSpec.ofChange rttBacksWrong)

/-- 'tidewaylaw11.RttReckons': WHATEVER THE INPUT: true; the input reads as it did. -/
def rttReckonsSpec : ChangeSpec := { name := "rttReckons", fn := fun _ => fun
  | [d1, d2, d3, d4] => { results := [.lit (.bool true)], args := [d1, d2, d3, d4] }
  | _ => none }
def rttReckonsRow : OpenClaim := { program := "ythcmknamopabdaa", sum := "e070b79dbbc63b2ecb142355b581118819b1c51e0d59279d1a668f8e4385ce67", func := "tideway/tidewaylaw11.RttReckons", spec := "rttReckons", apart := false }
def RttReckonsSaid : Prop := rttReckonsRow.holds Try.pinned (OpenSpec.ofChange rttReckonsSpec)

/-- ITS FALSE NEIGHBOUR: 'it returns false'. Refute it at one input. -/
def rttReckonsWrong : ChangeSpec := { name := "rttReckons", fn := fun _ => fun
  | [d1, d2, d3, d4] => { results := [.lit (.bool false)], args := [d1, d2, d3, d4] }
  | _ => none }
def RttReckonsWrongFalsely : Prop := rttReckonsRow.holds Try.pinned (OpenSpec.ofChange rttReckonsWrong)

/- THE SECOND FORM. 'bulk': how many values and letters a reading holds, each counted each time it is reached (what is shared counts as often as it is met; a slice's spare places count too). A statement '..UptoSaid' is the law's where the arguments, and the package variables that the reading takes, are together of bulk at most 1048576: NARROWER than '..Said'. Prove '..Said' where nothing that the law and all that it calls make is longer than what came in: it says more and counts as full. Else prove '..UptoSaid'. A law counts once. -/
mutual
def uptoBulk {H : Type} : DataW H → Nat
  | .lit (.string bytes) => bytes.length + 1
  | .lit _ => 1
  | .nil => 1
  | .ptr d => uptoBulk d + 1
  | .slice elems spare => uptoBulkAll elems + uptoBulkAll spare + 1
  | .agg parts => uptoBulkAll parts + 1
  | .iface _ d => uptoBulk d + 1
  | .map entries => uptoBulkEntries entries + 1
  | .held _ => 1
def uptoBulkAll {H : Type} : List (DataW H) → Nat
  | [] => 0
  | d :: r => uptoBulk d + uptoBulkAll r
def uptoBulkEntries {H : Type} : List (Lit × DataW H) → Nat
  | [] => 0
  | x :: r => uptoBulkEntry x + uptoBulkEntries r
def uptoBulkEntry {H : Type} : Lit × DataW H → Nat
  | (.string bytes, d) => bytes.length + uptoBulk d + 1
  | (_, d) => uptoBulk d + 1
 end
def uptoSmall : (H : Type) → List (DataW H) → Bool := fun _ ds => decide (uptoBulkAll ds ≤ 1048576)
def OpenSpec.upto (s : _root_.Go.ChangeSpec) : _root_.Go.OpenSpec := { _root_.Go.OpenSpec.ofChange s with cond := some uptoSmall }

/-- 'tidewaylaw11.RttRises', WHERE WHAT IT READS IS OF BULK AT MOST 1048576: true; the input reads as it did. -/
def rttRisesUptoRow : OpenClaim := { program := "ythcmknamopabdaa", sum := "e070b79dbbc63b2ecb142355b581118819b1c51e0d59279d1a668f8e4385ce67", func := "tideway/tidewaylaw11.RttRises", spec := "rttRises", apart := false, narrowed := true }
def RttRisesUptoSaid : Prop := rttRisesUptoRow.holds Try.pinned (OpenSpec.upto rttRisesSpec)

/-- 'tidewaylaw11.RttStays', WHERE WHAT IT READS IS OF BULK AT MOST 1048576: true; the input reads as it did. -/
def rttStaysUptoRow : OpenClaim := { program := "ythcmknamopabdaa", sum := "e070b79dbbc63b2ecb142355b581118819b1c51e0d59279d1a668f8e4385ce67", func := "tideway/tidewaylaw11.RttStays", spec := "rttStays", apart := false, narrowed := true }
def RttStaysUptoSaid : Prop := rttStaysUptoRow.holds Try.pinned (OpenSpec.upto rttStaysSpec)

/-- 'tidewaylaw11.RttSteady', WHERE WHAT IT READS IS OF BULK AT MOST 1048576: true; the input reads as it did. -/
def rttSteadyUptoRow : OpenClaim := { program := "ythcmknamopabdaa", sum := "e070b79dbbc63b2ecb142355b581118819b1c51e0d59279d1a668f8e4385ce67", func := "tideway/tidewaylaw11.RttSteady", spec := "rttSteady", apart := false, narrowed := true }
def RttSteadyUptoSaid : Prop := rttSteadyUptoRow.holds Try.pinned (OpenSpec.upto rttSteadySpec)

/-- 'tidewaylaw11.RttBacks', WHERE WHAT IT READS IS OF BULK AT MOST 1048576: true; the input reads as it did. -/
def rttBacksUptoRow : OpenClaim := { program := "ythcmknamopabdaa", sum := "e070b79dbbc63b2ecb142355b581118819b1c51e0d59279d1a668f8e4385ce67", func := "tideway/tidewaylaw11.RttBacks", spec := "rttBacks", apart := false, narrowed := true }
def RttBacksUptoSaid : Prop := rttBacksUptoRow.holds Try.pinned (OpenSpec.upto rttBacksSpec)

/-- 'tidewaylaw11.RttReckons', WHERE WHAT IT READS IS OF BULK AT MOST 1048576: true; the input reads as it did. -/
def rttReckonsUptoRow : OpenClaim := { program := "ythcmknamopabdaa", sum := "e070b79dbbc63b2ecb142355b581118819b1c51e0d59279d1a668f8e4385ce67", func := "tideway/tidewaylaw11.RttReckons", spec := "rttReckons", apart := false, narrowed := true }
def RttReckonsUptoSaid : Prop := rttReckonsUptoRow.holds Try.pinned (OpenSpec.upto rttReckonsSpec)

end Rows
end Go.Proofs.Ythcmknamopabdaa
