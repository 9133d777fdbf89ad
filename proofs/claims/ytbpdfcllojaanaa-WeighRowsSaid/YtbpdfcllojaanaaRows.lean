/-
  No cell of these rows narrows 'for every input' (looked for: loops, veiled, ifaces, maps, wideKeys, modest, calm, conditions, laid).
  DERIVED. THE GIVEN ROWS OF THIS SEAT. 7 by the template 'for every input the law returns true; each argument reads behind the call as it read before'; 0 by the template 'total and deterministic' (their statements: YtbpdfcllojaanaaTotals.lean).
  GIVEN WITH THE SEED: the statements are not yours to turn. If you find one false, say at which input.
  Laid BY PROGRAM, IN A SANDBOX (cutbox-rows.mjs): the forced cells as the released guide's own fill.sh prints them over the translation 0ecbf3071e2f4e12… (all of the seat's roots in one cut). By AI agents, Wed Nov 11 2026. No macro, syntax, notation, axiom, sorry.
-/
import Derived.Test.YtbpdfcllojaanaaChecked
import GoSem.Claim
import GoSem.ClaimJoined
import GoSem.ClaimMapViews
import Derived.JoinedTies
import Derived.KernelRfl
namespace Go.Proofs.Ytbpdfcllojaanaa
/- THE CELL 'sum', in the pinned program and in every row, IS THE sha256 OF THE DUMP (.gsa) THAT YtbpdfcllojaanaaProg.lean LOADS. Nothing in Lean hashes anything: it is a label: what it is worth is what the hold of that sum in a sandbox is worth. -/
noncomputable def Try.pinned : Pinned := { name := "ytbpdfcllojaanaa", sum := "0ecbf3071e2f4e12cb0fec27d29a2b3b0029420a7f8d0c766029939455fd39ac", checked := Try.checked }
namespace Rows
def none {H : Type} : Left H := { results := [], args := [] }

/-- 'cabstandlaw16.WeighChecks': WHATEVER THE INPUT: true; the input reads as it did. -/
def weighChecksSpec : ChangeSpec := { name := "weighChecks", fn := fun _ => fun
  | [d1, d2, d3] => { results := [.lit (.bool true)], args := [d1, d2, d3] }
  | _ => none }
def weighChecksRow : OpenClaim := { program := "ytbpdfcllojaanaa", sum := "0ecbf3071e2f4e12cb0fec27d29a2b3b0029420a7f8d0c766029939455fd39ac", func := "cabstand/cabstandlaw16.WeighChecks", spec := "weighChecks", apart := false }
def WeighChecksSaid : Prop := weighChecksRow.holds Try.pinned (OpenSpec.ofChange weighChecksSpec)

/-- ITS FALSE NEIGHBOUR: 'it returns false'. Refute it at one input. -/
def weighChecksWrong : ChangeSpec := { name := "weighChecks", fn := fun _ => fun
  | [d1, d2, d3] => { results := [.lit (.bool false)], args := [d1, d2, d3] }
  | _ => none }
def WeighChecksWrongFalsely : Prop := weighChecksRow.holds Try.pinned (OpenSpec.ofChange weighChecksWrong)

/-- 'cabstandlaw16.WeighWeights': WHATEVER THE INPUT: true; the input reads as it did. -/
def weighWeightsSpec : ChangeSpec := { name := "weighWeights", fn := fun _ => fun
  | [d1, d2, d3] => { results := [.lit (.bool true)], args := [d1, d2, d3] }
  | _ => none }
def weighWeightsRow : OpenClaim := { program := "ytbpdfcllojaanaa", sum := "0ecbf3071e2f4e12cb0fec27d29a2b3b0029420a7f8d0c766029939455fd39ac", func := "cabstand/cabstandlaw16.WeighWeights", spec := "weighWeights", inPlace := ["math/bits.Add64"], apart := false }
def WeighWeightsSaid : Prop := weighWeightsRow.holds Try.pinned (OpenSpec.ofChange weighWeightsSpec)

/-- ITS FALSE NEIGHBOUR: 'it returns false'. Refute it at one input. -/
def weighWeightsWrong : ChangeSpec := { name := "weighWeights", fn := fun _ => fun
  | [d1, d2, d3] => { results := [.lit (.bool false)], args := [d1, d2, d3] }
  | _ => none }
def WeighWeightsWrongFalsely : Prop := weighWeightsRow.holds Try.pinned (OpenSpec.ofChange weighWeightsWrong)

/-- 'cabstandlaw16.WeighAges': WHATEVER THE INPUT: true; the input reads as it did. -/
def weighAgesSpec : ChangeSpec := { name := "weighAges", fn := fun _ => fun
  | [d1, d2, d3] => { results := [.lit (.bool true)], args := [d1, d2, d3] }
  | _ => none }
def weighAgesRow : OpenClaim := { program := "ytbpdfcllojaanaa", sum := "0ecbf3071e2f4e12cb0fec27d29a2b3b0029420a7f8d0c766029939455fd39ac", func := "cabstand/cabstandlaw16.WeighAges", spec := "weighAges", inPlace := ["math/bits.Add64"], apart := false }
def WeighAgesSaid : Prop := weighAgesRow.holds Try.pinned (OpenSpec.ofChange weighAgesSpec)

/-- ITS FALSE NEIGHBOUR: 'it returns false'. Refute it at one input. -/
def weighAgesWrong : ChangeSpec := { name := "weighAges", fn := fun _ => fun
  | [d1, d2, d3] => { results := [.lit (.bool false)], args := [d1, d2, d3] }
  | _ => none }
def WeighAgesWrongFalsely : Prop := weighAgesRow.holds Try.pinned (OpenSpec.ofChange weighAgesWrong)

/-- 'cabstandlaw16.WeighTicks': WHATEVER THE INPUT: true; the input reads as it did. -/
def weighTicksSpec : ChangeSpec := { name := "weighTicks", fn := fun _ => fun
  | [d1, d2, d3] => { results := [.lit (.bool true)], args := [d1, d2, d3] }
  | _ => none }
def weighTicksRow : OpenClaim := { program := "ytbpdfcllojaanaa", sum := "0ecbf3071e2f4e12cb0fec27d29a2b3b0029420a7f8d0c766029939455fd39ac", func := "cabstand/cabstandlaw16.WeighTicks", spec := "weighTicks", inPlace := ["math/bits.Add64"], apart := false }
def WeighTicksSaid : Prop := weighTicksRow.holds Try.pinned (OpenSpec.ofChange weighTicksSpec)

/-- ITS FALSE NEIGHBOUR: 'it returns false'. Refute it at one input. -/
def weighTicksWrong : ChangeSpec := { name := "weighTicks", fn := fun _ => fun
  | [d1, d2, d3] => { results := [.lit (.bool false)], args := [d1, d2, d3] }
  | _ => none }
def WeighTicksWrongFalsely : Prop := weighTicksRow.holds Try.pinned (OpenSpec.ofChange weighTicksWrong)

/-- 'cabstandlaw16.WeighRows': WHATEVER THE INPUT: true; the input reads as it did. -/
def weighRowsSpec : ChangeSpec := { name := "weighRows", fn := fun _ => fun
  | [d1, d2, d3] => { results := [.lit (.bool true)], args := [d1, d2, d3] }
  | _ => none }
def weighRowsRow : OpenClaim := { program := "ytbpdfcllojaanaa", sum := "0ecbf3071e2f4e12cb0fec27d29a2b3b0029420a7f8d0c766029939455fd39ac", func := "cabstand/cabstandlaw16.WeighRows", spec := "weighRows", inPlace := ["math/bits.Add64"], apart := false }
def WeighRowsSaid : Prop := weighRowsRow.holds Try.pinned (OpenSpec.ofChange weighRowsSpec)

/-- ITS FALSE NEIGHBOUR: 'it returns false'. Refute it at one input. -/
def weighRowsWrong : ChangeSpec := { name := "weighRows", fn := fun _ => fun
  | [d1, d2, d3] => { results := [.lit (.bool false)], args := [d1, d2, d3] }
  | _ => none }
def WeighRowsWrongFalsely : Prop := weighRowsRow.holds Try.pinned (OpenSpec.ofChange weighRowsWrong)

/-- 'cabstandlaw16.WeighFirst': WHATEVER THE INPUT: true; the input reads as it did. -/
def weighFirstSpec : ChangeSpec := { name := "weighFirst", fn := fun _ => fun
  | [d1, d2, d3] => { results := [.lit (.bool true)], args := [d1, d2, d3] }
  | _ => none }
def weighFirstRow : OpenClaim := { program := "ytbpdfcllojaanaa", sum := "0ecbf3071e2f4e12cb0fec27d29a2b3b0029420a7f8d0c766029939455fd39ac", func := "cabstand/cabstandlaw16.WeighFirst", spec := "weighFirst", inPlace := ["math/bits.Add64"], apart := false }
def WeighFirstSaid : Prop := weighFirstRow.holds Try.pinned (OpenSpec.ofChange weighFirstSpec)

/-- ITS FALSE NEIGHBOUR: 'it returns false'. Refute it at one input. -/
def weighFirstWrong : ChangeSpec := { name := "weighFirst", fn := fun _ => fun
  | [d1, d2, d3] => { results := [.lit (.bool false)], args := [d1, d2, d3] }
  | _ => none }
def WeighFirstWrongFalsely : Prop := weighFirstRow.holds Try.pinned (OpenSpec.ofChange weighFirstWrong)

/-- 'cabstandlaw16.WeighBounds': WHATEVER THE INPUT: true; the input reads as it did. -/
def weighBoundsSpec : ChangeSpec := { name := "weighBounds", fn := fun _ => fun
  | [d1, d2, d3] => { results := [.lit (.bool true)], args := [d1, d2, d3] }
  | _ => none }
def weighBoundsRow : OpenClaim := { program := "ytbpdfcllojaanaa", sum := "0ecbf3071e2f4e12cb0fec27d29a2b3b0029420a7f8d0c766029939455fd39ac", func := "cabstand/cabstandlaw16.WeighBounds", spec := "weighBounds", inPlace := ["math/bits.Add64"], apart := false }
def WeighBoundsSaid : Prop := weighBoundsRow.holds Try.pinned (OpenSpec.ofChange weighBoundsSpec)

/-- ITS FALSE NEIGHBOUR: 'it returns false'. Refute it at one input. -/
def weighBoundsWrong : ChangeSpec := { name := "weighBounds", fn := fun _ => fun
  | [d1, d2, d3] => { results := [.lit (.bool false)], args := [d1, d2, d3] }
  | _ => none }
def WeighBoundsWrongFalsely : Prop := weighBoundsRow.holds Try.pinned (OpenSpec.ofChange weighBoundsWrong)

/- THE SECOND FORM. 'bulk': how many values and letters a reading holds, each counted each time it is reached (what is shared counts as often as it is met; a slice's spare places count too). A statement '..UptoSaid' is the law's where the arguments, and the package variables that the reading takes, are together of bulk at most 1048576: NARROWER than '..Said'. Prove '..Said' where nothing that the law and all that it calls make is longer than what came in: it says more and counts as full. Else prove '..UptoSaid'. A law counts once. -/
mutual
def uptoBulk {H : Type} : DataW H → Nat
  | .lit (.string bytes) => bytes.length + 1
  | .lit _ => 1
  | .nil => 1
  | .ptr d => uptoBulk d + 1
  | .slice elems spare => uptoBulkAll elems + uptoBulkAll spare + 1
  | .agg parts => uptoBulkAll parts + 1
  | .iface _ d => uptoBulk d + 1
  | .map entries => uptoBulkEntries entries + 1
  | .held _ => 1
def uptoBulkAll {H : Type} : List (DataW H) → Nat
  | [] => 0
  | d :: r => uptoBulk d + uptoBulkAll r
def uptoBulkEntries {H : Type} : List (Lit × DataW H) → Nat
  | [] => 0
  | x :: r => uptoBulkEntry x + uptoBulkEntries r
def uptoBulkEntry {H : Type} : Lit × DataW H → Nat
  | (.string bytes, d) => bytes.length + uptoBulk d + 1
  | (_, d) => uptoBulk d + 1
 end
def uptoSmall : (H : Type) → List (DataW H) → Bool := fun _ ds => decide (uptoBulkAll ds ≤ 1048576)
def OpenSpec.upto (s : _root_.Go.ChangeSpec) : _root_.Go.OpenSpec := { _root_.Go.OpenSpec.ofChange s with cond := some uptoSmall }

/-- 'cabstandlaw16.WeighChecks', WHERE WHAT IT READS IS OF BULK AT MOST 1048576: true; the input reads as it did. -/
def weighChecksUptoRow : OpenClaim := { program := "ytbpdfcllojaanaa", sum := "0ecbf3071e2f4e12cb0fec27d29a2b3b0029420a7f8d0c766029939455fd39ac", func := "cabstand/cabstandlaw16.WeighChecks", spec := "weighChecks", apart := false, narrowed := true }
def WeighChecksUptoSaid : Prop := weighChecksUptoRow.holds Try.pinned (OpenSpec.upto weighChecksSpec)

/-- 'cabstandlaw16.WeighWeights', WHERE WHAT IT READS IS OF BULK AT MOST 1048576: true; the input reads as it did. -/
def weighWeightsUptoRow : OpenClaim := { program := "ytbpdfcllojaanaa", sum := "0ecbf3071e2f4e12cb0fec27d29a2b3b0029420a7f8d0c766029939455fd39ac", func := "cabstand/cabstandlaw16.WeighWeights", spec := "weighWeights", inPlace := ["math/bits.Add64"], apart := false, narrowed := true }
def WeighWeightsUptoSaid : Prop := weighWeightsUptoRow.holds Try.pinned (OpenSpec.upto weighWeightsSpec)

/-- 'cabstandlaw16.WeighAges', WHERE WHAT IT READS IS OF BULK AT MOST 1048576: true; the input reads as it did. -/
def weighAgesUptoRow : OpenClaim := { program := "ytbpdfcllojaanaa", sum := "0ecbf3071e2f4e12cb0fec27d29a2b3b0029420a7f8d0c766029939455fd39ac", func := "cabstand/cabstandlaw16.WeighAges", spec := "weighAges", inPlace := ["math/bits.Add64"], apart := false, narrowed := true }
def WeighAgesUptoSaid : Prop := weighAgesUptoRow.holds Try.pinned (OpenSpec.upto weighAgesSpec)

/-- 'cabstandlaw16.WeighTicks', WHERE WHAT IT READS IS OF BULK AT MOST 1048576: true; the input reads as it did. -/
def weighTicksUptoRow : OpenClaim := { program := "ytbpdfcllojaanaa", sum := "0ecbf3071e2f4e12cb0fec27d29a2b3b0029420a7f8d0c766029939455fd39ac", func := "cabstand/cabstandlaw16.WeighTicks", spec := "weighTicks", inPlace := ["math/bits.Add64"], apart := false, narrowed := true }
def WeighTicksUptoSaid : Prop := weighTicksUptoRow.holds Try.pinned (OpenSpec.upto weighTicksSpec)

/-- 'cabstandlaw16.WeighRows', WHERE WHAT IT READS IS OF BULK AT MOST 1048576: true; the input reads as it did. -/
def weighRowsUptoRow : OpenClaim := { program := "ytbpdfcllojaanaa", sum := "0ecbf3071e2f4e12cb0fec27d29a2b3b0029420a7f8d0c766029939455fd39ac", func := "cabstand/cabstandlaw16.WeighRows", spec := "weighRows", inPlace := ["math/bits.Add64"], apart := false, narrowed := true }
def WeighRowsUptoSaid : Prop := weighRowsUptoRow.holds Try.pinned (OpenSpec.upto weighRowsSpec)

/-- 'cabstandlaw16.WeighFirst', WHERE WHAT IT READS IS OF BULK AT MOST 1048576: true; the input reads as it did. -/
def weighFirstUptoRow : OpenClaim := { program := "ytbpdfcllojaanaa", sum := "0ecbf3071e2f4e12cb0fec27d29a2b3b0029420a7f8d0c766029939455fd39ac", func := "cabstand/cabstandlaw16.WeighFirst", spec := "weighFirst", inPlace := ["math/bits.Add64"], apart := false, narrowed := true }
def WeighFirstUptoSaid : Prop := weighFirstUptoRow.holds Try.pinned (OpenSpec.upto weighFirstSpec)

/-- 'cabstandlaw16.WeighBounds', WHERE WHAT IT READS IS OF BULK AT MOST 1048576: true; the input reads as it did. -/
def weighBoundsUptoRow : OpenClaim := { program := "ytbpdfcllojaanaa", sum := "0ecbf3071e2f4e12cb0fec27d29a2b3b0029420a7f8d0c766029939455fd39ac", func := "cabstand/cabstandlaw16.WeighBounds", spec := "weighBounds", inPlace := ["math/bits.Add64"], apart := false, narrowed := true }
def WeighBoundsUptoSaid : Prop := weighBoundsUptoRow.holds Try.pinned (OpenSpec.upto weighBoundsSpec)

end Rows
end Go.Proofs.Ytbpdfcllojaanaa
