/-
  No cell of these rows narrows 'for every input' (looked for: loops, veiled, ifaces, maps, wideKeys, modest, calm, conditions, laid).
  DERIVED. THE GIVEN ROWS OF THIS SEAT. 7 by the template 'for every input the law returns true; each argument reads behind the call as it read before'; 0 by the template 'total and deterministic' (their statements: YtdfjbghmeoephaaTotals.lean).
  GIVEN WITH THE SEED: the statements are not yours to turn. If you find one false, say at which input.
  Laid BY PROGRAM, IN A SANDBOX (cutbox-rows.mjs): the forced cells as the released guide's own fill.sh prints them over the translation f1d62308f43bf034… (all of the seat's roots in one cut). By AI agents, Wed Nov 11 2026. No macro, syntax, notation, axiom, sorry.
-/
import Derived.Test.YtdfjbghmeoephaaChecked
import GoSem.Claim
import GoSem.ClaimJoined
import GoSem.ClaimMapViews
import Derived.JoinedTies
import Derived.KernelRfl
namespace Go.Proofs.Ytdfjbghmeoephaa
/- THE CELL 'sum', in the pinned program and in every row, IS THE sha256 OF THE DUMP (.gsa) THAT YtdfjbghmeoephaaProg.lean LOADS. Nothing in Lean hashes anything: it is a label: what it is worth is what the hold of that sum in a sandbox is worth. -/
noncomputable def Try.pinned : Pinned := { name := "ytdfjbghmeoephaa", sum := "f1d62308f43bf03422d6a632929d31cf17bb310bdedc1e6e527fa4ffc79a9259", checked := Try.checked }
namespace Rows
def none {H : Type} : Left H := { results := [], args := [] }

/-- 'cabstandlaw01.NumClamps': WHATEVER THE INPUT: true; the input reads as it did. -/
def numClampsSpec : ChangeSpec := { name := "numClamps", fn := fun _ => fun
  | [d1, d2, d3] => { results := [.lit (.bool true)], args := [d1, d2, d3] }
  | _ => none }
def numClampsRow : OpenClaim := { program := "ytdfjbghmeoephaa", sum := "f1d62308f43bf03422d6a632929d31cf17bb310bdedc1e6e527fa4ffc79a9259", func := "cabstand/cabstandlaw01.NumClamps", spec := "numClamps", apart := false }
def NumClampsSaid : Prop := numClampsRow.holds Try.pinned (OpenSpec.ofChange numClampsSpec)

/-- ITS FALSE NEIGHBOUR: 'it returns false'. Refute it at one input. -/
def numClampsWrong : ChangeSpec := { name := "numClamps", fn := fun _ => fun
  | [d1, d2, d3] => { results := [.lit (.bool false)], args := [d1, d2, d3] }
  | _ => none }
def NumClampsWrongFalsely : Prop := numClampsRow.holds Try.pinned (OpenSpec.ofChange numClampsWrong)

/-- 'cabstandlaw01.NumFits': WHATEVER THE INPUT: true; the input reads as it did. -/
def numFitsSpec : ChangeSpec := { name := "numFits", fn := fun _ => fun
  | [d] => { results := [.lit (.bool true)], args := [d] }
  | _ => none }
def numFitsRow : OpenClaim := { program := "ytdfjbghmeoephaa", sum := "f1d62308f43bf03422d6a632929d31cf17bb310bdedc1e6e527fa4ffc79a9259", func := "cabstand/cabstandlaw01.NumFits", spec := "numFits", apart := false }
def NumFitsSaid : Prop := numFitsRow.holds Try.pinned (OpenSpec.ofChange numFitsSpec)

/-- ITS FALSE NEIGHBOUR: 'it returns false'. Refute it at one input. -/
def numFitsWrong : ChangeSpec := { name := "numFits", fn := fun _ => fun
  | [d] => { results := [.lit (.bool false)], args := [d] }
  | _ => none }
def NumFitsWrongFalsely : Prop := numFitsRow.holds Try.pinned (OpenSpec.ofChange numFitsWrong)

/-- 'cabstandlaw01.NumCrosses': WHATEVER THE INPUT: true; the input reads as it did. -/
def numCrossesSpec : ChangeSpec := { name := "numCrosses", fn := fun _ => fun
  | [d] => { results := [.lit (.bool true)], args := [d] }
  | _ => none }
def numCrossesRow : OpenClaim := { program := "ytdfjbghmeoephaa", sum := "f1d62308f43bf03422d6a632929d31cf17bb310bdedc1e6e527fa4ffc79a9259", func := "cabstand/cabstandlaw01.NumCrosses", spec := "numCrosses", apart := false }
def NumCrossesSaid : Prop := numCrossesRow.holds Try.pinned (OpenSpec.ofChange numCrossesSpec)

/-- ITS FALSE NEIGHBOUR: 'it returns false'. Refute it at one input. -/
def numCrossesWrong : ChangeSpec := { name := "numCrosses", fn := fun _ => fun
  | [d] => { results := [.lit (.bool false)], args := [d] }
  | _ => none }
def NumCrossesWrongFalsely : Prop := numCrossesRow.holds Try.pinned (OpenSpec.ofChange numCrossesWrong)

/-- 'cabstandlaw01.NumSizes': WHATEVER THE INPUT: true; the input reads as it did. -/
def numSizesSpec : ChangeSpec := { name := "numSizes", fn := fun _ => fun
  | [d] => { results := [.lit (.bool true)], args := [d] }
  | _ => none }
def numSizesRow : OpenClaim := { program := "ytdfjbghmeoephaa", sum := "f1d62308f43bf03422d6a632929d31cf17bb310bdedc1e6e527fa4ffc79a9259", func := "cabstand/cabstandlaw01.NumSizes", spec := "numSizes", apart := false }
def NumSizesSaid : Prop := numSizesRow.holds Try.pinned (OpenSpec.ofChange numSizesSpec)

/-- ITS FALSE NEIGHBOUR: 'it returns false'. Refute it at one input. -/
def numSizesWrong : ChangeSpec := { name := "numSizes", fn := fun _ => fun
  | [d] => { results := [.lit (.bool false)], args := [d] }
  | _ => none }
def NumSizesWrongFalsely : Prop := numSizesRow.holds Try.pinned (OpenSpec.ofChange numSizesWrong)

/-- 'cabstandlaw01.NumFloors': WHATEVER THE INPUT: true; the input reads as it did. -/
def numFloorsSpec : ChangeSpec := { name := "numFloors", fn := fun _ => fun
  | [d1, d2] => { results := [.lit (.bool true)], args := [d1, d2] }
  | _ => none }
def numFloorsRow : OpenClaim := { program := "ytdfjbghmeoephaa", sum := "f1d62308f43bf03422d6a632929d31cf17bb310bdedc1e6e527fa4ffc79a9259", func := "cabstand/cabstandlaw01.NumFloors", spec := "numFloors", apart := false }
def NumFloorsSaid : Prop := numFloorsRow.holds Try.pinned (OpenSpec.ofChange numFloorsSpec)

/-- ITS FALSE NEIGHBOUR: 'it returns false'. Refute it at one input. -/
def numFloorsWrong : ChangeSpec := { name := "numFloors", fn := fun _ => fun
  | [d1, d2] => { results := [.lit (.bool false)], args := [d1, d2] }
  | _ => none }
def NumFloorsWrongFalsely : Prop := numFloorsRow.holds Try.pinned (OpenSpec.ofChange numFloorsWrong)

/-- 'cabstandlaw01.NumSums': WHATEVER THE INPUT: true; the input reads as it did. -/
def numSumsSpec : ChangeSpec := { name := "numSums", fn := fun _ => fun
  | [d1, d2] => { results := [.lit (.bool true)], args := [d1, d2] }
  | _ => none }
def numSumsRow : OpenClaim := { program := "ytdfjbghmeoephaa", sum := "f1d62308f43bf03422d6a632929d31cf17bb310bdedc1e6e527fa4ffc79a9259", func := "cabstand/cabstandlaw01.NumSums", spec := "numSums", apart := false }
def NumSumsSaid : Prop := numSumsRow.holds Try.pinned (OpenSpec.ofChange numSumsSpec)

/-- ITS FALSE NEIGHBOUR: 'it returns false'. Refute it at one input. -/
def numSumsWrong : ChangeSpec := { name := "numSums", fn := fun _ => fun
  | [d1, d2] => { results := [.lit (.bool false)], args := [d1, d2] }
  | _ => none }
def NumSumsWrongFalsely : Prop := numSumsRow.holds Try.pinned (OpenSpec.ofChange numSumsWrong)

/-- 'cabstandlaw01.NumTotals': WHATEVER THE INPUT: true; the input reads as it did. -/
def numTotalsSpec : ChangeSpec := { name := "numTotals", fn := fun _ => fun
  | [d] => { results := [.lit (.bool true)], args := [d] }
  | _ => none }
def numTotalsRow : OpenClaim := { program := "ytdfjbghmeoephaa", sum := "f1d62308f43bf03422d6a632929d31cf17bb310bdedc1e6e527fa4ffc79a9259", func := "cabstand/cabstandlaw01.NumTotals", spec := "numTotals", inPlace := ["math/bits.Add64"], apart := false }
def NumTotalsSaid : Prop := numTotalsRow.holds Try.pinned (OpenSpec.ofChange numTotalsSpec)

/-- ITS FALSE NEIGHBOUR: 'it returns false'. Refute it at one input. -/
def numTotalsWrong : ChangeSpec := { name := "numTotals", fn := fun _ => fun
  | [d] => { results := [.lit (.bool false)], args := [d] }
  | _ => none }
def NumTotalsWrongFalsely : Prop := numTotalsRow.holds Try.pinned (OpenSpec.ofChange numTotalsWrong)

/- THE SECOND FORM. 'bulk': how many values and letters a reading holds, each counted each time it is reached (what is shared counts as often as it is met; a slice's spare places count too). A statement '..UptoSaid' is the law's where the arguments, and the package variables that the reading takes, are together of bulk at most 1048576: NARROWER than '..Said'. Prove '..Said' where nothing that the law and all that it calls make is longer than what came in: it says more and counts as full. Else prove '..UptoSaid'. A law counts once. -/
mutual
def uptoBulk {H : Type} : DataW H → Nat
  | .lit (.string bytes) => bytes.length + 1
  | .lit _ => 1
  | .nil => 1
  | .ptr d => uptoBulk d + 1
  | .slice elems spare => uptoBulkAll elems + uptoBulkAll spare + 1
  | .agg parts => uptoBulkAll parts + 1
  | .iface _ d => uptoBulk d + 1
  | .map entries => uptoBulkEntries entries + 1
  | .held _ => 1
def uptoBulkAll {H : Type} : List (DataW H) → Nat
  | [] => 0
  | d :: r => uptoBulk d + uptoBulkAll r
def uptoBulkEntries {H : Type} : List (Lit × DataW H) → Nat
  | [] => 0
  | x :: r => uptoBulkEntry x + uptoBulkEntries r
def uptoBulkEntry {H : Type} : Lit × DataW H → Nat
  | (.string bytes, d) => bytes.length + uptoBulk d + 1
  | (_, d) => uptoBulk d + 1
 end
def uptoSmall : (H : Type) → List (DataW H) → Bool := fun _ ds => decide (uptoBulkAll ds ≤ 1048576)
def OpenSpec.upto (s : _root_.Go.ChangeSpec) : _root_.Go.OpenSpec := { _root_.Go.OpenSpec.ofChange s with cond := some uptoSmall }

/-- 'cabstandlaw01.NumClamps', WHERE WHAT IT READS IS OF BULK AT MOST 1048576: true; the input reads as it did. -/
def numClampsUptoRow : OpenClaim := { program := "ytdfjbghmeoephaa", sum := "f1d62308f43bf03422d6a632929d31cf17bb310bdedc1e6e527fa4ffc79a9259", func := "cabstand/cabstandlaw01.NumClamps", spec := "numClamps", apart := false, narrowed := true }
def NumClampsUptoSaid : Prop := numClampsUptoRow.holds Try.pinned (OpenSpec.upto numClampsSpec)

/-- 'cabstandlaw01.NumFits', WHERE WHAT IT READS IS OF BULK AT MOST 1048576: true; the input reads as it did. -/
def numFitsUptoRow : OpenClaim := { program := "ytdfjbghmeoephaa", sum := "f1d62308f43bf03422d6a632929d31cf17bb310bdedc1e6e527fa4ffc79a9259", func := "cabstand/cabstandlaw01.NumFits", spec := "numFits", apart := false, narrowed := true }
def NumFitsUptoSaid : Prop := numFitsUptoRow.holds Try.pinned (OpenSpec.upto numFitsSpec)

/-- 'cabstandlaw01.NumCrosses', WHERE WHAT IT READS IS OF BULK AT MOST 1048576: true; the input reads as it did. -/
def numCrossesUptoRow : OpenClaim := { program := "ytdfjbghmeoephaa", sum := "f1d62308f43bf03422d6a632929d31cf17bb310bdedc1e6e527fa4ffc79a9259", func := "cabstand/cabstandlaw01.NumCrosses", spec := "numCrosses", apart := false, narrowed := true }
def NumCrossesUptoSaid : Prop := numCrossesUptoRow.holds Try.pinned (OpenSpec.upto numCrossesSpec)

/-- 'cabstandlaw01.NumSizes', WHERE WHAT IT READS IS OF BULK AT MOST 1048576: true; the input reads as it did. -/
def numSizesUptoRow : OpenClaim := { program := "ytdfjbghmeoephaa", sum := "f1d62308f43bf03422d6a632929d31cf17bb310bdedc1e6e527fa4ffc79a9259", func := "cabstand/cabstandlaw01.NumSizes", spec := "numSizes", apart := false, narrowed := true }
def NumSizesUptoSaid : Prop := numSizesUptoRow.holds Try.pinned (OpenSpec.upto numSizesSpec)

/-- 'cabstandlaw01.NumFloors', WHERE WHAT IT READS IS OF BULK AT MOST 1048576: true; the input reads as it did. -/
def numFloorsUptoRow : OpenClaim := { program := "ytdfjbghmeoephaa", sum := "f1d62308f43bf03422d6a632929d31cf17bb310bdedc1e6e527fa4ffc79a9259", func := "cabstand/cabstandlaw01.NumFloors", spec := "numFloors", apart := false, narrowed := true }
def NumFloorsUptoSaid : Prop := numFloorsUptoRow.holds Try.pinned (OpenSpec.upto numFloorsSpec)

/-- 'cabstandlaw01.NumSums', WHERE WHAT IT READS IS OF BULK AT MOST 1048576: true; the input reads as it did. -/
def numSumsUptoRow : OpenClaim := { program := "ytdfjbghmeoephaa", sum := "f1d62308f43bf03422d6a632929d31cf17bb310bdedc1e6e527fa4ffc79a9259", func := "cabstand/cabstandlaw01.NumSums", spec := "numSums", apart := false, narrowed := true }
def NumSumsUptoSaid : Prop := numSumsUptoRow.holds Try.pinned (OpenSpec.upto numSumsSpec)

/-- 'cabstandlaw01.NumTotals', WHERE WHAT IT READS IS OF BULK AT MOST 1048576: true; the input reads as it did. -/
def numTotalsUptoRow : OpenClaim := { program := "ytdfjbghmeoephaa", sum := "f1d62308f43bf03422d6a632929d31cf17bb310bdedc1e6e527fa4ffc79a9259", func := "cabstand/cabstandlaw01.NumTotals", spec := "numTotals", inPlace := ["math/bits.Add64"], apart := false, narrowed := true }
def NumTotalsUptoSaid : Prop := numTotalsUptoRow.holds Try.pinned (OpenSpec.upto numTotalsSpec)

end Rows
end Go.Proofs.Ytdfjbghmeoephaa
