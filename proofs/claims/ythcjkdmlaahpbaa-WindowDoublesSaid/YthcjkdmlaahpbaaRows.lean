/-
  No cell of these rows narrows 'for every input' (looked for: loops, veiled, ifaces, maps, wideKeys, modest, calm, conditions, laid).
  DERIVED. THE GIVEN ROWS OF THIS SEAT. 7 by the template 'for every input the law returns true; each argument reads behind the call as it read before'; 0 by the template 'total and deterministic' (their statements: YthcjkdmlaahpbaaTotals.lean).
  GIVEN WITH THE SEED: the statements are not yours to turn. If you find one false, say at which input.
  Laid BY PROGRAM, IN A SANDBOX (cutbox-rows.mjs): the forced cells as the released guide's own fill.sh prints them over the translation 679b60c7ca228632… (all of the seat's roots in one cut). By AI agents, Wed Nov 11 2026. No macro, syntax, notation, axiom, sorry.
-/
import Derived.Test.YthcjkdmlaahpbaaChecked
import GoSem.Claim
import GoSem.ClaimJoined
import GoSem.ClaimMapViews
import Derived.JoinedTies
import Derived.KernelRfl
namespace Go.Proofs.Ythcjkdmlaahpbaa
/- THE CELL 'sum', in the pinned program and in every row, IS THE sha256 OF THE DUMP (.gsa) THAT YthcjkdmlaahpbaaProg.lean LOADS. Nothing in Lean hashes anything: it is a label: what it is worth is what the hold of that sum in a sandbox is worth. -/
noncomputable def Try.pinned : Pinned := { name := "ythcjkdmlaahpbaa", sum := "679b60c7ca2286328f0a77a98e88901986540f87cfb45b51c85d6fc9f6e8234a", checked := Try.checked }
namespace Rows
def none {H : Type} : Left H := { results := [], args := [] }

/-- 'cabstandlaw09.WindowFull': WHATEVER THE INPUT: true; the input reads as it did. -/
def windowFullSpec : ChangeSpec := { name := "windowFull", fn := fun _ => fun
  | [d1, d2, d3] => { results := [.lit (.bool true)], args := [d1, d2, d3] }
  | _ => none }
def windowFullRow : OpenClaim := { program := "ythcjkdmlaahpbaa", sum := "679b60c7ca2286328f0a77a98e88901986540f87cfb45b51c85d6fc9f6e8234a", func := "cabstand/cabstandlaw09.WindowFull", spec := "windowFull", inPlace := ["math.Float64bits", "math.Float64frombits"], apart := false }
def WindowFullSaid : Prop := windowFullRow.holds Try.pinned (OpenSpec.ofChange windowFullSpec)

/-- ITS FALSE NEIGHBOUR: 'it returns false'. Refute it at one input. -/
def windowFullWrong : ChangeSpec := { name := "windowFull", fn := fun _ => fun
  | [d1, d2, d3] => { results := [.lit (.bool false)], args := [d1, d2, d3] }
  | _ => none }
def WindowFullWrongFalsely : Prop := windowFullRow.holds Try.pinned (OpenSpec.ofChange windowFullWrong)

/-- 'cabstandlaw09.WindowSmooths': WHATEVER THE INPUT: true; the input reads as it did. -/
def windowSmoothsSpec : ChangeSpec := { name := "windowSmooths", fn := fun _ => fun
  | [d1, d2, d3] => { results := [.lit (.bool true)], args := [d1, d2, d3] }
  | _ => none }
def windowSmoothsRow : OpenClaim := { program := "ythcjkdmlaahpbaa", sum := "679b60c7ca2286328f0a77a98e88901986540f87cfb45b51c85d6fc9f6e8234a", func := "cabstand/cabstandlaw09.WindowSmooths", spec := "windowSmooths", inPlace := ["math.Float64bits", "math.Float64frombits"], apart := false }
def WindowSmoothsSaid : Prop := windowSmoothsRow.holds Try.pinned (OpenSpec.ofChange windowSmoothsSpec)

/-- ITS FALSE NEIGHBOUR: 'it returns false'. Refute it at one input. -/
def windowSmoothsWrong : ChangeSpec := { name := "windowSmooths", fn := fun _ => fun
  | [d1, d2, d3] => { results := [.lit (.bool false)], args := [d1, d2, d3] }
  | _ => none }
def WindowSmoothsWrongFalsely : Prop := windowSmoothsRow.holds Try.pinned (OpenSpec.ofChange windowSmoothsWrong)

/-- 'cabstandlaw09.WindowMoves': WHATEVER THE INPUT: true; the input reads as it did. -/
def windowMovesSpec : ChangeSpec := { name := "windowMoves", fn := fun _ => fun
  | [d] => { results := [.lit (.bool true)], args := [d] }
  | _ => none }
def windowMovesRow : OpenClaim := { program := "ythcjkdmlaahpbaa", sum := "679b60c7ca2286328f0a77a98e88901986540f87cfb45b51c85d6fc9f6e8234a", func := "cabstand/cabstandlaw09.WindowMoves", spec := "windowMoves", inPlace := ["math.Float64bits", "math.Float64frombits"], apart := false }
def WindowMovesSaid : Prop := windowMovesRow.holds Try.pinned (OpenSpec.ofChange windowMovesSpec)

/-- ITS FALSE NEIGHBOUR: 'it returns false'. Refute it at one input. -/
def windowMovesWrong : ChangeSpec := { name := "windowMoves", fn := fun _ => fun
  | [d] => { results := [.lit (.bool false)], args := [d] }
  | _ => none }
def WindowMovesWrongFalsely : Prop := windowMovesRow.holds Try.pinned (OpenSpec.ofChange windowMovesWrong)

/-- 'cabstandlaw09.WindowDoubles': WHATEVER THE INPUT: true; the input reads as it did. -/
def windowDoublesSpec : ChangeSpec := { name := "windowDoubles", fn := fun _ => fun
  | [d1, d2] => { results := [.lit (.bool true)], args := [d1, d2] }
  | _ => none }
def windowDoublesRow : OpenClaim := { program := "ythcjkdmlaahpbaa", sum := "679b60c7ca2286328f0a77a98e88901986540f87cfb45b51c85d6fc9f6e8234a", func := "cabstand/cabstandlaw09.WindowDoubles", spec := "windowDoubles", inPlace := ["math.Float64bits", "math.Float64frombits"], apart := false }
def WindowDoublesSaid : Prop := windowDoublesRow.holds Try.pinned (OpenSpec.ofChange windowDoublesSpec)

/-- ITS FALSE NEIGHBOUR: 'it returns false'. Refute it at one input. -/
def windowDoublesWrong : ChangeSpec := { name := "windowDoubles", fn := fun _ => fun
  | [d1, d2] => { results := [.lit (.bool false)], args := [d1, d2] }
  | _ => none }
def WindowDoublesWrongFalsely : Prop := windowDoublesRow.holds Try.pinned (OpenSpec.ofChange windowDoublesWrong)

/-- 'cabstandlaw09.WindowPlays': WHATEVER THE INPUT: true; the input reads as it did. -/
def windowPlaysSpec : ChangeSpec := { name := "windowPlays", fn := fun _ => fun
  | [d1, d2, d3] => { results := [.lit (.bool true)], args := [d1, d2, d3] }
  | _ => none }
def windowPlaysRow : OpenClaim := { program := "ythcjkdmlaahpbaa", sum := "679b60c7ca2286328f0a77a98e88901986540f87cfb45b51c85d6fc9f6e8234a", func := "cabstand/cabstandlaw09.WindowPlays", spec := "windowPlays", inPlace := ["math.Float64bits", "math.Float64frombits"], apart := false }
def WindowPlaysSaid : Prop := windowPlaysRow.holds Try.pinned (OpenSpec.ofChange windowPlaysSpec)

/-- ITS FALSE NEIGHBOUR: 'it returns false'. Refute it at one input. -/
def windowPlaysWrong : ChangeSpec := { name := "windowPlays", fn := fun _ => fun
  | [d1, d2, d3] => { results := [.lit (.bool false)], args := [d1, d2, d3] }
  | _ => none }
def WindowPlaysWrongFalsely : Prop := windowPlaysRow.holds Try.pinned (OpenSpec.ofChange windowPlaysWrong)

/-- 'cabstandlaw09.WindowCounts': WHATEVER THE INPUT: true; the input reads as it did. -/
def windowCountsSpec : ChangeSpec := { name := "windowCounts", fn := fun _ => fun
  | [d1, d2, d3] => { results := [.lit (.bool true)], args := [d1, d2, d3] }
  | _ => none }
def windowCountsRow : OpenClaim := { program := "ythcjkdmlaahpbaa", sum := "679b60c7ca2286328f0a77a98e88901986540f87cfb45b51c85d6fc9f6e8234a", func := "cabstand/cabstandlaw09.WindowCounts", spec := "windowCounts", inPlace := ["math.Float64bits", "math.Float64frombits"], apart := false }
def WindowCountsSaid : Prop := windowCountsRow.holds Try.pinned (OpenSpec.ofChange windowCountsSpec)

/-- ITS FALSE NEIGHBOUR: 'it returns false'. Refute it at one input. -/
def windowCountsWrong : ChangeSpec := { name := "windowCounts", fn := fun _ => fun
  | [d1, d2, d3] => { results := [.lit (.bool false)], args := [d1, d2, d3] }
  | _ => none }
def WindowCountsWrongFalsely : Prop := windowCountsRow.holds Try.pinned (OpenSpec.ofChange windowCountsWrong)

/-- 'cabstandlaw09.WindowNone': WHATEVER THE INPUT: true; the input reads as it did. -/
def windowNoneSpec : ChangeSpec := { name := "windowNone", fn := fun _ => fun
  | [d1, d2, d3] => { results := [.lit (.bool true)], args := [d1, d2, d3] }
  | _ => none }
def windowNoneRow : OpenClaim := { program := "ythcjkdmlaahpbaa", sum := "679b60c7ca2286328f0a77a98e88901986540f87cfb45b51c85d6fc9f6e8234a", func := "cabstand/cabstandlaw09.WindowNone", spec := "windowNone", inPlace := ["math.Float64bits", "math.Float64frombits"], apart := false }
def WindowNoneSaid : Prop := windowNoneRow.holds Try.pinned (OpenSpec.ofChange windowNoneSpec)

/-- ITS FALSE NEIGHBOUR: 'it returns false'. Refute it at one input. -/
def windowNoneWrong : ChangeSpec := { name := "windowNone", fn := fun _ => fun
  | [d1, d2, d3] => { results := [.lit (.bool false)], args := [d1, d2, d3] }
  | _ => none }
def WindowNoneWrongFalsely : Prop := windowNoneRow.holds Try.pinned (OpenSpec.ofChange windowNoneWrong)

/- THE SECOND FORM. 'bulk': how many values and letters a reading holds, each counted each time it is reached (what is shared counts as often as it is met; a slice's spare places count too). A statement '..UptoSaid' is the law's where the arguments, and the package variables that the reading takes, are together of bulk at most 1048576: NARROWER than '..Said'. Prove '..Said' where nothing that the law and all that it calls make is longer than what came in: it says more and counts as full. Else prove '..UptoSaid'. A law counts once. -/
mutual
def uptoBulk {H : Type} : DataW H → Nat
  | .lit (.string bytes) => bytes.length + 1
  | .lit _ => 1
  | .nil => 1
  | .ptr d => uptoBulk d + 1
  | .slice elems spare => uptoBulkAll elems + uptoBulkAll spare + 1
  | .agg parts => uptoBulkAll parts + 1
  | .iface _ d => uptoBulk d + 1
  | .map entries => uptoBulkEntries entries + 1
  | .held _ => 1
def uptoBulkAll {H : Type} : List (DataW H) → Nat
  | [] => 0
  | d :: r => uptoBulk d + uptoBulkAll r
def uptoBulkEntries {H : Type} : List (Lit × DataW H) → Nat
  | [] => 0
  | x :: r => uptoBulkEntry x + uptoBulkEntries r
def uptoBulkEntry {H : Type} : Lit × DataW H → Nat
  | (.string bytes, d) => bytes.length + uptoBulk d + 1
  | (_, d) => uptoBulk d + 1
 end
def uptoSmall : (H : Type) → List (DataW H) → Bool := fun _ ds => decide (uptoBulkAll ds ≤ 1048576)
def OpenSpec.upto (s : _root_.Go.ChangeSpec) : _root_.Go.OpenSpec := { _root_.Go.OpenSpec.ofChange s with cond := some uptoSmall }

/-- 'cabstandlaw09.WindowFull', WHERE WHAT IT READS IS OF BULK AT MOST 1048576: true; the input reads as it did. -/
def windowFullUptoRow : OpenClaim := { program := "ythcjkdmlaahpbaa", sum := "679b60c7ca2286328f0a77a98e88901986540f87cfb45b51c85d6fc9f6e8234a", func := "cabstand/cabstandlaw09.WindowFull", spec := "windowFull", inPlace := ["math.Float64bits", "math.Float64frombits"], apart := false, narrowed := true }
def WindowFullUptoSaid : Prop := windowFullUptoRow.holds Try.pinned (OpenSpec.upto windowFullSpec)

/-- 'cabstandlaw09.WindowSmooths', WHERE WHAT IT READS IS OF BULK AT MOST 1048576: true; the input reads as it did. -/
def windowSmoothsUptoRow : OpenClaim := { program := "ythcjkdmlaahpbaa", sum := "679b60c7ca2286328f0a77a98e88901986540f87cfb45b51c85d6fc9f6e8234a", func := "cabstand/cabstandlaw09.WindowSmooths", spec := "windowSmooths", inPlace := ["math.Float64bits", "math.Float64frombits"], apart := false, narrowed := true }
def WindowSmoothsUptoSaid : Prop := windowSmoothsUptoRow.holds Try.pinned (OpenSpec.upto windowSmoothsSpec)

/-- 'cabstandlaw09.WindowMoves', WHERE WHAT IT READS IS OF BULK AT MOST 1048576: true; the input reads as it did. -/
def windowMovesUptoRow : OpenClaim := { program := "ythcjkdmlaahpbaa", sum := "679b60c7ca2286328f0a77a98e88901986540f87cfb45b51c85d6fc9f6e8234a", func := "cabstand/cabstandlaw09.WindowMoves", spec := "windowMoves", inPlace := ["math.Float64bits", "math.Float64frombits"], apart := false, narrowed := true }
def WindowMovesUptoSaid : Prop := windowMovesUptoRow.holds Try.pinned (OpenSpec.upto windowMovesSpec)

/-- 'cabstandlaw09.WindowDoubles', WHERE WHAT IT READS IS OF BULK AT MOST 1048576: true; the input reads as it did. -/
def windowDoublesUptoRow : OpenClaim := { program := "ythcjkdmlaahpbaa", sum := "679b60c7ca2286328f0a77a98e88901986540f87cfb45b51c85d6fc9f6e8234a", func := "cabstand/cabstandlaw09.WindowDoubles", spec := "windowDoubles", inPlace := ["math.Float64bits", "math.Float64frombits"], apart := false, narrowed := true }
def WindowDoublesUptoSaid : Prop := windowDoublesUptoRow.holds Try.pinned (OpenSpec.upto windowDoublesSpec)

/-- 'cabstandlaw09.WindowPlays', WHERE WHAT IT READS IS OF BULK AT MOST 1048576: true; the input reads as it did. -/
def windowPlaysUptoRow : OpenClaim := { program := "ythcjkdmlaahpbaa", sum := "679b60c7ca2286328f0a77a98e88901986540f87cfb45b51c85d6fc9f6e8234a", func := "cabstand/cabstandlaw09.WindowPlays", spec := "windowPlays", inPlace := ["math.Float64bits", "math.Float64frombits"], apart := false, narrowed := true }
def WindowPlaysUptoSaid : Prop := windowPlaysUptoRow.holds Try.pinned (OpenSpec.upto windowPlaysSpec)

/-- 'cabstandlaw09.WindowCounts', WHERE WHAT IT READS IS OF BULK AT MOST 1048576: true; the input reads as it did. -/
def windowCountsUptoRow : OpenClaim := { program := "ythcjkdmlaahpbaa", sum := "679b60c7ca2286328f0a77a98e88901986540f87cfb45b51c85d6fc9f6e8234a", func := "cabstand/cabstandlaw09.WindowCounts", spec := "windowCounts", inPlace := ["math.Float64bits", "math.Float64frombits"], apart := false, narrowed := true }
def WindowCountsUptoSaid : Prop := windowCountsUptoRow.holds Try.pinned (OpenSpec.upto windowCountsSpec)

/-- 'cabstandlaw09.WindowNone', WHERE WHAT IT READS IS OF BULK AT MOST 1048576: true; the input reads as it did. -/
def windowNoneUptoRow : OpenClaim := { program := "ythcjkdmlaahpbaa", sum := "679b60c7ca2286328f0a77a98e88901986540f87cfb45b51c85d6fc9f6e8234a", func := "cabstand/cabstandlaw09.WindowNone", spec := "windowNone", inPlace := ["math.Float64bits", "math.Float64frombits"], apart := false, narrowed := true }
def WindowNoneUptoSaid : Prop := windowNoneUptoRow.holds Try.pinned (OpenSpec.upto windowNoneSpec)

end Rows
end Go.Proofs.Ythcjkdmlaahpbaa
