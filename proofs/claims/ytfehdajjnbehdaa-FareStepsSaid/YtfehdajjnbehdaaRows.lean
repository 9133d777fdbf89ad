/-
  No cell of these rows narrows 'for every input' (looked for: loops, veiled, ifaces, maps, wideKeys, modest, calm, conditions, laid).
  DERIVED. THE GIVEN ROWS OF THIS SEAT. 7 by the template 'for every input the law returns true; each argument reads behind the call as it read before'; 0 by the template 'total and deterministic' (their statements: YtfehdajjnbehdaaTotals.lean).
  GIVEN WITH THE SEED: the statements are not yours to turn. If you find one false, say at which input.
  Laid BY PROGRAM, IN A SANDBOX (cutbox-rows.mjs): the forced cells as the released guide's own fill.sh prints them over the translation 3722b89b70043dbd… (all of the seat's roots in one cut). By AI agents, Wed Nov 11 2026. No macro, syntax, notation, axiom, sorry.
-/
import Derived.Test.YtfehdajjnbehdaaChecked
import GoSem.Claim
import GoSem.ClaimJoined
import GoSem.ClaimMapViews
import Derived.JoinedTies
import Derived.KernelRfl
namespace Go.Proofs.Ytfehdajjnbehdaa
/- THE CELL 'sum', in the pinned program and in every row, IS THE sha256 OF THE DUMP (.gsa) THAT YtfehdajjnbehdaaProg.lean LOADS. Nothing in Lean hashes anything: it is a label: what it is worth is what the hold of that sum in a sandbox is worth. -/
noncomputable def Try.pinned : Pinned := { name := "ytfehdajjnbehdaa", sum := "3722b89b70043dbdf526575b914c0dc59e605c2e121cbbcaa319f22ed62ae461", checked := Try.checked }
namespace Rows
def none {H : Type} : Left H := { results := [], args := [] }

/-- 'cabstandlaw22.FareSurges': WHATEVER THE INPUT: true; the input reads as it did. -/
def fareSurgesSpec : ChangeSpec := { name := "fareSurges", fn := fun _ => fun
  | [d1, d2] => { results := [.lit (.bool true)], args := [d1, d2] }
  | _ => none }
def fareSurgesRow : OpenClaim := { program := "ytfehdajjnbehdaa", sum := "3722b89b70043dbdf526575b914c0dc59e605c2e121cbbcaa319f22ed62ae461", func := "cabstand/cabstandlaw22.FareSurges", spec := "fareSurges", apart := false }
def FareSurgesSaid : Prop := fareSurgesRow.holds Try.pinned (OpenSpec.ofChange fareSurgesSpec)

/-- ITS FALSE NEIGHBOUR: 'it returns false'. Refute it at one input. -/
def fareSurgesWrong : ChangeSpec := { name := "fareSurges", fn := fun _ => fun
  | [d1, d2] => { results := [.lit (.bool false)], args := [d1, d2] }
  | _ => none }
def FareSurgesWrongFalsely : Prop := fareSurgesRow.holds Try.pinned (OpenSpec.ofChange fareSurgesWrong)

/-- 'cabstandlaw22.FareRounds': WHATEVER THE INPUT: true; the input reads as it did. -/
def fareRoundsSpec : ChangeSpec := { name := "fareRounds", fn := fun _ => fun
  | [d] => { results := [.lit (.bool true)], args := [d] }
  | _ => none }
def fareRoundsRow : OpenClaim := { program := "ytfehdajjnbehdaa", sum := "3722b89b70043dbdf526575b914c0dc59e605c2e121cbbcaa319f22ed62ae461", func := "cabstand/cabstandlaw22.FareRounds", spec := "fareRounds", inPlace := ["math.Float64bits", "math.Float64frombits", "math.RoundToEven"], apart := false }
def FareRoundsSaid : Prop := fareRoundsRow.holds Try.pinned (OpenSpec.ofChange fareRoundsSpec)

/-- ITS FALSE NEIGHBOUR: 'it returns false'. Refute it at one input. -/
def fareRoundsWrong : ChangeSpec := { name := "fareRounds", fn := fun _ => fun
  | [d] => { results := [.lit (.bool false)], args := [d] }
  | _ => none }
def FareRoundsWrongFalsely : Prop := fareRoundsRow.holds Try.pinned (OpenSpec.ofChange fareRoundsWrong)

/-- 'cabstandlaw22.FarePrices': WHATEVER THE INPUT: true; the input reads as it did. -/
def farePricesSpec : ChangeSpec := { name := "farePrices", fn := fun _ => fun
  | [d1, d2] => { results := [.lit (.bool true)], args := [d1, d2] }
  | _ => none }
def farePricesRow : OpenClaim := { program := "ytfehdajjnbehdaa", sum := "3722b89b70043dbdf526575b914c0dc59e605c2e121cbbcaa319f22ed62ae461", func := "cabstand/cabstandlaw22.FarePrices", spec := "farePrices", inPlace := ["math/bits.Add64", "math.Float64bits", "math.Float64frombits", "math.RoundToEven"], apart := false }
def FarePricesSaid : Prop := farePricesRow.holds Try.pinned (OpenSpec.ofChange farePricesSpec)

/-- ITS FALSE NEIGHBOUR: 'it returns false'. Refute it at one input. -/
def farePricesWrong : ChangeSpec := { name := "farePrices", fn := fun _ => fun
  | [d1, d2] => { results := [.lit (.bool false)], args := [d1, d2] }
  | _ => none }
def FarePricesWrongFalsely : Prop := farePricesRow.holds Try.pinned (OpenSpec.ofChange farePricesWrong)

/-- 'cabstandlaw22.FareSteps': WHATEVER THE INPUT: true; the input reads as it did. -/
def fareStepsSpec : ChangeSpec := { name := "fareSteps", fn := fun _ => fun
  | [d] => { results := [.lit (.bool true)], args := [d] }
  | _ => none }
def fareStepsRow : OpenClaim := { program := "ytfehdajjnbehdaa", sum := "3722b89b70043dbdf526575b914c0dc59e605c2e121cbbcaa319f22ed62ae461", func := "cabstand/cabstandlaw22.FareSteps", spec := "fareSteps", inPlace := ["math/bits.Add64", "math.Float64bits", "math.Float64frombits", "math.RoundToEven"], apart := false }
def FareStepsSaid : Prop := fareStepsRow.holds Try.pinned (OpenSpec.ofChange fareStepsSpec)

/-- ITS FALSE NEIGHBOUR: 'it returns false'. Refute it at one input. -/
def fareStepsWrong : ChangeSpec := { name := "fareSteps", fn := fun _ => fun
  | [d] => { results := [.lit (.bool false)], args := [d] }
  | _ => none }
def FareStepsWrongFalsely : Prop := fareStepsRow.holds Try.pinned (OpenSpec.ofChange fareStepsWrong)

/-- 'cabstandlaw22.FareDear': WHATEVER THE INPUT: true; the input reads as it did. -/
def fareDearSpec : ChangeSpec := { name := "fareDear", fn := fun _ => fun
  | [d1, d2, d3] => { results := [.lit (.bool true)], args := [d1, d2, d3] }
  | _ => none }
def fareDearRow : OpenClaim := { program := "ytfehdajjnbehdaa", sum := "3722b89b70043dbdf526575b914c0dc59e605c2e121cbbcaa319f22ed62ae461", func := "cabstand/cabstandlaw22.FareDear", spec := "fareDear", inPlace := ["math/bits.Add64", "math.Float64bits", "math.Float64frombits", "math.RoundToEven"], apart := false }
def FareDearSaid : Prop := fareDearRow.holds Try.pinned (OpenSpec.ofChange fareDearSpec)

/-- ITS FALSE NEIGHBOUR: 'it returns false'. Refute it at one input. -/
def fareDearWrong : ChangeSpec := { name := "fareDear", fn := fun _ => fun
  | [d1, d2, d3] => { results := [.lit (.bool false)], args := [d1, d2, d3] }
  | _ => none }
def FareDearWrongFalsely : Prop := fareDearRow.holds Try.pinned (OpenSpec.ofChange fareDearWrong)

/-- 'cabstandlaw22.FareNear': WHATEVER THE INPUT: true; the input reads as it did. -/
def fareNearSpec : ChangeSpec := { name := "fareNear", fn := fun _ => fun
  | [d1, d2] => { results := [.lit (.bool true)], args := [d1, d2] }
  | _ => none }
def fareNearRow : OpenClaim := { program := "ytfehdajjnbehdaa", sum := "3722b89b70043dbdf526575b914c0dc59e605c2e121cbbcaa319f22ed62ae461", func := "cabstand/cabstandlaw22.FareNear", spec := "fareNear", inPlace := ["math.Float64bits", "math.Float64frombits", "math.RoundToEven", "math/bits.Add64"], apart := false }
def FareNearSaid : Prop := fareNearRow.holds Try.pinned (OpenSpec.ofChange fareNearSpec)

/-- ITS FALSE NEIGHBOUR: 'it returns false'. Refute it at one input. -/
def fareNearWrong : ChangeSpec := { name := "fareNear", fn := fun _ => fun
  | [d1, d2] => { results := [.lit (.bool false)], args := [d1, d2] }
  | _ => none }
def FareNearWrongFalsely : Prop := fareNearRow.holds Try.pinned (OpenSpec.ofChange fareNearWrong)

/-- 'cabstandlaw22.FareParts': WHATEVER THE INPUT: true; the input reads as it did. -/
def farePartsSpec : ChangeSpec := { name := "fareParts", fn := fun _ => fun
  | [d1, d2] => { results := [.lit (.bool true)], args := [d1, d2] }
  | _ => none }
def farePartsRow : OpenClaim := { program := "ytfehdajjnbehdaa", sum := "3722b89b70043dbdf526575b914c0dc59e605c2e121cbbcaa319f22ed62ae461", func := "cabstand/cabstandlaw22.FareParts", spec := "fareParts", inPlace := ["math/bits.Add64", "math.Float64bits", "math.Float64frombits", "math.RoundToEven"], apart := false }
def FarePartsSaid : Prop := farePartsRow.holds Try.pinned (OpenSpec.ofChange farePartsSpec)

/-- ITS FALSE NEIGHBOUR: 'it returns false'. Refute it at one input. -/
def farePartsWrong : ChangeSpec := { name := "fareParts", fn := fun _ => fun
  | [d1, d2] => { results := [.lit (.bool false)], args := [d1, d2] }
  | _ => none }
def FarePartsWrongFalsely : Prop := farePartsRow.holds Try.pinned (OpenSpec.ofChange farePartsWrong)

/- THE SECOND FORM. 'bulk': how many values and letters a reading holds, each counted each time it is reached (what is shared counts as often as it is met; a slice's spare places count too). A statement '..UptoSaid' is the law's where the arguments, and the package variables that the reading takes, are together of bulk at most 1048576: NARROWER than '..Said'. Prove '..Said' where nothing that the law and all that it calls make is longer than what came in: it says more and counts as full. Else prove '..UptoSaid'. A law counts once. -/
mutual
def uptoBulk {H : Type} : DataW H → Nat
  | .lit (.string bytes) => bytes.length + 1
  | .lit _ => 1
  | .nil => 1
  | .ptr d => uptoBulk d + 1
  | .slice elems spare => uptoBulkAll elems + uptoBulkAll spare + 1
  | .agg parts => uptoBulkAll parts + 1
  | .iface _ d => uptoBulk d + 1
  | .map entries => uptoBulkEntries entries + 1
  | .held _ => 1
def uptoBulkAll {H : Type} : List (DataW H) → Nat
  | [] => 0
  | d :: r => uptoBulk d + uptoBulkAll r
def uptoBulkEntries {H : Type} : List (Lit × DataW H) → Nat
  | [] => 0
  | x :: r => uptoBulkEntry x + uptoBulkEntries r
def uptoBulkEntry {H : Type} : Lit × DataW H → Nat
  | (.string bytes, d) => bytes.length + uptoBulk d + 1
  | (_, d) => uptoBulk d + 1
 end
def uptoSmall : (H : Type) → List (DataW H) → Bool := fun _ ds => decide (uptoBulkAll ds ≤ 1048576)
def OpenSpec.upto (s : _root_.Go.ChangeSpec) : _root_.Go.OpenSpec := { _root_.Go.OpenSpec.ofChange s with cond := some uptoSmall }

/-- 'cabstandlaw22.FareSurges', WHERE WHAT IT READS IS OF BULK AT MOST 1048576: true; the input reads as it did. -/
def fareSurgesUptoRow : OpenClaim := { program := "ytfehdajjnbehdaa", sum := "3722b89b70043dbdf526575b914c0dc59e605c2e121cbbcaa319f22ed62ae461", func := "cabstand/cabstandlaw22.FareSurges", spec := "fareSurges", apart := false, narrowed := true }
def FareSurgesUptoSaid : Prop := fareSurgesUptoRow.holds Try.pinned (OpenSpec.upto fareSurgesSpec)

/-- 'cabstandlaw22.FareRounds', WHERE WHAT IT READS IS OF BULK AT MOST 1048576: true; the input reads as it did. -/
def fareRoundsUptoRow : OpenClaim := { program := "ytfehdajjnbehdaa", sum := "3722b89b70043dbdf526575b914c0dc59e605c2e121cbbcaa319f22ed62ae461", func := "cabstand/cabstandlaw22.FareRounds", spec := "fareRounds", inPlace := ["math.Float64bits", "math.Float64frombits", "math.RoundToEven"], apart := false, narrowed := true }
def FareRoundsUptoSaid : Prop := fareRoundsUptoRow.holds Try.pinned (OpenSpec.upto fareRoundsSpec)

/-- 'cabstandlaw22.FarePrices', WHERE WHAT IT READS IS OF BULK AT MOST 1048576: true; the input reads as it did. -/
def farePricesUptoRow : OpenClaim := { program := "ytfehdajjnbehdaa", sum := "3722b89b70043dbdf526575b914c0dc59e605c2e121cbbcaa319f22ed62ae461", func := "cabstand/cabstandlaw22.FarePrices", spec := "farePrices", inPlace := ["math/bits.Add64", "math.Float64bits", "math.Float64frombits", "math.RoundToEven"], apart := false, narrowed := true }
def FarePricesUptoSaid : Prop := farePricesUptoRow.holds Try.pinned (OpenSpec.upto farePricesSpec)

/-- 'cabstandlaw22.FareSteps', WHERE WHAT IT READS IS OF BULK AT MOST 1048576: true; the input reads as it did. -/
def fareStepsUptoRow : OpenClaim := { program := "ytfehdajjnbehdaa", sum := "3722b89b70043dbdf526575b914c0dc59e605c2e121cbbcaa319f22ed62ae461", func := "cabstand/cabstandlaw22.FareSteps", spec := "fareSteps", inPlace := ["math/bits.Add64", "math.Float64bits", "math.Float64frombits", "math.RoundToEven"], apart := false, narrowed := true }
def FareStepsUptoSaid : Prop := fareStepsUptoRow.holds Try.pinned (OpenSpec.upto fareStepsSpec)

/-- 'cabstandlaw22.FareDear', WHERE WHAT IT READS IS OF BULK AT MOST 1048576: true; the input reads as it did. -/
def fareDearUptoRow : OpenClaim := { program := "ytfehdajjnbehdaa", sum := "3722b89b70043dbdf526575b914c0dc59e605c2e121cbbcaa319f22ed62ae461", func := "cabstand/cabstandlaw22.FareDear", spec := "fareDear", inPlace := ["math/bits.Add64", "math.Float64bits", "math.Float64frombits", "math.RoundToEven"], apart := false, narrowed := true }
def FareDearUptoSaid : Prop := fareDearUptoRow.holds Try.pinned (OpenSpec.upto fareDearSpec)

/-- 'cabstandlaw22.FareNear', WHERE WHAT IT READS IS OF BULK AT MOST 1048576: true; the input reads as it did. -/
def fareNearUptoRow : OpenClaim := { program := "ytfehdajjnbehdaa", sum := "3722b89b70043dbdf526575b914c0dc59e605c2e121cbbcaa319f22ed62ae461", func := "cabstand/cabstandlaw22.FareNear", spec := "fareNear", inPlace := ["math.Float64bits", "math.Float64frombits", "math.RoundToEven", "math/bits.Add64"], apart := false, narrowed := true }
def FareNearUptoSaid : Prop := fareNearUptoRow.holds Try.pinned (OpenSpec.upto fareNearSpec)

/-- 'cabstandlaw22.FareParts', WHERE WHAT IT READS IS OF BULK AT MOST 1048576: true; the input reads as it did. -/
def farePartsUptoRow : OpenClaim := { program := "ytfehdajjnbehdaa", sum := "3722b89b70043dbdf526575b914c0dc59e605c2e121cbbcaa319f22ed62ae461", func := "cabstand/cabstandlaw22.FareParts", spec := "fareParts", inPlace := ["math/bits.Add64", "math.Float64bits", "math.Float64frombits", "math.RoundToEven"], apart := false, narrowed := true }
def FarePartsUptoSaid : Prop := farePartsUptoRow.holds Try.pinned (OpenSpec.upto farePartsSpec)

end Rows
end Go.Proofs.Ytfehdajjnbehdaa
