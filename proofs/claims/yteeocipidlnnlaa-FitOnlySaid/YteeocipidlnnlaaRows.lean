/-
  No cell of these rows narrows 'for every input' (looked for: loops, veiled, ifaces, maps, wideKeys, modest, calm, conditions, laid).
  DERIVED. THE GIVEN ROWS OF THIS SEAT. 7 by the template 'for every input the law returns true; each argument reads behind the call as it read before'; 0 by the template 'total and deterministic' (their statements: YteeocipidlnnlaaTotals.lean).
  GIVEN WITH THE SEED: the statements are not yours to turn. If you find one false, say at which input.
  Laid BY PROGRAM, IN A SANDBOX (cutbox-rows.mjs): the forced cells as the released guide's own fill.sh prints them over the translation 668990e197bab6e0… (all of the seat's roots in one cut). By AI agents, Wed Nov 11 2026. No macro, syntax, notation, axiom, sorry.
-/
import Derived.Test.YteeocipidlnnlaaChecked
import GoSem.Claim
import GoSem.ClaimJoined
import GoSem.ClaimMapViews
import Derived.JoinedTies
import Derived.KernelRfl
namespace Go.Proofs.Yteeocipidlnnlaa
/- THE CELL 'sum', in the pinned program and in every row, IS THE sha256 OF THE DUMP (.gsa) THAT YteeocipidlnnlaaProg.lean LOADS. Nothing in Lean hashes anything: it is a label: what it is worth is what the hold of that sum in a sandbox is worth. -/
noncomputable def Try.pinned : Pinned := { name := "yteeocipidlnnlaa", sum := "668990e197bab6e082c1c30c683b19fd5df7a48c5707e3c0e28f2471f3c8f9b2", checked := Try.checked }
namespace Rows
def none {H : Type} : Left H := { results := [], args := [] }

/-- 'cabstandlaw13.FitReasons': WHATEVER THE INPUT: true; the input reads as it did. -/
def fitReasonsSpec : ChangeSpec := { name := "fitReasons", fn := fun _ => fun
  | [d1, d2] => { results := [.lit (.bool true)], args := [d1, d2] }
  | _ => none }
def fitReasonsRow : OpenClaim := { program := "yteeocipidlnnlaa", sum := "668990e197bab6e082c1c30c683b19fd5df7a48c5707e3c0e28f2471f3c8f9b2", func := "cabstand/cabstandlaw13.FitReasons", spec := "fitReasons", apart := false }
def FitReasonsSaid : Prop := fitReasonsRow.holds Try.pinned (OpenSpec.ofChange fitReasonsSpec)

/-- ITS FALSE NEIGHBOUR: 'it returns false'. Refute it at one input. -/
def fitReasonsWrong : ChangeSpec := { name := "fitReasons", fn := fun _ => fun
  | [d1, d2] => { results := [.lit (.bool false)], args := [d1, d2] }
  | _ => none }
def FitReasonsWrongFalsely : Prop := fitReasonsRow.holds Try.pinned (OpenSpec.ofChange fitReasonsWrong)

/-- 'cabstandlaw13.FitMays': WHATEVER THE INPUT: true; the input reads as it did. -/
def fitMaysSpec : ChangeSpec := { name := "fitMays", fn := fun _ => fun
  | [d1, d2, d3] => { results := [.lit (.bool true)], args := [d1, d2, d3] }
  | _ => none }
def fitMaysRow : OpenClaim := { program := "yteeocipidlnnlaa", sum := "668990e197bab6e082c1c30c683b19fd5df7a48c5707e3c0e28f2471f3c8f9b2", func := "cabstand/cabstandlaw13.FitMays", spec := "fitMays", apart := false }
def FitMaysSaid : Prop := fitMaysRow.holds Try.pinned (OpenSpec.ofChange fitMaysSpec)

/-- ITS FALSE NEIGHBOUR: 'it returns false'. Refute it at one input. -/
def fitMaysWrong : ChangeSpec := { name := "fitMays", fn := fun _ => fun
  | [d1, d2, d3] => { results := [.lit (.bool false)], args := [d1, d2, d3] }
  | _ => none }
def FitMaysWrongFalsely : Prop := fitMaysRow.holds Try.pinned (OpenSpec.ofChange fitMaysWrong)

/-- 'cabstandlaw13.FitGrows': WHATEVER THE INPUT: true; the input reads as it did. -/
def fitGrowsSpec : ChangeSpec := { name := "fitGrows", fn := fun _ => fun
  | [d1, d2, d3] => { results := [.lit (.bool true)], args := [d1, d2, d3] }
  | _ => none }
def fitGrowsRow : OpenClaim := { program := "yteeocipidlnnlaa", sum := "668990e197bab6e082c1c30c683b19fd5df7a48c5707e3c0e28f2471f3c8f9b2", func := "cabstand/cabstandlaw13.FitGrows", spec := "fitGrows", apart := false }
def FitGrowsSaid : Prop := fitGrowsRow.holds Try.pinned (OpenSpec.ofChange fitGrowsSpec)

/-- ITS FALSE NEIGHBOUR: 'it returns false'. Refute it at one input. -/
def fitGrowsWrong : ChangeSpec := { name := "fitGrows", fn := fun _ => fun
  | [d1, d2, d3] => { results := [.lit (.bool false)], args := [d1, d2, d3] }
  | _ => none }
def FitGrowsWrongFalsely : Prop := fitGrowsRow.holds Try.pinned (OpenSpec.ofChange fitGrowsWrong)

/-- 'cabstandlaw13.FitOnly': WHATEVER THE INPUT: true; the input reads as it did. -/
def fitOnlySpec : ChangeSpec := { name := "fitOnly", fn := fun _ => fun
  | [d1, d2, d3] => { results := [.lit (.bool true)], args := [d1, d2, d3] }
  | _ => none }
def fitOnlyRow : OpenClaim := { program := "yteeocipidlnnlaa", sum := "668990e197bab6e082c1c30c683b19fd5df7a48c5707e3c0e28f2471f3c8f9b2", func := "cabstand/cabstandlaw13.FitOnly", spec := "fitOnly", apart := false }
def FitOnlySaid : Prop := fitOnlyRow.holds Try.pinned (OpenSpec.ofChange fitOnlySpec)

/-- ITS FALSE NEIGHBOUR: 'it returns false'. Refute it at one input. -/
def fitOnlyWrong : ChangeSpec := { name := "fitOnly", fn := fun _ => fun
  | [d1, d2, d3] => { results := [.lit (.bool false)], args := [d1, d2, d3] }
  | _ => none }
def FitOnlyWrongFalsely : Prop := fitOnlyRow.holds Try.pinned (OpenSpec.ofChange fitOnlyWrong)

/-- 'cabstandlaw13.FitEach': WHATEVER THE INPUT: true; the input reads as it did. -/
def fitEachSpec : ChangeSpec := { name := "fitEach", fn := fun _ => fun
  | [d1, d2] => { results := [.lit (.bool true)], args := [d1, d2] }
  | _ => none }
def fitEachRow : OpenClaim := { program := "yteeocipidlnnlaa", sum := "668990e197bab6e082c1c30c683b19fd5df7a48c5707e3c0e28f2471f3c8f9b2", func := "cabstand/cabstandlaw13.FitEach", spec := "fitEach", apart := false }
def FitEachSaid : Prop := fitEachRow.holds Try.pinned (OpenSpec.ofChange fitEachSpec)

/-- ITS FALSE NEIGHBOUR: 'it returns false'. Refute it at one input. -/
def fitEachWrong : ChangeSpec := { name := "fitEach", fn := fun _ => fun
  | [d1, d2] => { results := [.lit (.bool false)], args := [d1, d2] }
  | _ => none }
def FitEachWrongFalsely : Prop := fitEachRow.holds Try.pinned (OpenSpec.ofChange fitEachWrong)

/-- 'cabstandlaw13.FitListed': WHATEVER THE INPUT: true; the input reads as it did. -/
def fitListedSpec : ChangeSpec := { name := "fitListed", fn := fun _ => fun
  | [d1, d2] => { results := [.lit (.bool true)], args := [d1, d2] }
  | _ => none }
def fitListedRow : OpenClaim := { program := "yteeocipidlnnlaa", sum := "668990e197bab6e082c1c30c683b19fd5df7a48c5707e3c0e28f2471f3c8f9b2", func := "cabstand/cabstandlaw13.FitListed", spec := "fitListed", apart := false }
def FitListedSaid : Prop := fitListedRow.holds Try.pinned (OpenSpec.ofChange fitListedSpec)

/-- ITS FALSE NEIGHBOUR: 'it returns false'. Refute it at one input. -/
def fitListedWrong : ChangeSpec := { name := "fitListed", fn := fun _ => fun
  | [d1, d2] => { results := [.lit (.bool false)], args := [d1, d2] }
  | _ => none }
def FitListedWrongFalsely : Prop := fitListedRow.holds Try.pinned (OpenSpec.ofChange fitListedWrong)

/-- 'cabstandlaw13.FitBounds': WHATEVER THE INPUT: true; the input reads as it did. -/
def fitBoundsSpec : ChangeSpec := { name := "fitBounds", fn := fun _ => fun
  | [d1, d2, d3] => { results := [.lit (.bool true)], args := [d1, d2, d3] }
  | _ => none }
def fitBoundsRow : OpenClaim := { program := "yteeocipidlnnlaa", sum := "668990e197bab6e082c1c30c683b19fd5df7a48c5707e3c0e28f2471f3c8f9b2", func := "cabstand/cabstandlaw13.FitBounds", spec := "fitBounds", apart := false }
def FitBoundsSaid : Prop := fitBoundsRow.holds Try.pinned (OpenSpec.ofChange fitBoundsSpec)

/-- ITS FALSE NEIGHBOUR: 'it returns false'. Refute it at one input. -/
def fitBoundsWrong : ChangeSpec := { name := "fitBounds", fn := fun _ => fun
  | [d1, d2, d3] => { results := [.lit (.bool false)], args := [d1, d2, d3] }
  | _ => none }
def FitBoundsWrongFalsely : Prop := fitBoundsRow.holds Try.pinned (OpenSpec.ofChange fitBoundsWrong)

/- THE SECOND FORM. 'bulk': how many values and letters a reading holds, each counted each time it is reached (what is shared counts as often as it is met; a slice's spare places count too). A statement '..UptoSaid' is the law's where the arguments, and the package variables that the reading takes, are together of bulk at most 1048576: NARROWER than '..Said'. Prove '..Said' where nothing that the law and all that it calls make is longer than what came in: it says more and counts as full. Else prove '..UptoSaid'. A law counts once. -/
mutual
def uptoBulk {H : Type} : DataW H → Nat
  | .lit (.string bytes) => bytes.length + 1
  | .lit _ => 1
  | .nil => 1
  | .ptr d => uptoBulk d + 1
  | .slice elems spare => uptoBulkAll elems + uptoBulkAll spare + 1
  | .agg parts => uptoBulkAll parts + 1
  | .iface _ d => uptoBulk d + 1
  | .map entries => uptoBulkEntries entries + 1
  | .held _ => 1
def uptoBulkAll {H : Type} : List (DataW H) → Nat
  | [] => 0
  | d :: r => uptoBulk d + uptoBulkAll r
def uptoBulkEntries {H : Type} : List (Lit × DataW H) → Nat
  | [] => 0
  | x :: r => uptoBulkEntry x + uptoBulkEntries r
def uptoBulkEntry {H : Type} : Lit × DataW H → Nat
  | (.string bytes, d) => bytes.length + uptoBulk d + 1
  | (_, d) => uptoBulk d + 1
 end
def uptoSmall : (H : Type) → List (DataW H) → Bool := fun _ ds => decide (uptoBulkAll ds ≤ 1048576)
def OpenSpec.upto (s : _root_.Go.ChangeSpec) : _root_.Go.OpenSpec := { _root_.Go.OpenSpec.ofChange s with cond := some uptoSmall }

/-- 'cabstandlaw13.FitReasons', WHERE WHAT IT READS IS OF BULK AT MOST 1048576: true; the input reads as it did. -/
def fitReasonsUptoRow : OpenClaim := { program := "yteeocipidlnnlaa", sum := "668990e197bab6e082c1c30c683b19fd5df7a48c5707e3c0e28f2471f3c8f9b2", func := "cabstand/cabstandlaw13.FitReasons", spec := "fitReasons", apart := false, narrowed := true }
def FitReasonsUptoSaid : Prop := fitReasonsUptoRow.holds Try.pinned (OpenSpec.upto fitReasonsSpec)

/-- 'cabstandlaw13.FitMays', WHERE WHAT IT READS IS OF BULK AT MOST 1048576: true; the input reads as it did. -/
def fitMaysUptoRow : OpenClaim := { program := "yteeocipidlnnlaa", sum := "668990e197bab6e082c1c30c683b19fd5df7a48c5707e3c0e28f2471f3c8f9b2", func := "cabstand/cabstandlaw13.FitMays", spec := "fitMays", apart := false, narrowed := true }
def FitMaysUptoSaid : Prop := fitMaysUptoRow.holds Try.pinned (OpenSpec.upto fitMaysSpec)

/-- 'cabstandlaw13.FitGrows', WHERE WHAT IT READS IS OF BULK AT MOST 1048576: true; the input reads as it did. -/
def fitGrowsUptoRow : OpenClaim := { program := "yteeocipidlnnlaa", sum := "668990e197bab6e082c1c30c683b19fd5df7a48c5707e3c0e28f2471f3c8f9b2", func := "cabstand/cabstandlaw13.FitGrows", spec := "fitGrows", apart := false, narrowed := true }
def FitGrowsUptoSaid : Prop := fitGrowsUptoRow.holds Try.pinned (OpenSpec.upto fitGrowsSpec)

/-- 'cabstandlaw13.FitOnly', WHERE WHAT IT READS IS OF BULK AT MOST 1048576: true; the input reads as it did. -/
def fitOnlyUptoRow : OpenClaim := { program := "yteeocipidlnnlaa", sum := "668990e197bab6e082c1c30c683b19fd5df7a48c5707e3c0e28f2471f3c8f9b2", func := "cabstand/cabstandlaw13.FitOnly", spec := "fitOnly", apart := false, narrowed := true }
def FitOnlyUptoSaid : Prop := fitOnlyUptoRow.holds Try.pinned (OpenSpec.upto fitOnlySpec)

/-- 'cabstandlaw13.FitEach', WHERE WHAT IT READS IS OF BULK AT MOST 1048576: true; the input reads as it did. -/
def fitEachUptoRow : OpenClaim := { program := "yteeocipidlnnlaa", sum := "668990e197bab6e082c1c30c683b19fd5df7a48c5707e3c0e28f2471f3c8f9b2", func := "cabstand/cabstandlaw13.FitEach", spec := "fitEach", apart := false, narrowed := true }
def FitEachUptoSaid : Prop := fitEachUptoRow.holds Try.pinned (OpenSpec.upto fitEachSpec)

/-- 'cabstandlaw13.FitListed', WHERE WHAT IT READS IS OF BULK AT MOST 1048576: true; the input reads as it did. -/
def fitListedUptoRow : OpenClaim := { program := "yteeocipidlnnlaa", sum := "668990e197bab6e082c1c30c683b19fd5df7a48c5707e3c0e28f2471f3c8f9b2", func := "cabstand/cabstandlaw13.FitListed", spec := "fitListed", apart := false, narrowed := true }
def FitListedUptoSaid : Prop := fitListedUptoRow.holds Try.pinned (OpenSpec.upto fitListedSpec)

/-- 'cabstandlaw13.FitBounds', WHERE WHAT IT READS IS OF BULK AT MOST 1048576: true; the input reads as it did. -/
def fitBoundsUptoRow : OpenClaim := { program := "yteeocipidlnnlaa", sum := "668990e197bab6e082c1c30c683b19fd5df7a48c5707e3c0e28f2471f3c8f9b2", func := "cabstand/cabstandlaw13.FitBounds", spec := "fitBounds", apart := false, narrowed := true }
def FitBoundsUptoSaid : Prop := fitBoundsUptoRow.holds Try.pinned (OpenSpec.upto fitBoundsSpec)

end Rows
end Go.Proofs.Yteeocipidlnnlaa
