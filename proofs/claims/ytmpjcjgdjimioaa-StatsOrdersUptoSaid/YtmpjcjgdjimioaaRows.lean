/-
  No cell of these rows narrows 'for every input' (looked for: loops, veiled, ifaces, maps, wideKeys, modest, calm, conditions, laid).
  DERIVED. THE GIVEN ROWS OF THIS SEAT. 8 by the template 'for every input the law returns true; each argument reads behind the call as it read before'; 0 by the template 'total and deterministic' (their statements: YtmpjcjgdjimioaaTotals.lean).
  GIVEN WITH THE SEED: the statements are not yours to turn. If you find one false, say at which input.
  Laid BY PROGRAM, IN A SANDBOX (cutbox-rows.mjs): the forced cells as the released guide's own fill.sh prints them over the translation a4d4eace14a48602… (all of the seat's roots in one cut). By AI agents, Wed Nov 11 2026. No macro, syntax, notation, axiom, sorry.
-/
import Derived.Test.YtmpjcjgdjimioaaChecked
import GoSem.Claim
import GoSem.ClaimJoined
import GoSem.ClaimMapViews
import Derived.JoinedTies
import Derived.KernelRfl
namespace Go.Proofs.Ytmpjcjgdjimioaa
/- THE CELL 'sum', in the pinned program and in every row, IS THE sha256 OF THE DUMP (.gsa) THAT YtmpjcjgdjimioaaProg.lean LOADS. Nothing in Lean hashes anything: it is a label: what it is worth is what the hold of that sum in a sandbox is worth. -/
noncomputable def Try.pinned : Pinned := { name := "ytmpjcjgdjimioaa", sum := "a4d4eace14a48602911d6840fc12422d13ec7e10042337c7f8d5c45e2416db2e", checked := Try.checked }
namespace Rows
def none {H : Type} : Left H := { results := [], args := [] }

/-- 'cabstandlaw29.StatsBetween': WHATEVER THE INPUT: true; the input reads as it did. -/
def statsBetweenSpec : ChangeSpec := { name := "statsBetween", fn := fun _ => fun
  | [d] => { results := [.lit (.bool true)], args := [d] }
  | _ => none }
def statsBetweenRow : OpenClaim := { program := "ytmpjcjgdjimioaa", sum := "a4d4eace14a48602911d6840fc12422d13ec7e10042337c7f8d5c45e2416db2e", func := "cabstand/cabstandlaw29.StatsBetween", spec := "statsBetween", inPlace := ["math/bits.Add64"], unfollowed := true, recurses := true, apart := false }
def StatsBetweenSaid : Prop := statsBetweenRow.holds Try.pinned (OpenSpec.ofChange statsBetweenSpec)

/-- ITS FALSE NEIGHBOUR: 'it returns false'. Refute it at one input. -/
def statsBetweenWrong : ChangeSpec := { name := "statsBetween", fn := fun _ => fun
  | [d] => { results := [.lit (.bool false)], args := [d] }
  | _ => none }
def StatsBetweenWrongFalsely : Prop := statsBetweenRow.holds Try.pinned (OpenSpec.ofChange statsBetweenWrong)

/-- 'cabstandlaw29.StatsOf': WHATEVER THE INPUT: true; the input reads as it did. -/
def statsOfSpec : ChangeSpec := { name := "statsOf", fn := fun _ => fun
  | [d] => { results := [.lit (.bool true)], args := [d] }
  | _ => none }
def statsOfRow : OpenClaim := { program := "ytmpjcjgdjimioaa", sum := "a4d4eace14a48602911d6840fc12422d13ec7e10042337c7f8d5c45e2416db2e", func := "cabstand/cabstandlaw29.StatsOf", spec := "statsOf", inPlace := ["math/bits.Add64", "math.Float64bits"], unfollowed := true, recurses := true, apart := false }
def StatsOfSaid : Prop := statsOfRow.holds Try.pinned (OpenSpec.ofChange statsOfSpec)

/-- ITS FALSE NEIGHBOUR: 'it returns false'. Refute it at one input. -/
def statsOfWrong : ChangeSpec := { name := "statsOf", fn := fun _ => fun
  | [d] => { results := [.lit (.bool false)], args := [d] }
  | _ => none }
def StatsOfWrongFalsely : Prop := statsOfRow.holds Try.pinned (OpenSpec.ofChange statsOfWrong)

/-- 'cabstandlaw29.StatsQuantiles': WHATEVER THE INPUT: true; the input reads as it did. -/
def statsQuantilesSpec : ChangeSpec := { name := "statsQuantiles", fn := fun _ => fun
  | [d1, d2] => { results := [.lit (.bool true)], args := [d1, d2] }
  | _ => none }
def statsQuantilesRow : OpenClaim := { program := "ytmpjcjgdjimioaa", sum := "a4d4eace14a48602911d6840fc12422d13ec7e10042337c7f8d5c45e2416db2e", func := "cabstand/cabstandlaw29.StatsQuantiles", spec := "statsQuantiles", inPlace := ["math.Float64frombits", "math/bits.Add64"], unfollowed := true, recurses := true, apart := false }
def StatsQuantilesSaid : Prop := statsQuantilesRow.holds Try.pinned (OpenSpec.ofChange statsQuantilesSpec)

/-- ITS FALSE NEIGHBOUR: 'it returns false'. Refute it at one input. -/
def statsQuantilesWrong : ChangeSpec := { name := "statsQuantiles", fn := fun _ => fun
  | [d1, d2] => { results := [.lit (.bool false)], args := [d1, d2] }
  | _ => none }
def StatsQuantilesWrongFalsely : Prop := statsQuantilesRow.holds Try.pinned (OpenSpec.ofChange statsQuantilesWrong)

/-- 'cabstandlaw29.StatsSteps': WHATEVER THE INPUT: true; the input reads as it did. -/
def statsStepsSpec : ChangeSpec := { name := "statsSteps", fn := fun _ => fun
  | [d1, d2, d3] => { results := [.lit (.bool true)], args := [d1, d2, d3] }
  | _ => none }
def statsStepsRow : OpenClaim := { program := "ytmpjcjgdjimioaa", sum := "a4d4eace14a48602911d6840fc12422d13ec7e10042337c7f8d5c45e2416db2e", func := "cabstand/cabstandlaw29.StatsSteps", spec := "statsSteps", inPlace := ["math.Float64frombits", "math/bits.Add64"], unfollowed := true, recurses := true, apart := false }
def StatsStepsSaid : Prop := statsStepsRow.holds Try.pinned (OpenSpec.ofChange statsStepsSpec)

/-- ITS FALSE NEIGHBOUR: 'it returns false'. Refute it at one input. -/
def statsStepsWrong : ChangeSpec := { name := "statsSteps", fn := fun _ => fun
  | [d1, d2, d3] => { results := [.lit (.bool false)], args := [d1, d2, d3] }
  | _ => none }
def StatsStepsWrongFalsely : Prop := statsStepsRow.holds Try.pinned (OpenSpec.ofChange statsStepsWrong)

/-- 'cabstandlaw29.StatsOrders': WHATEVER THE INPUT: true; the input reads as it did. -/
def statsOrdersSpec : ChangeSpec := { name := "statsOrders", fn := fun _ => fun
  | [d1, d2, d3, d4] => { results := [.lit (.bool true)], args := [d1, d2, d3, d4] }
  | _ => none }
def statsOrdersRow : OpenClaim := { program := "ytmpjcjgdjimioaa", sum := "a4d4eace14a48602911d6840fc12422d13ec7e10042337c7f8d5c45e2416db2e", func := "cabstand/cabstandlaw29.StatsOrders", spec := "statsOrders", inPlace := ["math.Float64frombits", "math/bits.Add64"], unfollowed := true, recurses := true, apart := false }
def StatsOrdersSaid : Prop := statsOrdersRow.holds Try.pinned (OpenSpec.ofChange statsOrdersSpec)

/-- ITS FALSE NEIGHBOUR: 'it returns false'. Refute it at one input. -/
def statsOrdersWrong : ChangeSpec := { name := "statsOrders", fn := fun _ => fun
  | [d1, d2, d3, d4] => { results := [.lit (.bool false)], args := [d1, d2, d3, d4] }
  | _ => none }
def StatsOrdersWrongFalsely : Prop := statsOrdersRow.holds Try.pinned (OpenSpec.ofChange statsOrdersWrong)

/-- 'cabstandlaw29.StatsJoins': WHATEVER THE INPUT: true; the input reads as it did. -/
def statsJoinsSpec : ChangeSpec := { name := "statsJoins", fn := fun _ => fun
  | [d1, d2] => { results := [.lit (.bool true)], args := [d1, d2] }
  | _ => none }
def statsJoinsRow : OpenClaim := { program := "ytmpjcjgdjimioaa", sum := "a4d4eace14a48602911d6840fc12422d13ec7e10042337c7f8d5c45e2416db2e", func := "cabstand/cabstandlaw29.StatsJoins", spec := "statsJoins", inPlace := ["math.Float64frombits", "math.Float64bits", "math/bits.Add64"], unfollowed := true, recurses := true, apart := false }
def StatsJoinsSaid : Prop := statsJoinsRow.holds Try.pinned (OpenSpec.ofChange statsJoinsSpec)

/-- ITS FALSE NEIGHBOUR: 'it returns false'. Refute it at one input. -/
def statsJoinsWrong : ChangeSpec := { name := "statsJoins", fn := fun _ => fun
  | [d1, d2] => { results := [.lit (.bool false)], args := [d1, d2] }
  | _ => none }
def StatsJoinsWrongFalsely : Prop := statsJoinsRow.holds Try.pinned (OpenSpec.ofChange statsJoinsWrong)

/-- 'cabstandlaw29.StatsSymmetric': WHATEVER THE INPUT: true; the input reads as it did. -/
def statsSymmetricSpec : ChangeSpec := { name := "statsSymmetric", fn := fun _ => fun
  | [d1, d2] => { results := [.lit (.bool true)], args := [d1, d2] }
  | _ => none }
def statsSymmetricRow : OpenClaim := { program := "ytmpjcjgdjimioaa", sum := "a4d4eace14a48602911d6840fc12422d13ec7e10042337c7f8d5c45e2416db2e", func := "cabstand/cabstandlaw29.StatsSymmetric", spec := "statsSymmetric", inPlace := ["math.Float64frombits", "math.Float64bits", "math/bits.Add64"], unfollowed := true, recurses := true, apart := false }
def StatsSymmetricSaid : Prop := statsSymmetricRow.holds Try.pinned (OpenSpec.ofChange statsSymmetricSpec)

/-- ITS FALSE NEIGHBOUR: 'it returns false'. Refute it at one input. -/
def statsSymmetricWrong : ChangeSpec := { name := "statsSymmetric", fn := fun _ => fun
  | [d1, d2] => { results := [.lit (.bool false)], args := [d1, d2] }
  | _ => none }
def StatsSymmetricWrongFalsely : Prop := statsSymmetricRow.holds Try.pinned (OpenSpec.ofChange statsSymmetricWrong)

/-- 'cabstandlaw29.StatsNames': WHATEVER THE INPUT: true; the input reads as it did. -/
def statsNamesSpec : ChangeSpec := { name := "statsNames", fn := fun _ => fun
  | [] => { results := [.lit (.bool true)], args := [] }
  | _ => none }
def statsNamesRow : OpenClaim := { program := "ytmpjcjgdjimioaa", sum := "a4d4eace14a48602911d6840fc12422d13ec7e10042337c7f8d5c45e2416db2e", func := "cabstand/cabstandlaw29.StatsNames", spec := "statsNames", inPlace := ["math/bits.Add64", "math.Float64bits", "math.Float64frombits"], unfollowed := true, recurses := true, apart := false }
def StatsNamesSaid : Prop := statsNamesRow.holds Try.pinned (OpenSpec.ofChange statsNamesSpec)

/-- ITS FALSE NEIGHBOUR: 'it returns false'. Refute it at one input. -/
def statsNamesWrong : ChangeSpec := { name := "statsNames", fn := fun _ => fun
  | [] => { results := [.lit (.bool false)], args := [] }
  | _ => none }
def StatsNamesWrongFalsely : Prop := statsNamesRow.holds Try.pinned (OpenSpec.ofChange statsNamesWrong)

/- THE SECOND FORM. 'bulk': how many values and letters a reading holds, each counted each time it is reached (what is shared counts as often as it is met; a slice's spare places count too). A statement '..UptoSaid' is the law's where the arguments, and the package variables that the reading takes, are together of bulk at most 1048576: NARROWER than '..Said'. Prove '..Said' where nothing that the law and all that it calls make is longer than what came in: it says more and counts as full. Else prove '..UptoSaid'. A law counts once. -/
mutual
def uptoBulk {H : Type} : DataW H → Nat
  | .lit (.string bytes) => bytes.length + 1
  | .lit _ => 1
  | .nil => 1
  | .ptr d => uptoBulk d + 1
  | .slice elems spare => uptoBulkAll elems + uptoBulkAll spare + 1
  | .agg parts => uptoBulkAll parts + 1
  | .iface _ d => uptoBulk d + 1
  | .map entries => uptoBulkEntries entries + 1
  | .held _ => 1
def uptoBulkAll {H : Type} : List (DataW H) → Nat
  | [] => 0
  | d :: r => uptoBulk d + uptoBulkAll r
def uptoBulkEntries {H : Type} : List (Lit × DataW H) → Nat
  | [] => 0
  | x :: r => uptoBulkEntry x + uptoBulkEntries r
def uptoBulkEntry {H : Type} : Lit × DataW H → Nat
  | (.string bytes, d) => bytes.length + uptoBulk d + 1
  | (_, d) => uptoBulk d + 1
 end
def uptoSmall : (H : Type) → List (DataW H) → Bool := fun _ ds => decide (uptoBulkAll ds ≤ 1048576)
def OpenSpec.upto (s : _root_.Go.ChangeSpec) : _root_.Go.OpenSpec := { _root_.Go.OpenSpec.ofChange s with cond := some uptoSmall }

/-- 'cabstandlaw29.StatsBetween', WHERE WHAT IT READS IS OF BULK AT MOST 1048576: true; the input reads as it did. -/
def statsBetweenUptoRow : OpenClaim := { program := "ytmpjcjgdjimioaa", sum := "a4d4eace14a48602911d6840fc12422d13ec7e10042337c7f8d5c45e2416db2e", func := "cabstand/cabstandlaw29.StatsBetween", spec := "statsBetween", inPlace := ["math/bits.Add64"], unfollowed := true, recurses := true, apart := false, narrowed := true }
def StatsBetweenUptoSaid : Prop := statsBetweenUptoRow.holds Try.pinned (OpenSpec.upto statsBetweenSpec)

/-- 'cabstandlaw29.StatsOf', WHERE WHAT IT READS IS OF BULK AT MOST 1048576: true; the input reads as it did. -/
def statsOfUptoRow : OpenClaim := { program := "ytmpjcjgdjimioaa", sum := "a4d4eace14a48602911d6840fc12422d13ec7e10042337c7f8d5c45e2416db2e", func := "cabstand/cabstandlaw29.StatsOf", spec := "statsOf", inPlace := ["math/bits.Add64", "math.Float64bits"], unfollowed := true, recurses := true, apart := false, narrowed := true }
def StatsOfUptoSaid : Prop := statsOfUptoRow.holds Try.pinned (OpenSpec.upto statsOfSpec)

/-- 'cabstandlaw29.StatsQuantiles', WHERE WHAT IT READS IS OF BULK AT MOST 1048576: true; the input reads as it did. -/
def statsQuantilesUptoRow : OpenClaim := { program := "ytmpjcjgdjimioaa", sum := "a4d4eace14a48602911d6840fc12422d13ec7e10042337c7f8d5c45e2416db2e", func := "cabstand/cabstandlaw29.StatsQuantiles", spec := "statsQuantiles", inPlace := ["math.Float64frombits", "math/bits.Add64"], unfollowed := true, recurses := true, apart := false, narrowed := true }
def StatsQuantilesUptoSaid : Prop := statsQuantilesUptoRow.holds Try.pinned (OpenSpec.upto statsQuantilesSpec)

/-- 'cabstandlaw29.StatsSteps', WHERE WHAT IT READS IS OF BULK AT MOST 1048576: true; the input reads as it did. -/
def statsStepsUptoRow : OpenClaim := { program := "ytmpjcjgdjimioaa", sum := "a4d4eace14a48602911d6840fc12422d13ec7e10042337c7f8d5c45e2416db2e", func := "cabstand/cabstandlaw29.StatsSteps", spec := "statsSteps", inPlace := ["math.Float64frombits", "math/bits.Add64"], unfollowed := true, recurses := true, apart := false, narrowed := true }
def StatsStepsUptoSaid : Prop := statsStepsUptoRow.holds Try.pinned (OpenSpec.upto statsStepsSpec)

/-- 'cabstandlaw29.StatsOrders', WHERE WHAT IT READS IS OF BULK AT MOST 1048576: true; the input reads as it did. -/
def statsOrdersUptoRow : OpenClaim := { program := "ytmpjcjgdjimioaa", sum := "a4d4eace14a48602911d6840fc12422d13ec7e10042337c7f8d5c45e2416db2e", func := "cabstand/cabstandlaw29.StatsOrders", spec := "statsOrders", inPlace := ["math.Float64frombits", "math/bits.Add64"], unfollowed := true, recurses := true, apart := false, narrowed := true }
def StatsOrdersUptoSaid : Prop := statsOrdersUptoRow.holds Try.pinned (OpenSpec.upto statsOrdersSpec)

/-- 'cabstandlaw29.StatsJoins', WHERE WHAT IT READS IS OF BULK AT MOST 1048576: true; the input reads as it did. -/
def statsJoinsUptoRow : OpenClaim := { program := "ytmpjcjgdjimioaa", sum := "a4d4eace14a48602911d6840fc12422d13ec7e10042337c7f8d5c45e2416db2e", func := "cabstand/cabstandlaw29.StatsJoins", spec := "statsJoins", inPlace := ["math.Float64frombits", "math.Float64bits", "math/bits.Add64"], unfollowed := true, recurses := true, apart := false, narrowed := true }
def StatsJoinsUptoSaid : Prop := statsJoinsUptoRow.holds Try.pinned (OpenSpec.upto statsJoinsSpec)

/-- 'cabstandlaw29.StatsSymmetric', WHERE WHAT IT READS IS OF BULK AT MOST 1048576: true; the input reads as it did. -/
def statsSymmetricUptoRow : OpenClaim := { program := "ytmpjcjgdjimioaa", sum := "a4d4eace14a48602911d6840fc12422d13ec7e10042337c7f8d5c45e2416db2e", func := "cabstand/cabstandlaw29.StatsSymmetric", spec := "statsSymmetric", inPlace := ["math.Float64frombits", "math.Float64bits", "math/bits.Add64"], unfollowed := true, recurses := true, apart := false, narrowed := true }
def StatsSymmetricUptoSaid : Prop := statsSymmetricUptoRow.holds Try.pinned (OpenSpec.upto statsSymmetricSpec)

/-- 'cabstandlaw29.StatsNames', WHERE WHAT IT READS IS OF BULK AT MOST 1048576: true; the input reads as it did. -/
def statsNamesUptoRow : OpenClaim := { program := "ytmpjcjgdjimioaa", sum := "a4d4eace14a48602911d6840fc12422d13ec7e10042337c7f8d5c45e2416db2e", func := "cabstand/cabstandlaw29.StatsNames", spec := "statsNames", inPlace := ["math/bits.Add64", "math.Float64bits", "math.Float64frombits"], unfollowed := true, recurses := true, apart := false, narrowed := true }
def StatsNamesUptoSaid : Prop := statsNamesUptoRow.holds Try.pinned (OpenSpec.upto statsNamesSpec)

end Rows
end Go.Proofs.Ytmpjcjgdjimioaa
