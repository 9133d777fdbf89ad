/-
  No cell of these rows narrows 'for every input' (looked for: loops, veiled, ifaces, maps, wideKeys, modest, calm, conditions, laid).
  DERIVED. THE GIVEN ROWS OF THIS SEAT. 7 by the template 'for every input the law returns true; each argument reads behind the call as it read before'; 0 by the template 'total and deterministic' (their statements: YtdfjbghmeoephabTotals.lean).
  GIVEN WITH THE SEED: the statements are not yours to turn. If you find one false, say at which input.
  Laid BY PROGRAM, IN A SANDBOX (cutbox-rows.mjs): the forced cells as the released guide's own fill.sh prints them over the translation 34ac6d3ccbd47cee… (all of the seat's roots in one cut). By AI agents, Wed Nov 11 2026. No macro, syntax, notation, axiom, sorry.
-/
import Derived.Test.YtdfjbghmeoephabChecked
import GoSem.Claim
import GoSem.ClaimJoined
import GoSem.ClaimMapViews
import Derived.JoinedTies
import Derived.KernelRfl
namespace Go.Proofs.Ytdfjbghmeoephab
/- THE CELL 'sum', in the pinned program and in every row, IS THE sha256 OF THE DUMP (.gsa) THAT YtdfjbghmeoephabProg.lean LOADS. Nothing in Lean hashes anything: it is a label: what it is worth is what the hold of that sum in a sandbox is worth. -/
noncomputable def Try.pinned : Pinned := { name := "ytdfjbghmeoephab", sum := "34ac6d3ccbd47cee0465b1fc4161416adb905b2e6e203b4e5773daa1981d8887", checked := Try.checked }
namespace Rows
def none {H : Type} : Left H := { results := [], args := [] }

/-- 'cabstandlaw01.NumProducts': WHATEVER THE INPUT: true; the input reads as it did. -/
def numProductsSpec : ChangeSpec := { name := "numProducts", fn := fun _ => fun
  | [d1, d2] => { results := [.lit (.bool true)], args := [d1, d2] }
  | _ => none }
def numProductsRow : OpenClaim := { program := "ytdfjbghmeoephab", sum := "34ac6d3ccbd47cee0465b1fc4161416adb905b2e6e203b4e5773daa1981d8887", func := "cabstand/cabstandlaw01.NumProducts", spec := "numProducts", apart := false }
def NumProductsSaid : Prop := numProductsRow.holds Try.pinned (OpenSpec.ofChange numProductsSpec)

/-- ITS FALSE NEIGHBOUR: 'it returns false'. Refute it at one input. -/
def numProductsWrong : ChangeSpec := { name := "numProducts", fn := fun _ => fun
  | [d1, d2] => { results := [.lit (.bool false)], args := [d1, d2] }
  | _ => none }
def NumProductsWrongFalsely : Prop := numProductsRow.holds Try.pinned (OpenSpec.ofChange numProductsWrong)

/-- 'cabstandlaw01.NumRoots': WHATEVER THE INPUT: true; the input reads as it did. -/
def numRootsSpec : ChangeSpec := { name := "numRoots", fn := fun _ => fun
  | [d] => { results := [.lit (.bool true)], args := [d] }
  | _ => none }
def numRootsRow : OpenClaim := { program := "ytdfjbghmeoephab", sum := "34ac6d3ccbd47cee0465b1fc4161416adb905b2e6e203b4e5773daa1981d8887", func := "cabstand/cabstandlaw01.NumRoots", spec := "numRoots", apart := false }
def NumRootsSaid : Prop := numRootsRow.holds Try.pinned (OpenSpec.ofChange numRootsSpec)

/-- ITS FALSE NEIGHBOUR: 'it returns false'. Refute it at one input. -/
def numRootsWrong : ChangeSpec := { name := "numRoots", fn := fun _ => fun
  | [d] => { results := [.lit (.bool false)], args := [d] }
  | _ => none }
def NumRootsWrongFalsely : Prop := numRootsRow.holds Try.pinned (OpenSpec.ofChange numRootsWrong)

/-- 'cabstandlaw01.NumRing': WHATEVER THE INPUT: true; the input reads as it did. -/
def numRingSpec : ChangeSpec := { name := "numRing", fn := fun _ => fun
  | [d1, d2, d3] => { results := [.lit (.bool true)], args := [d1, d2, d3] }
  | _ => none }
def numRingRow : OpenClaim := { program := "ytdfjbghmeoephab", sum := "34ac6d3ccbd47cee0465b1fc4161416adb905b2e6e203b4e5773daa1981d8887", func := "cabstand/cabstandlaw01.NumRing", spec := "numRing", inPlace := ["math/bits.Add64"], apart := false }
def NumRingSaid : Prop := numRingRow.holds Try.pinned (OpenSpec.ofChange numRingSpec)

/-- ITS FALSE NEIGHBOUR: 'it returns false'. Refute it at one input. -/
def numRingWrong : ChangeSpec := { name := "numRing", fn := fun _ => fun
  | [d1, d2, d3] => { results := [.lit (.bool false)], args := [d1, d2, d3] }
  | _ => none }
def NumRingWrongFalsely : Prop := numRingRow.holds Try.pinned (OpenSpec.ofChange numRingWrong)

/-- 'cabstandlaw01.NumOrder': WHATEVER THE INPUT: true; the input reads as it did. -/
def numOrderSpec : ChangeSpec := { name := "numOrder", fn := fun _ => fun
  | [d1, d2] => { results := [.lit (.bool true)], args := [d1, d2] }
  | _ => none }
def numOrderRow : OpenClaim := { program := "ytdfjbghmeoephab", sum := "34ac6d3ccbd47cee0465b1fc4161416adb905b2e6e203b4e5773daa1981d8887", func := "cabstand/cabstandlaw01.NumOrder", spec := "numOrder", inPlace := ["math/bits.Add64"], apart := false }
def NumOrderSaid : Prop := numOrderRow.holds Try.pinned (OpenSpec.ofChange numOrderSpec)

/-- ITS FALSE NEIGHBOUR: 'it returns false'. Refute it at one input. -/
def numOrderWrong : ChangeSpec := { name := "numOrder", fn := fun _ => fun
  | [d1, d2] => { results := [.lit (.bool false)], args := [d1, d2] }
  | _ => none }
def NumOrderWrongFalsely : Prop := numOrderRow.holds Try.pinned (OpenSpec.ofChange numOrderWrong)

/-- 'cabstandlaw01.NumParts': WHATEVER THE INPUT: true; the input reads as it did. -/
def numPartsSpec : ChangeSpec := { name := "numParts", fn := fun _ => fun
  | [d1, d2] => { results := [.lit (.bool true)], args := [d1, d2] }
  | _ => none }
def numPartsRow : OpenClaim := { program := "ytdfjbghmeoephab", sum := "34ac6d3ccbd47cee0465b1fc4161416adb905b2e6e203b4e5773daa1981d8887", func := "cabstand/cabstandlaw01.NumParts", spec := "numParts", inPlace := ["math/bits.Add64"], apart := false }
def NumPartsSaid : Prop := numPartsRow.holds Try.pinned (OpenSpec.ofChange numPartsSpec)

/-- ITS FALSE NEIGHBOUR: 'it returns false'. Refute it at one input. -/
def numPartsWrong : ChangeSpec := { name := "numParts", fn := fun _ => fun
  | [d1, d2] => { results := [.lit (.bool false)], args := [d1, d2] }
  | _ => none }
def NumPartsWrongFalsely : Prop := numPartsRow.holds Try.pinned (OpenSpec.ofChange numPartsWrong)

/-- 'cabstandlaw01.NumSquares': WHATEVER THE INPUT: true; the input reads as it did. -/
def numSquaresSpec : ChangeSpec := { name := "numSquares", fn := fun _ => fun
  | [d] => { results := [.lit (.bool true)], args := [d] }
  | _ => none }
def numSquaresRow : OpenClaim := { program := "ytdfjbghmeoephab", sum := "34ac6d3ccbd47cee0465b1fc4161416adb905b2e6e203b4e5773daa1981d8887", func := "cabstand/cabstandlaw01.NumSquares", spec := "numSquares", inPlace := ["math/bits.Add64"], apart := false }
def NumSquaresSaid : Prop := numSquaresRow.holds Try.pinned (OpenSpec.ofChange numSquaresSpec)

/-- ITS FALSE NEIGHBOUR: 'it returns false'. Refute it at one input. -/
def numSquaresWrong : ChangeSpec := { name := "numSquares", fn := fun _ => fun
  | [d] => { results := [.lit (.bool false)], args := [d] }
  | _ => none }
def NumSquaresWrongFalsely : Prop := numSquaresRow.holds Try.pinned (OpenSpec.ofChange numSquaresWrong)

/-- 'cabstandlaw01.NumSame': WHATEVER THE INPUT: true; the input reads as it did. -/
def numSameSpec : ChangeSpec := { name := "numSame", fn := fun _ => fun
  | [d1, d2, d3] => { results := [.lit (.bool true)], args := [d1, d2, d3] }
  | _ => none }
def numSameRow : OpenClaim := { program := "ytdfjbghmeoephab", sum := "34ac6d3ccbd47cee0465b1fc4161416adb905b2e6e203b4e5773daa1981d8887", func := "cabstand/cabstandlaw01.NumSame", spec := "numSame", inPlace := ["math/bits.Add64"], apart := false }
def NumSameSaid : Prop := numSameRow.holds Try.pinned (OpenSpec.ofChange numSameSpec)

/-- ITS FALSE NEIGHBOUR: 'it returns false'. Refute it at one input. -/
def numSameWrong : ChangeSpec := { name := "numSame", fn := fun _ => fun
  | [d1, d2, d3] => { results := [.lit (.bool false)], args := [d1, d2, d3] }
  | _ => none }
def NumSameWrongFalsely : Prop := numSameRow.holds Try.pinned (OpenSpec.ofChange numSameWrong)

/- THE SECOND FORM. 'bulk': how many values and letters a reading holds, each counted each time it is reached (what is shared counts as often as it is met; a slice's spare places count too). A statement '..UptoSaid' is the law's where the arguments, and the package variables that the reading takes, are together of bulk at most 1048576: NARROWER than '..Said'. Prove '..Said' where nothing that the law and all that it calls make is longer than what came in: it says more and counts as full. Else prove '..UptoSaid'. A law counts once. -/
mutual
def uptoBulk {H : Type} : DataW H → Nat
  | .lit (.string bytes) => bytes.length + 1
  | .lit _ => 1
  | .nil => 1
  | .ptr d => uptoBulk d + 1
  | .slice elems spare => uptoBulkAll elems + uptoBulkAll spare + 1
  | .agg parts => uptoBulkAll parts + 1
  | .iface _ d => uptoBulk d + 1
  | .map entries => uptoBulkEntries entries + 1
  | .held _ => 1
def uptoBulkAll {H : Type} : List (DataW H) → Nat
  | [] => 0
  | d :: r => uptoBulk d + uptoBulkAll r
def uptoBulkEntries {H : Type} : List (Lit × DataW H) → Nat
  | [] => 0
  | x :: r => uptoBulkEntry x + uptoBulkEntries r
def uptoBulkEntry {H : Type} : Lit × DataW H → Nat
  | (.string bytes, d) => bytes.length + uptoBulk d + 1
  | (_, d) => uptoBulk d + 1
 end
def uptoSmall : (H : Type) → List (DataW H) → Bool := fun _ ds => decide (uptoBulkAll ds ≤ 1048576)
def OpenSpec.upto (s : _root_.Go.ChangeSpec) : _root_.Go.OpenSpec := { _root_.Go.OpenSpec.ofChange s with cond := some uptoSmall }

/-- 'cabstandlaw01.NumProducts', WHERE WHAT IT READS IS OF BULK AT MOST 1048576: true; the input reads as it did. -/
def numProductsUptoRow : OpenClaim := { program := "ytdfjbghmeoephab", sum := "34ac6d3ccbd47cee0465b1fc4161416adb905b2e6e203b4e5773daa1981d8887", func := "cabstand/cabstandlaw01.NumProducts", spec := "numProducts", apart := false, narrowed := true }
def NumProductsUptoSaid : Prop := numProductsUptoRow.holds Try.pinned (OpenSpec.upto numProductsSpec)

/-- 'cabstandlaw01.NumRoots', WHERE WHAT IT READS IS OF BULK AT MOST 1048576: true; the input reads as it did. -/
def numRootsUptoRow : OpenClaim := { program := "ytdfjbghmeoephab", sum := "34ac6d3ccbd47cee0465b1fc4161416adb905b2e6e203b4e5773daa1981d8887", func := "cabstand/cabstandlaw01.NumRoots", spec := "numRoots", apart := false, narrowed := true }
def NumRootsUptoSaid : Prop := numRootsUptoRow.holds Try.pinned (OpenSpec.upto numRootsSpec)

/-- 'cabstandlaw01.NumRing', WHERE WHAT IT READS IS OF BULK AT MOST 1048576: true; the input reads as it did. -/
def numRingUptoRow : OpenClaim := { program := "ytdfjbghmeoephab", sum := "34ac6d3ccbd47cee0465b1fc4161416adb905b2e6e203b4e5773daa1981d8887", func := "cabstand/cabstandlaw01.NumRing", spec := "numRing", inPlace := ["math/bits.Add64"], apart := false, narrowed := true }
def NumRingUptoSaid : Prop := numRingUptoRow.holds Try.pinned (OpenSpec.upto numRingSpec)

/-- 'cabstandlaw01.NumOrder', WHERE WHAT IT READS IS OF BULK AT MOST 1048576: true; the input reads as it did. -/
def numOrderUptoRow : OpenClaim := { program := "ytdfjbghmeoephab", sum := "34ac6d3ccbd47cee0465b1fc4161416adb905b2e6e203b4e5773daa1981d8887", func := "cabstand/cabstandlaw01.NumOrder", spec := "numOrder", inPlace := ["math/bits.Add64"], apart := false, narrowed := true }
def NumOrderUptoSaid : Prop := numOrderUptoRow.holds Try.pinned (OpenSpec.upto numOrderSpec)

/-- 'cabstandlaw01.NumParts', WHERE WHAT IT READS IS OF BULK AT MOST 1048576: true; the input reads as it did. -/
def numPartsUptoRow : OpenClaim := { program := "ytdfjbghmeoephab", sum := "34ac6d3ccbd47cee0465b1fc4161416adb905b2e6e203b4e5773daa1981d8887", func := "cabstand/cabstandlaw01.NumParts", spec := "numParts", inPlace := ["math/bits.Add64"], apart := false, narrowed := true }
def NumPartsUptoSaid : Prop := numPartsUptoRow.holds Try.pinned (OpenSpec.upto numPartsSpec)

/-- 'cabstandlaw01.NumSquares', WHERE WHAT IT READS IS OF BULK AT MOST 1048576: true; the input reads as it did. -/
def numSquaresUptoRow : OpenClaim := { program := "ytdfjbghmeoephab", sum := "34ac6d3ccbd47cee0465b1fc4161416adb905b2e6e203b4e5773daa1981d8887", func := "cabstand/cabstandlaw01.NumSquares", spec := "numSquares", inPlace := ["math/bits.Add64"], apart := false, narrowed := true }
def NumSquaresUptoSaid : Prop := numSquaresUptoRow.holds Try.pinned (OpenSpec.upto numSquaresSpec)

/-- 'cabstandlaw01.NumSame', WHERE WHAT IT READS IS OF BULK AT MOST 1048576: true; the input reads as it did. -/
def numSameUptoRow : OpenClaim := { program := "ytdfjbghmeoephab", sum := "34ac6d3ccbd47cee0465b1fc4161416adb905b2e6e203b4e5773daa1981d8887", func := "cabstand/cabstandlaw01.NumSame", spec := "numSame", inPlace := ["math/bits.Add64"], apart := false, narrowed := true }
def NumSameUptoSaid : Prop := numSameUptoRow.holds Try.pinned (OpenSpec.upto numSameSpec)

end Rows
end Go.Proofs.Ytdfjbghmeoephab
