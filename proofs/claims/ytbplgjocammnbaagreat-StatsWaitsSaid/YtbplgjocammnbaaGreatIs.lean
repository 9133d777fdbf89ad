/- What a number is, and the contracts of the functions that ask it. -/
import Derived.Test.YtbplgjocammnbaaGreatRows
import Derived.Test.YtbplgjocammnbaaGreatAid
import Derived.WalkKit
import Derived.WalkSpells
import Derived.Lib.Hide
namespace Go.Proofs.YtbplgjocammnbaaGreat.Nums
open Go.RowKit Go.Proofs.YtbplgjocammnbaaGreat.Aid
set_option linter.unusedSimpArgs false

/-- Is it a number? -/
def isN (a : Int) : Bool := decide (-4611686018427387903 ≤ a ∧ a ≤ 4611686018427387903)
theorem isN_t {a : Int} (h : -4611686018427387903 ≤ a ∧ a ≤ 4611686018427387903) : isN a = true := decide_eq_true h
theorem isN_f {a : Int} (h : ¬ (-4611686018427387903 ≤ a ∧ a ≤ 4611686018427387903)) : isN a = false := decide_eq_false h
theorem isN_of {a : Int} (h : isN a = true) : -4611686018427387903 ≤ a ∧ a ≤ 4611686018427387903 := of_decide_eq_true h
theorem isN_not {a : Int} (h : isN a = false) : ¬ (-4611686018427387903 ≤ a ∧ a ≤ 4611686018427387903) := of_decide_eq_false h
theorem u64_eq (n : Int) : IntKind.u64.wrap n = n % 18446744073709551616 := by simp [IntKind.wrap, IntKind.signed, IntKind.bits]

end Go.Proofs.YtbplgjocammnbaaGreat.Nums
