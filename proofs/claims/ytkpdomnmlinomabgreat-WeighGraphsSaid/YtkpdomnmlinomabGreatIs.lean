/- What a number is, and the contracts of the functions that ask it. -/
import Derived.Test.YtkpdomnmlinomabGreatRows
import Derived.Test.YtkpdomnmlinomabGreatAid
import Derived.WalkKit
import Derived.WalkSpells
import Derived.Lib.Hide
namespace Go.Proofs.YtkpdomnmlinomabGreat.Nums
open Go.RowKit Go.Proofs.YtkpdomnmlinomabGreat.Aid
set_option linter.unusedSimpArgs false

/-- Is it a number? -/
def isN (a : Int) : Bool := decide (-4611686018427387903 ≤ a ∧ a ≤ 4611686018427387903)
theorem isN_t {a : Int} (h : -4611686018427387903 ≤ a ∧ a ≤ 4611686018427387903) : isN a = true := decide_eq_true h
theorem isN_f {a : Int} (h : ¬ (-4611686018427387903 ≤ a ∧ a ≤ 4611686018427387903)) : isN a = false := decide_eq_false h
theorem isN_of {a : Int} (h : isN a = true) : -4611686018427387903 ≤ a ∧ a ≤ 4611686018427387903 := of_decide_eq_true h
theorem isN_not {a : Int} (h : isN a = false) : ¬ (-4611686018427387903 ≤ a ∧ a ≤ 4611686018427387903) := of_decide_eq_false h
theorem u64_eq (n : Int) : IntKind.u64.wrap n = n % 18446744073709551616 := by simp [IntKind.wrap, IntKind.signed, IntKind.bits]

theorem is_c (a : Int) (w : World) : Calls Tryz.prog 164 #[.int .i64 a] w fun e w' => e = .returned (.bool (isN a)) ∧ w = w' := by
  by_cases h1 : -4611686018427387903 ≤ a
  · have hd : decide (a ≤ 4611686018427387903) = isN a := by simp [isN, h1]
    go_enter Tryz.func164, Tryz.ntmps164
    go_wp2
    go_ret
    exact ⟨by first | rfl | (simp [hd]; done), rfl⟩
  · have hd : isN a = false := isN_f (fun h => h1 h.1)
    rw [hd]
    go_enter Tryz.func164, Tryz.ntmps164
    go_wp2
    go_ret
    exact ⟨by first | rfl | (simp; done), rfl⟩
end Go.Proofs.YtkpdomnmlinomabGreat.Nums
