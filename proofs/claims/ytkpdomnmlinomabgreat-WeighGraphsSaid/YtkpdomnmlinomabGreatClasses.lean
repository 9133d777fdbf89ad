/- The contract of the document's classes: which bits are set. -/
import Derived.Test.YtkpdomnmlinomabGreatRows
import Derived.Test.YtkpdomnmlinomabGreatMem
import Derived.Test.YtkpdomnmlinomabGreatAid
import Derived.WalkKit
import Derived.WalkSpells
import Derived.WalkLawsBesides
import Derived.Lib.Hide
import Derived.Handy
namespace Go.Proofs.YtkpdomnmlinomabGreat.Classes
open Go.RowKit Go.Proofs.YtkpdomnmlinomabGreat.Aid Go.Proofs.YtkpdomnmlinomabGreat.Mem
set_option linter.unusedSimpArgs false
/-- The bits of a number. -/
def cls8 (x : Int) : Array Value := #[.bool (x % 2 == 1), .bool (x / 2 % 2 == 1), .bool (x / 2 / 2 % 2 == 1), .bool (x / 2 / 2 / 2 % 2 == 1), .bool (x / 2 / 2 / 2 / 2 % 2 == 1), .bool (x / 2 / 2 / 2 / 2 / 2 % 2 == 1), .bool (x / 2 / 2 / 2 / 2 / 2 / 2 % 2 == 1), .bool (x / 2 / 2 / 2 / 2 / 2 / 2 / 2 % 2 == 1)]
set_option maxHeartbeats 4000000 in
set_option maxRecDepth 100000 in
theorem classes_c (x : Int) (w : World) (h0 : 0 ≤ x) (h1 : x ≤ 255) : Calls Tryz.prog 169 #[.int .u8 x] w fun e w' => e = .returned (.agg (cls8 x)) ∧ ∃ o1 o2, w' = (w.alloc o1).alloc o2 := by
  go_enter Tryz.func169, Tryz.ntmps169
  go_wp2
  go_rounds 9
  refine bodyPost_ret (v := .agg (cls8 x)) ?_ rfl ?_
  · simp [results, Tryz.results169, go_sem, cls8]
  exact ⟨rfl, _, _, rfl⟩
theorem cls8_size (x : Int) : (cls8 x).size = 8 := rfl
theorem cls8_get (x : Int) (k : Int) (h0 : 0 ≤ k) (h1 : k ≤ 7) : (cls8 x)[k.toNat]? = some (.bool (x / 2 ^ k.toNat % 2 == 1)) := by
  have e2 : x / 2 / 2 = x / 4 := by omega
  have e3 : x / 2 / 2 / 2 = x / 8 := by omega
  have e4 : x / 2 / 2 / 2 / 2 = x / 16 := by omega
  have e5 : x / 2 / 2 / 2 / 2 / 2 = x / 32 := by omega
  have e6 : x / 2 / 2 / 2 / 2 / 2 / 2 = x / 64 := by omega
  have e7 : x / 2 / 2 / 2 / 2 / 2 / 2 / 2 = x / 128 := by omega
  have z : x / 1 = x := by omega
  unfold cls8
  rw [e7, e6, e5, e4, e3, e2]
  obtain rfl | rfl | rfl | rfl | rfl | rfl | rfl | rfl : k = 0 ∨ k = 1 ∨ k = 2 ∨ k = 3 ∨ k = 4 ∨ k = 5 ∨ k = 6 ∨ k = 7 := by omega
  · simp
  all_goals rfl
end Go.Proofs.YtkpdomnmlinomabGreat.Classes
