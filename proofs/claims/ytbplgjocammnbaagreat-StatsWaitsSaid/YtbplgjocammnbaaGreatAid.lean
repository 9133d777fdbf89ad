/- Plain facts on Go's whole numbers: what a kind holds, and its wrap-round as a remainder. -/
import Derived.RowKit
import Derived.IntWalk
namespace Go.Proofs.YtbplgjocammnbaaGreat.Aid
open Go.RowKit

theorem wf64 {a : Int} (h : (Lit.int .i64 a).wf = true) : -9223372036854775808 ≤ a ∧ a ≤ 9223372036854775807 := by
  simp only [Lit.wf, IntKind.min, IntKind.max, IntKind.signed, IntKind.bits, Bool.and_eq_true, decide_eq_true_eq, if_true] at h
  omega
theorem i8_eq (n : Int) : IntKind.i8.wrap n = (n + 128) % 256 - 128 := by
  have e : IntKind.i8.wrap n = if n % 256 ≥ 128 then n % 256 - 256 else n % 256 := by simp [IntKind.wrap, IntKind.signed, IntKind.bits]
  rw [e]
  split <;> omega
theorem i16_eq (n : Int) : IntKind.i16.wrap n = (n + 32768) % 65536 - 32768 := by
  have e : IntKind.i16.wrap n = if n % 65536 ≥ 32768 then n % 65536 - 65536 else n % 65536 := by simp [IntKind.wrap, IntKind.signed, IntKind.bits]
  rw [e]
  split <;> omega
theorem w32_eq (n : Int) : wrap32 n = (n + 2147483648) % 4294967296 - 2147483648 := by unfold wrap32; rfl
theorem w64_eq (n : Int) : wrap64 n = (n + 9223372036854775808) % 18446744073709551616 - 9223372036854775808 := by unfold wrap64; rfl
theorem w64_in {n : Int} (h : -9223372036854775808 ≤ n) (h' : n ≤ 9223372036854775807) : wrap64 n = n := by rw [w64_eq]; omega
theorem w64_i8 (n : Int) : wrap64 (IntKind.i8.wrap n) = IntKind.i8.wrap n := by rw [w64_eq, i8_eq]; omega
theorem w64_i16 (n : Int) : wrap64 (IntKind.i16.wrap n) = IntKind.i16.wrap n := by rw [w64_eq, i16_eq]; omega
theorem w64_w32 (n : Int) : wrap64 (wrap32 n) = wrap32 n := by rw [w64_eq, w32_eq]; omega
end Go.Proofs.YtbplgjocammnbaaGreat.Aid
