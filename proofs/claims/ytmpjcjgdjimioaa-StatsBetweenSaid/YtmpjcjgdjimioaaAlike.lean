/- alike: two summaries of the same cells are. -/
import Derived.Test.YtmpjcjgdjimioaaRefOf
namespace Go.Proofs.Ytmpjcjgdjimioaa.Alike
open Ieee Go.RowKit Go.Proofs.Ytmpjcjgdjimioaa.Aid Go.Proofs.Ytmpjcjgdjimioaa.Mem Go.Proofs.Ytmpjcjgdjimioaa.Keep Go.Proofs.Ytmpjcjgdjimioaa.Has Go.Proofs.Ytmpjcjgdjimioaa.Recs Go.Proofs.Ytmpjcjgdjimioaa.Of Go.Proofs.Ytmpjcjgdjimioaa.RefOf
set_option linter.unusedSimpArgs false
set_option linter.unusedVariables false
set_option maxRecDepth 100000
set_option maxHeartbeats 4000000 in
theorem alike_v (c l o : Int) (m v : Nat) (w : World) : Calls Try.prog 16 #[.agg #[.int .i64 c, .float .f64 m, .float .f64 v, .int .i64 l, .int .i64 o], .agg #[.int .i64 c, .float .f64 m, .float .f64 v, .int .i64 l, .int .i64 o]] w fun e w' => e = .returned (.bool true) ∧ Below w.heap.size w w' := by
  have b1 := bits_run m
  have b2 := bits_run v
  have e1 : (c == c) = true := by simp
  have e2 : (l == l) = true := by simp
  have e3 : (o == o) = true := by simp
  have e4 : ((m : Int) == (m : Int)) = true := by simp
  have e5 : ((v : Int) == (v : Int)) = true := by simp
  go_enter Try.func16, Try.ntmps16
  go_wp2_with (fail)
  go_quiet (fail)
  go_wp2
  go_ret
  exact ⟨rfl, below_drewN (kba (kba (Below.refl _ _) _) _) _⟩
end Go.Proofs.Ytmpjcjgdjimioaa.Alike
