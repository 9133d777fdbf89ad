/- A summary out of its numbers' bits. -/
import Derived.Test.YtmpjcjgdjimioaaJoinA
import Derived.Test.YtmpjcjgdjimioaaJoinR
import Derived.Test.YtmpjcjgdjimioaaSQuant
import Derived.BigRegion
import Derived.Deep.RegionHeld3
namespace Go.Proofs.Ytmpjcjgdjimioaa.Sumy
open Ieee Go.RowKit Go.Proofs.Ytmpjcjgdjimioaa.Aid Go.Proofs.Ytmpjcjgdjimioaa.Mem Go.Proofs.Ytmpjcjgdjimioaa.Nums Go.Proofs.Ytmpjcjgdjimioaa.Keep Go.Proofs.Ytmpjcjgdjimioaa.Has Go.Proofs.Ytmpjcjgdjimioaa.Recs Go.Proofs.Ytmpjcjgdjimioaa.Of Go.Proofs.Ytmpjcjgdjimioaa.Fl Go.Proofs.Ytmpjcjgdjimioaa.RefOf Go.Proofs.Ytmpjcjgdjimioaa.SOf Go.Proofs.Ytmpjcjgdjimioaa.SQuant Go.Proofs.Ytmpjcjgdjimioaa.May Go.Proofs.Ytmpjcjgdjimioaa.JoinD Go.Proofs.Ytmpjcjgdjimioaa.Join
set_option linter.unusedSimpArgs false
set_option linter.unusedVariables false
set_option maxRecDepth 100000
theorem sa_drew (W : World) (g : Nat) (hg : W.heap.size = g) (u : Su) : ∃ W', (SA 25 (.pointer (some ⟨g, 0, none⟩)) (.agg #[.int .i64 u.c, .float .f64 u.m, .float .f64 u.v, .int .i64 u.l, .int .i64 u.o])).run Try.prog (W.alloc (.cells #[.int .i64 0, .float .f64 0, .float .f64 0, .int .i64 0, .int .i64 0] 25)).drew = .ok () W' ∧ Blk W' g 25 u.list ∧ Below g W W' := by
  subst hg
  have h0 := (Blk.new W 25 [.int .i64 0, .float .f64 0, .float .f64 0, .int .i64 0, .int .i64 0]).drew
  refine ⟨_, stores_mid (cs := u.list) h0 (by simp) (by show _ = some 5; kernel_rfl) (su_one u), ?_, below_sets (Nat.le_refl _) _ _ _ (alloc_below _ _).drew⟩
  have := Blk.puts u.list 0 _ _ h0 (by simp)
  simpa using this
attribute [local go_sem ↓] store_sum load_sum
set_option maxHeartbeats 4000000 in
theorem summary_c (s : Su) (w : World) : Calls Try.prog 26 #[.agg #[.int .i64 s.c, .int .u64 (s.m : Int), .int .u64 (s.v : Int), .int .i64 s.l, .int .i64 s.o]] w fun e w' => e = .returned (.agg #[.int .i64 s.c, .float .f64 s.m, .float .f64 s.v, .int .i64 s.l, .int .i64 s.o]) ∧ Below w.heap.size w w' := by
  have r1 := from_run s.m
  have r2 := from_run s.v
  obtain ⟨w9, s9, b9, h9⟩ := sa_drew (w.alloc (.cells #[.int .i64 s.c, .int .u64 (s.m : Int), .int .u64 (s.v : Int), .int .i64 s.l, .int .i64 s.o] 50)) (w.heap.size + 1) (size_alloc _ _) s
  have B9 := Lib.hid b9
  have H9 := Lib.hid h9
  clear b9 h9
  go_enter Try.func26, Try.ntmps26
  go_wp2
  go_region
  go_wp2
  all_goals
    exact bodyPost_ret (results_cell_row rfl _ _ (w.heap.size + 1) 25 s.list.toArray (0, 0) _ rfl B9.out Try.underlying25 rfl (by show _ = some 5; kernel_rfl)) rfl ⟨rfl, (alloc_below w _).trans (H9.out.mono (by simp))⟩
end Go.Proofs.Ytmpjcjgdjimioaa.Sumy
